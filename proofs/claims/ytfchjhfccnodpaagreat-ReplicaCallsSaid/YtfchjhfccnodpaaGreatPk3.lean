/-
  STEPPING, ONCE MORE: more kinds of operations by themselves; where a call or a greater operation stands the walk stops. No condition. / Facts on the program's types (printed by a program). No condition. / More facts on the program's types (printed by a program). No condition. / WHAT STAYS; SLICES AND BYTES IN AN ABSTRACT HEAP; the rules for stepping, as one set. No condition. / ACTIVATIONS BY SLOTS; LOOPS; ROWS OF STRUCTS. No condition. / THE WALK, BY RULES: what is left to show stands behind structures, so that nothing of it is unfolded by chance. Frames are rows of slots, heaps are maps of names. No condition. / THE WALK, BY RULES: operations. No condition. / WHAT LIES IN MEMORY: bytes, events; entering a function, its results; slices.Clone. No condition.
-/
import Derived.Test.YtfchjhfccnodpaaGreatPk2
import Derived.Lib.Strings
import Derived.IntWalk
section
namespace Go.Proofs.YtfchjhfccnodpaaGreat
set_option linter.unusedSimpArgs false
set_option linter.unusedVariables false

def unV (op : UnOp) (v : Value) : Option Value :=
  match op, v with
  | .not, .bool b => some (.bool !b)
  | _, _ => none

def placesL (P : Program) (t : TypeId) : Option (List (Nat × Nat)) :=
  match P.underlying t with
  | some (.struct fields) => (pureRun P (fields.mapM fun f => do pure (f.offset, ← sizeOf f.type))).map (·.toList)
  | _ => none

def fillL (pl : List (Nat × Nat)) : List Value → List (Nat × Value) → Option (List Value)
  | cs, [] => some cs
  | cs, (i, v) :: r => (pl[i]?).bind fun q => if v.cells.size = q.2 ∧ q.1 + q.2 ≤ cs.length then fillL pl (splice cs q.1 v.cells.toList) r else none

theorem foldl_splice : ∀ (vs : List Value) (cs : Array Value) (o j : Nat), o + j + vs.length ≤ cs.size → ((vs.zipIdx j).foldl (fun (cs : Array Value) (x : Value × Nat) => cs.setIfInBounds (o + x.2) x.1) cs).toList = splice cs.toList (o + j) vs
  | [], cs, o, j, h => by simp [splice]
  | v :: vs, cs, o, j, h => by
    simp only [List.length_cons] at h
    rw [List.zipIdx_cons, List.foldl_cons, foldl_splice vs _ o (j + 1) (by simp; omega)]
    simp only [splice, Array.toList_setIfInBounds, List.length_cons]
    rw [show o + (j + 1) = o + j + 1 by omega, show o + j + 1 + vs.length = o + j + (vs.length + 1) by omega]
    have h1 : o + j < cs.toList.length := by simp; omega
    rw [List.take_succ_eq_append_getElem (by simpa using h1), List.getElem_set_self, List.take_set_of_le (by omega), List.drop_set_of_lt (by omega)]
    simp

theorem fill_L {f : Nat → Option (Nat × Nat)} {pl : List (Nat × Nat)} (hf : ∀ i q, pl[i]? = some q → f i = some q) : ∀ (vs : List (Nat × Value)) (cs : List Value) (a : Array Value) (r : List Value), a.toList = cs → fillL pl cs vs = some r → Instr.fill f a vs = some r.toArray
  | [], cs, a, r, ha, h => by
    simp only [fillL, Option.some.injEq] at h
    subst h; subst ha; simp [Instr.fill]
  | (i, v) :: vs, cs, a, r, ha, h => by
    simp only [fillL, Option.bind_eq_some_iff] at h
    obtain ⟨⟨o, s⟩, h1, h2⟩ := h
    split at h2
    case isFalse => cases h2
    rename_i hc
    simp only at hc
    have hs : a.size = cs.length := by rw [← ha]; simp
    simp only [Instr.fill, hf i _ h1]
    rw [if_neg (by simp only [Bool.or_eq_true, decide_eq_true_eq, bne_iff_ne, ne_eq]; omega)]
    refine fill_L hf vs _ _ r ?_ h2
    have := foldl_splice v.cells.toList a o 0 (by simp; omega)
    rw [Nat.add_zero, ha] at this
    rw [← this]
    rw [← Array.foldl_toList, Array.toList_zipIdx]

def lenV : Value → Option Int
  | .slice _ n _ => some n
  | .string s => some s.size
  | _ => none
def fnId : Fn → Option FuncId
  | .func f => some f
  | _ => none

def elemZ (P : Program) (t : TypeId) : Option (List Value) :=
  match P.underlying t with
  | some (.slice e) => (zeroP P e).map (·.cells.toList)
  | _ => none

def rep (z : List Value) : Nat → List Value
  | 0 => []
  | n + 1 => z ++ rep z n
def plc (s : Nat) : Nat → Nat → List (Nat × Nat)
  | _, 0 => []
  | o, n + 1 => (o, s) :: plc s (o + s) n

def binD (d : TypeDesc) (op : BinOp) (u v : Value) : Option Value :=
  match u, v with
  | .int k a, .int k' b => if k = k' then intV op k a b else none
  | .string x, .string y => strV op x y
  | .bool x, .bool y => match op, d with
    | .eql, .bool => some (.bool (x == y))
    | .neq, .bool => some (.bool !(x == y))
    | _, _ => none
  | .pointer none, .pointer none => match op, d with
    | .eql, .pointer _ => some (.bool true)
    | .neq, .pointer _ => some (.bool false)
    | _, _ => none
  | .pointer (some _), .pointer none => match op, d with
    | .eql, .pointer _ => some (.bool false)
    | .neq, .pointer _ => some (.bool true)
    | _, _ => none
  | .slice none _ _, .slice none _ _ => match op, d with
    | .eql, .slice _ => some (.bool true)
    | .neq, .slice _ => some (.bool false)
    | _, _ => none
  | .slice (some _) _ _, .slice none _ _ => match op, d with
    | .eql, .slice _ => some (.bool false)
    | .neq, .slice _ => some (.bool true)
    | _, _ => none
  | _, _ => none

theorem binD_ok {P : Program} {t : TypeId} {d : TypeDesc} {op : BinOp} {u v r : Value} (hu : P.underlying t = some d) (h : binD d op u v = some r) : binV P op t u v = some r := by
  unfold binD at h
  unfold binV
  split at h <;> simp only [hu] at h ⊢
  · exact h
  · exact h
  all_goals first
    | (cases h; done)
    | (split at h <;> first | (cases h; done) | exact h)

def binS (P : Program) (op : BinOp) (t : TypeId) (u v : Value) : Option Value :=
  match u, v with
  | .int k a, .int k' b => if k = k' then intV op k a b else none
  | .string x, .string y => strV op x y
  | u, v => (P.underlying t).bind fun d => binD d op u v

theorem binS_ok {P : Program} {op : BinOp} {t : TypeId} {u v r : Value} (h : binS P op t u v = some r) : binV P op t u v = some r := by
  unfold binS at h
  split at h
  · exact h
  · exact h
  · obtain ⟨d, h1, h2⟩ := Option.bind_eq_some_iff.1 h
    exact binD_ok h1 h2

def lenD (d : TypeDesc) (v : Value) : Bool :=
  match d, v with
  | .string, .string _ => true
  | .slice _, .slice _ _ _ => true
  | _, _ => false

def stepN (E : Env) (a : Act) (σ : Heap) (nm : Nat) (o : Oper) (k : KK) : Prop :=
  match o.op with
  | .binOp op t x y _ => obind (aeval a x) fun u => obind (aeval a y) fun v => obind (binS E.P op t u v) fun r => k (a.put o.dst r) σ [] []
  | .indexAddr t x ix => obind (elemS E.P t) fun s => obind (aeval a ix) fun i => obind (asI i) fun i => obind (aeval a x) fun v => obind (asSl v) fun q =>
      cbind (0 ≤ i ∧ i < q.2.2.1) (k (a.put o.dst (.pointer (some ⟨q.1, q.2.1 + i.toNat * s, none⟩))) σ [] [])
  | .unOp op _ x => obind (aeval a x) fun v => obind (unV op v) fun r => k (a.put o.dst r) σ [] []
  | .build t ps => obind (placesL E.P t) fun pl => obind (zeroP E.P t) fun z => obind (evParts (aeval a) ps.toList) fun vs => obind (fillL pl z.cells.toList vs) fun cs => k (a.put o.dst (.agg cs.toArray)) σ [] []
  | .makeFunc fn fs cs => obind (fnId fn) fun g => obind (evList (aeval a) fs.toList) fun x => obind (evList (aeval a) cs.toList) fun y => k (a.put o.dst (.func (.func g) x.toArray y.toArray)) σ [] []
  | .buildSlice t n ps => obind (elemS E.P t) fun s => obind (elemZ E.P t) fun z => obind (evParts (aeval a) ps.toList) fun vs => obind (fillL (plc s 0 n) (rep z n) vs) fun cs =>
      cbind (0 < s ∧ n * s ≤ 16777216 ∧ z.length = s ∧ plainL plainV z = true) (k (a.put o.dst (.slice (some ⟨nm, 0, none⟩) n n)) (σ.upd nm (some (.cells cs s false))) [nm] [nm])
  | .call c => match c.callee with
    | .builtin .len => obind c.args[0]? fun x => obind c.argTypes[0]? fun t => obind (aeval a x) fun v => obind (lenV v) fun n => obind (E.P.underlying t) fun d => cbind (c.args.size = 1 ∧ c.argTypes.size = 1 ∧ lenD d v = true) (k (a.put o.dst (.int .i64 n)) σ [] [])
    | .builtin .min => obind c.args[0]? fun x => obind c.args[1]? fun y => obind (aeval a x) fun u => obind (aeval a y) fun v => obind (asI u) fun m => obind (asI v) fun n => cbind (c.args.size = 2 ∧ u = .int .i64 m ∧ v = .int .i64 n) (k (a.put o.dst (.int .i64 (min m n))) σ [] [])
    | .builtin .max => obind c.args[0]? fun x => obind c.args[1]? fun y => obind (aeval a x) fun u => obind (aeval a y) fun v => obind (asI u) fun m => obind (asI v) fun n => cbind (c.args.size = 2 ∧ u = .int .i64 m ∧ v = .int .i64 n) (k (a.put o.dst (.int .i64 (max m n))) σ [] [])
    | _ => False
  | _ => stepK E a σ nm o k

theorem rep_get (z : List Value) : ∀ (n i : Nat), i < n * z.length → (rep z n)[i]? = z[i % z.length]?
  | 0, i, h => by simp at h
  | n + 1, i, h => by
    simp only [rep]
    by_cases hi : i < z.length
    · rw [List.getElem?_append_left hi, Nat.mod_eq_of_lt hi]
    · rw [List.getElem?_append_right (by omega), rep_get z n (i - z.length) (by rw [Nat.add_mul] at h; omega), ← Nat.mod_eq_sub_mod (by omega)]
theorem rep_len (z : List Value) : ∀ n, (rep z n).length = n * z.length
  | 0 => by simp [rep]
  | n + 1 => by simp only [rep, List.length_append, rep_len z n, Nat.add_mul]; omega
theorem plc_get (s : Nat) : ∀ (n o i : Nat) (q : Nat × Nat), (plc s o n)[i]? = some q → q = (o + i * s, s)
  | 0, o, i, q, h => by simp [plc] at h
  | n + 1, o, 0, q, h => by simp only [plc, List.getElem?_cons_zero, Option.some.injEq] at h; rw [← h]; simp
  | n + 1, o, i + 1, q, h => by
    simp only [plc, List.getElem?_cons_succ] at h
    rw [plc_get s n (o + s) i q h, Nat.add_mul]
    congr 1; omega

theorem arr1 {α : Type} {a : Array α} {x : α} (h : a[0]? = some x) (hs : a.size = 1) : a.toList = [x] := by
  obtain ⟨l⟩ := a
  simp at h hs
  match l, hs with
  | [y], _ => simp at h; simp [h]
theorem arr2 {α : Type} {a : Array α} {x y : α} (h : a[0]? = some x) (h' : a[1]? = some y) (hs : a.size = 2) : a.toList = [x, y] := by
  obtain ⟨l⟩ := a
  simp at h h' hs
  match l, hs with
  | [u, v], _ => simp at h h'; simp [h, h']

theorem stepN_ok {E : Env} {a : Act} {σ : Heap} {nm : Nat} {o : Oper} {k : KK} (h : stepN E a σ nm o k) : stepG E a σ nm o k := by
  obtain ⟨dst, op, ty, pos, af, g⟩ := o
  unfold stepN at h
  cases op <;> simp only at h <;> first | exact stepK_ok h | skip
  case binOp op t x y yt =>
    replace h := obind_spec h; obtain ⟨u, h1, h⟩ := h
    replace h := obind_spec h; obtain ⟨v, h2, h⟩ := h
    replace h := obind_spec h; obtain ⟨r, h4, h⟩ := h
    exact stepG_val (v := r) (by simp only [aop, binV_ok h1 h2 (binS_ok h4), Option.map_some]) h
  case indexAddr t x ix =>
    replace h := obind_spec h; obtain ⟨s, hs, h⟩ := h
    replace h := obind_spec h; obtain ⟨iv, h1, h⟩ := h
    replace h := obind_spec h; obtain ⟨i, h2, h⟩ := h
    replace h := obind_spec h; obtain ⟨v, h3, h⟩ := h
    replace h := obind_spec h; obtain ⟨q, h4, h⟩ := h
    obtain ⟨hc, h⟩ := h
    obtain ⟨k', rfl⟩ := asI_spec h2
    have := asSl_spec h4; subst this
    unfold elemS at hs
    split at hs
    case h_2 => cases hs
    rename_i e hu
    exact stepG_val (v := _) (by simp only [aop, aIndexAddr, h1, h3, hu, hs, Option.bind_some, if_pos hc, Option.map_some]) h
  case unOp op t x =>
    replace h := obind_spec h; obtain ⟨v, h1, h⟩ := h
    replace h := obind_spec h; obtain ⟨r, h2, h⟩ := h
    unfold unV at h2
    split at h2
    case h_2 => cases h2
    cases h2
    rename_i b
    refine stepG_val (v := .bool !b) ?_ h
    simp only [aop, plainEv, h1, Option.bind_some]
    rw [if_pos (show plainV (.bool b) = true from rfl)]
    simp only [Option.bind_some]
    rfl
  case build t ps =>
    replace h := obind_spec h; obtain ⟨pl, h1, h⟩ := h
    replace h := obind_spec h; obtain ⟨z, h2, h⟩ := h
    replace h := obind_spec h; obtain ⟨vs, h3, h⟩ := h
    replace h := obind_spec h; obtain ⟨cs, h4, h⟩ := h
    unfold placesL at h1
    split at h1
    case h_2 => cases h1
    rename_i fields hu
    obtain ⟨q, e1, rfl⟩ := Option.map_eq_some_iff.1 h1
    refine stepG_val (v := .agg cs.toArray) ?_ h
    have hp : placesO E.P t = some (q[·]?) := by
      unfold placesO
      rw [hu]
      simp only [Option.bind_some, e1, Option.map_some]
    have hfill : Instr.fill (q[·]?) z.cells vs = some cs.toArray := fill_L (f := (q[·]?)) (pl := q.toList) (fun i x hx => by simpa using hx) vs _ z.cells cs rfl h4
    simp only [aop, aBuild, h2, hp, h3, Option.bind_some]
    rw [hfill]; rfl
  case buildSlice t n ps =>
    replace h := obind_spec h; obtain ⟨s, h1, h⟩ := h
    replace h := obind_spec h; obtain ⟨z, h2, h⟩ := h
    replace h := obind_spec h; obtain ⟨vs, h3, h⟩ := h
    replace h := obind_spec h; obtain ⟨cs, h4, h⟩ := h
    obtain ⟨⟨c1, c2, c3, c4⟩, h⟩ := h
    unfold elemS at h1
    split at h1
    case h_2 => cases h1
    rename_i e hu
    unfold elemZ at h2
    rw [hu] at h2
    simp only at h2
    obtain ⟨zz, e1, rfl⟩ := Option.map_eq_some_iff.1 h2
    have hzs : zz.cells.size = s := by simpa using c3
    have hrow : ((Array.range (n * s)).map (zz.cells[· % zz.cells.size]!)).toList = rep zz.cells.toList n := by
      apply List.ext_getElem?
      intro i
      rw [Array.toList_map, List.getElem?_map, Array.toList_range]
      by_cases hi : i < n * s
      · rw [List.getElem?_range hi, rep_get _ _ _ (by simpa [hzs] using hi)]
        have hlt : i % zz.cells.size < zz.cells.size := Nat.mod_lt _ (by omega)
        simp only [Option.map_some, Array.length_toList, Array.getElem?_toList]
        rw [Array.getElem?_eq_getElem hlt, getElem!_pos zz.cells _ hlt]
      · rw [List.getElem?_eq_none (by simpa using hi), List.getElem?_eq_none (by rw [rep_len]; simpa [hzs] using hi)]; rfl
    have hfill : Instr.fill (fun i => some (i * s, s)) ((Array.range (n * s)).map (zz.cells[· % zz.cells.size]!)) vs = some cs.toArray :=
      fill_L (pl := plc s 0 n) (fun i x hx => by rw [plc_get s n 0 i x hx]; simp) vs _ _ cs hrow h4
    refine ⟨Prim.newSlice cs s n, ⟨.slice (some ⟨nm, 0, none⟩) n n, none, some (.cells cs s false)⟩, ?_, rfl, rfl, h⟩
    have hc : (decide (n * s ≤ 2 ^ 24) && decide (0 < s) && decide (zz.cells.size = s) && plainL plainV zz.cells.toList) = true := by simp [c1, hzs, c4]; omega
    simp only [aop, aBuildSlice, hu, h1, e1, h3, Option.bind_some]
    rw [if_pos hc, hfill]
    simp
  case makeFunc fn fs cs =>
    replace h := obind_spec h; obtain ⟨g', h1, h⟩ := h
    replace h := obind_spec h; obtain ⟨x, h2, h⟩ := h
    replace h := obind_spec h; obtain ⟨y, h3, h⟩ := h
    unfold fnId at h1
    split at h1
    case h_2 => cases h1
    cases h1
    exact stepG_val (v := _) (by simp only [aop, aMakeFunc, h2, h3, Option.bind_some, Option.map_some]) h
  case call c =>
    obtain ⟨callee, args, ts⟩ := c
    split at h
    · rename_i hb
      simp only at hb; subst hb
      replace h := obind_spec h; obtain ⟨x, h1, h⟩ := h
      replace h := obind_spec h; obtain ⟨t, h2, h⟩ := h
      replace h := obind_spec h; obtain ⟨v, h3, h⟩ := h
      replace h := obind_spec h; obtain ⟨n, h4, h⟩ := h
      replace h := obind_spec h; obtain ⟨d, hu, h⟩ := h
      obtain ⟨⟨c1, c2, c3⟩, h⟩ := h
      refine stepG_val (v := .int .i64 n) ?_ h
      simp only at h1 h2 c1 c2
      simp only [aop, aCall, arr1 h1 c1, evList, h3, Option.bind_some, Option.map_some, aBuiltin, arr1 h2 c2]
      unfold lenD at c3
      split at c3
      · rename_i s
        simp only [lenV, Option.some.injEq] at h4
        subst h4
        simp only [aLen, hu, Option.map_some]
      · rename_i e p m c'
        simp only [lenV, Option.some.injEq] at h4
        subst h4
        simp only [aLen, hu, Option.map_some]
      · cases c3
    · rename_i hb
      simp only at hb; subst hb
      replace h := obind_spec h; obtain ⟨x, h1, h⟩ := h
      replace h := obind_spec h; obtain ⟨y, h2, h⟩ := h
      replace h := obind_spec h; obtain ⟨u, h3, h⟩ := h
      replace h := obind_spec h; obtain ⟨v, h4, h⟩ := h
      replace h := obind_spec h; obtain ⟨m, h5, h⟩ := h
      replace h := obind_spec h; obtain ⟨n, h6, h⟩ := h
      obtain ⟨⟨c1, rfl, rfl⟩, h⟩ := h
      rw [show min m n = (if n < m then n else m) by rw [Int.min_def]; split <;> split <;> omega] at h
      refine stepG_val (v := .int .i64 (if n < m then n else m)) ?_ h
      simp only at h1 h2 c1
      simp only [aop, aCall, arr2 h1 h2 c1, evList, h3, h4, Option.bind_some, Option.map_some, aBuiltin]
      rw [if_pos (show plainL plainV [.int .i64 m, .int .i64 n] = true from rfl)]
      rfl
    · rename_i hb
      simp only at hb; subst hb
      replace h := obind_spec h; obtain ⟨x, h1, h⟩ := h
      replace h := obind_spec h; obtain ⟨y, h2, h⟩ := h
      replace h := obind_spec h; obtain ⟨u, h3, h⟩ := h
      replace h := obind_spec h; obtain ⟨v, h4, h⟩ := h
      replace h := obind_spec h; obtain ⟨m, h5, h⟩ := h
      replace h := obind_spec h; obtain ⟨n, h6, h⟩ := h
      obtain ⟨⟨c1, rfl, rfl⟩, h⟩ := h
      rw [show max m n = (if n > m then n else m) by rw [Int.max_def]; split <;> split <;> omega] at h
      refine stepG_val (v := .int .i64 (if n > m then n else m)) ?_ h
      simp only at h1 h2 c1
      simp only [aop, aCall, arr2 h1 h2 c1, evList, h3, h4, Option.bind_some, Option.map_some, aBuiltin]
      rw [if_pos (show plainL plainV [.int .i64 m, .int .i64 n] = true from rfl)]
      rfl
    · exact h.elim

def easy (o : Oper) : Bool :=
  match o.op with
  | .move _ => true
  | .assign _ => true
  | .pick _ _ _ => true
  | .alloc _ => true
  | .box _ _ => true
  | .load _ _ => true
  | .store _ _ _ => true
  | .nilCheck _ => true
  | .binOp _ _ _ _ _ => true
  | .fieldAddr _ _ _ => true
  | .field _ _ _ => true
  | .indexAddr _ _ _ => true
  | .extract _ _ => true
  | .unOp _ _ _ => true
  | .build _ _ => true
  | .makeFunc _ _ _ => true
  | .buildSlice _ _ _ => true
  | .call c => match c.callee with
    | .builtin .len => true
    | .builtin .min => true
    | .builtin .max => true
    | _ => false
  | _ => false


def At (E : Env) (ops : Array Oper) (base i : Nat) (o : Oper) (os : List Oper) (a : Act) (σ : Heap) (K : Act → Heap → Prop) : Prop :=
  ops[i]? = some o → Region.wanted o (yielded ops a.tmps) = true → (∀ j p, os[j]? = some p → ops[i + 1 + j]? = some p) → runL E ops base (i :: List.range' (i + 1) os.length) a σ K

theorem cases2_t (x y : Prop) : cases2 true x y = x := rfl
theorem cases2_f (x y : Prop) : cases2 false x y = y := rfl
@[congr] theorem cases2_congr {b b' : Bool} (h : b = b') (x y : Prop) : cases2 b x y = cases2 b' x y := by rw [h]
def gbind (g : Option (Nat × Bool)) (x : Prop) (y : Nat → Bool → Prop) : Prop :=
  match g with
  | none => x
  | some q => y q.1 q.2
theorem gbind_none (x : Prop) (y : Nat → Bool → Prop) : gbind none x y = x := rfl
theorem gbind_some (j : Nat) (b : Bool) (x : Prop) (y : Nat → Bool → Prop) : gbind (some (j, b)) x y = y j b := rfl
@[congr] theorem gbind_congr {g g' : Option (Nat × Bool)} (h : g = g') (x : Prop) (y : Nat → Bool → Prop) : gbind g x y = gbind g' x y := by rw [h]

def runN (E : Env) (ops : Array Oper) (base : Nat) : Nat → List Oper → Act → Heap → (Act → Heap → Prop) → Prop
  | _, [], a, σ, K => K a σ
  | i, o :: os, a, σ, K =>
    gbind o.guard (cases2 (easy o) (stepN E a σ (base + i) o fun a σ _ _ => runN E ops base (i + 1) os a σ K) (At E ops base i o os a σ K))
      fun j b => obind (gdst ops j) fun d => obind (aeval a (.tmp d)) fun v => obind (asB v) fun t =>
        tbind (t == b) (cases2 (easy o) (stepN E a σ (base + i) o fun a σ _ _ => runN E ops base (i + 1) os a σ K) (At E ops base i o os a σ K)) (runN E ops base (i + 1) os (a.put o.dst undef) σ K)

theorem guard_yield {ops : Array Oper} {a : Act} {o : Oper} {j d : Nat} {b t : Bool} {v : Value} (hg : o.guard = some (j, b)) (h1 : gdst ops j = some d) (h2 : aeval a (.tmp d) = some v) (h3 : asB v = some t) :
    Region.wanted o (yielded ops a.tmps) = (t == b) := by
  have hv := asB_spec h3
  subst hv
  simp only [Region.wanted, hg, yielded]
  unfold gdst at h1
  rw [h1]
  simp only [aeval, Option.some.injEq] at h2
  simp only [Option.bind_some]
  rw [Array.getD_eq_getD_getElem?] at h2
  cases hd : a.tmps[d]? with
  | none => rw [hd] at h2; simp [undef] at h2
  | some u =>
    rw [hd] at h2
    simp only [Option.getD_some] at h2
    subst h2
    cases t <;> cases b <;> rfl

theorem runN_ok {E : Env} {ops : Array Oper} {base : Nat} {K : Act → Heap → Prop} : ∀ (os : List Oper) (i : Nat) (a : Act) (σ : Heap), (∀ j o, os[j]? = some o → ops[i + j]? = some o) → runN E ops base i os a σ K →
    runL E ops base (List.range' i os.length) a σ K
  | [], i, a, σ, _, h => h
  | o :: os, i, a, σ, hops, h => by
    have ho : ops[i]? = some o := hops 0 o rfl
    have hrest : ∀ j p, os[j]? = some p → ops[i + 1 + j]? = some p := fun j p hj => by
      have := hops (j + 1) p (by simpa using hj)
      rwa [show i + (j + 1) = i + 1 + j by omega] at this
    have step : Region.wanted o (yielded ops a.tmps) = true → (cases2 (easy o) (stepN E a σ (base + i) o fun a σ _ _ => runN E ops base (i + 1) os a σ K) (At E ops base i o os a σ K)) → runL E ops base (i :: List.range' (i + 1) os.length) a σ K := by
      intro hw hs
      unfold cases2 at hs
      split at hs
      · obtain ⟨p, eff, h1, h2, h3, h4⟩ := stepN_ok hs
        exact runL_prim ho hw h1 h2 h3 (runN_ok os (i + 1) _ _ hrest h4)
      · exact hs ho hw hrest
    show runL E ops base (i :: List.range' (i + 1) os.length) a σ K
    simp only [runN] at h
    unfold gbind at h
    split at h
    · rename_i hg
      exact step (by simp [Region.wanted, hg]) h
    · rename_i q hg
      obtain ⟨j, b⟩ := q
      replace h := obind_spec h; obtain ⟨d, h1, h⟩ := h
      replace h := obind_spec h; obtain ⟨v, h2, h⟩ := h
      replace h := obind_spec h; obtain ⟨t, h3, h⟩ := h
      have hy := guard_yield hg h1 h2 h3
      cases hb : (t == b) with
      | true => exact step (by rw [hy, hb]) (h.1 hb)
      | false =>
        simp only [runL, ho]
        rw [if_neg (by rw [hy, hb]; simp)]
        exact runN_ok os (i + 1) _ σ hrest (h.2 hb)

theorem awp_region_n {E : Env} (hE : EnvOk E) {id : Nat} {ops : Array Oper} {Q : AQ} {a : Act} {σ : Heap}
    (h : ∀ K : Act → Heap → Prop, (∀ a σ, Q .normal a σ → K a σ) → runN E ops σ.nxt 0 ops.toList a (σ.bump ops.size) K) : AWP E.P (.region id ops false) Q a σ := by
  refine awp_region hE ?_
  have h1 := runN_ok (E := E) (ops := ops) (base := σ.nxt) ops.toList 0 a (σ.bump ops.size) (fun j o hj => by simpa using hj) (h (Q .normal) fun _ _ h => h)
  rwa [Array.length_toList, ← List.range_eq_range'] at h1

section
variable {E : Env} {ops : Array Oper} {base i : Nat} {o : Oper} {os : List Oper} {a : Act} {σ : Heap} {K : Act → Heap → Prop}

theorem at_call {f : FuncId} {args : Array Value} (hc : aop E (aeval a) o = some (.call f args)) (h : ACall E.P f args σ fun v τ => runN E ops base (i + 1) os (a.put o.dst v) τ K) : At E ops base i o os a σ K := by
  intro ho hw hr
  simp only [runL, ho, if_pos hw, hc]
  exact h.mono fun v τ hv => runN_ok os (i + 1) _ _ hr hv

theorem at_prim {p : Prim} {eff : Eff} (h1 : aop E (aeval a) o = some (.prim p)) (h2 : p.run σ (base + i) = some eff) (h3 : wrOk p eff = true) (h : runN E ops base (i + 1) os (a.put o.dst eff.val) (σ.app (base + i) eff) K) :
    At E ops base i o os a σ K := by
  intro ho hw hr
  exact runL_prim ho hw h1 h2 h3 (runN_ok os (i + 1) _ _ hr h)

theorem at_val {v : Value} (h1 : aop E (aeval a) o = some (.prim (.ofVal v))) (h : runN E ops base (i + 1) os (a.put o.dst v) σ K) : At E ops base i o os a σ K :=
  at_prim (eff := ⟨v, none, none⟩) h1 rfl rfl h

theorem at_defer {f : FuncId} {cap args : Array Value} (h1 : aop E (aeval a) o = some (.defer f cap args)) (h : runN E ops base (i + 1) os (Act.put { a with defers := ⟨.fn (.func f) cap, args⟩ :: a.defers } o.dst undef) σ K) : At E ops base i o os a σ K := by
  intro ho hw hr
  simp only [runL, ho, if_pos hw, h1]
  exact runN_ok os (i + 1) _ _ hr h
end


def AtS (E : Env) (ops : Array Oper) (base i : Nat) (lo : List Nat) (L : List (Nat × List Nat)) (D : List Rec) (o : Oper) (a : Act) (σ : Heap) (K : Act → Heap → Prop) : Prop :=
  ∀ (dep : Dep) (pre : List Nat) (D' : List Rec), ops[i]? = some o → Region.wanted o (yielded ops a.tmps) = true → planOkB ops dep pre ((i, lo) :: L) = true → Slim ops pre D D' → runD E ops base dep (i :: L.map (·.1)) D' a σ K

def touchT (o : Oper) (i : Nat) (lo : List Nat) (D : List Rec) (tch wrt : List Nat) (k : List Rec → Prop) : Prop :=
  cases2 (touches o) (cbind (if kindOf o = 2 then True else clashS lo tch wrt D) (k (⟨i, tch, wrt, kindOf o == 2⟩ :: D))) (cbind (tch = [] ∧ wrt = []) (k D))
theorem touchT_ok {o : Oper} {i : Nat} {lo : List Nat} {D : List Rec} {tch wrt : List Nat} {k : List Rec → Prop} (h : touchT o i lo D tch wrt k) : touchK o i lo D tch wrt k := by
  unfold touchT cases2 at h
  unfold touchK
  split at h
  · rename_i ht; rw [ht]; exact h
  · rename_i ht; rw [ht]; exact h

def runT (E : Env) (ops : Array Oper) (base : Nat) : List (Nat × List Nat) → List Rec → Act → Heap → (Act → Heap → Prop) → Prop
  | [], _, a, σ, K => K a σ
  | (i, lo) :: L, D, a, σ, K => obind ops[i]? fun o =>
    gbind o.guard (cases2 (easy o) (stepN E a σ (base + i) o fun a σ tch wrt => touchT o i lo D tch wrt fun D => runT E ops base L D a σ K) (AtS E ops base i lo L D o a σ K))
      fun j b => obind (gdst ops j) fun d => obind (aeval a (.tmp d)) fun v => obind (asB v) fun t =>
        tbind (t == b) (cases2 (easy o) (stepN E a σ (base + i) o fun a σ tch wrt => touchT o i lo D tch wrt fun D => runT E ops base L D a σ K) (AtS E ops base i lo L D o a σ K)) (runT E ops base L D (a.put o.dst undef) σ K)

theorem plan_lo {ops : Array Oper} {dep : Dep} {pre lo : List Nat} {i : Nat} {L : List (Nat × List Nat)} (h : planOkB ops dep pre ((i, lo) :: L) = true) :
    (∀ j ∈ pre, touchesAt ops j = true → dep i j = true ∨ memN j lo = true) ∧ planOkB ops dep (i :: pre) L = true := by
  simp only [planOkB, Bool.and_eq_true, List.all_eq_true] at h
  refine ⟨fun j hj ht => ?_, h.2⟩
  have := h.1 j hj
  rw [ht] at this
  simpa using this

theorem runT_ok {E : Env} {ops : Array Oper} {base : Nat} {dep : Dep} {K : Act → Heap → Prop} : ∀ (L : List (Nat × List Nat)) (pre : List Nat) (D D' : List Rec) (a : Act) (σ : Heap), planOkB ops dep pre L = true → Slim ops pre D D' →
    runT E ops base L D a σ K → runD E ops base dep (L.map (·.1)) D' a σ K
  | [], _, _, _, _, _, _, _, h => h
  | (i, lo) :: L, pre, D, D', a, σ, hpl, hS, h => by
    obtain ⟨hp, hpl2⟩ := plan_lo hpl
    simp only [runT] at h
    replace h := obind_spec h; obtain ⟨o, ho, h⟩ := h
    unfold gbind at h
    have step : Region.wanted o (yielded ops a.tmps) = true → (cases2 (easy o) (stepN E a σ (base + i) o fun a σ tch wrt => touchT o i lo D tch wrt fun D => runT E ops base L D a σ K) (AtS E ops base i lo L D o a σ K)) → runD E ops base dep (i :: L.map (·.1)) D' a σ K := by
      intro hw hs
      unfold cases2 at hs
      split at hs
      · obtain ⟨p, eff, h1, h2, h3, h4⟩ := stepN_ok hs
        obtain ⟨h5, D₁, h6, h7⟩ := touch_ok ho hS hp (touchT_ok h4)
        simp only [runD, ho, if_pos hw, aop_evOf, h1, h2]
        exact ⟨h3, h5, runT_ok L (i :: pre) _ _ _ _ hpl2 h7 h6⟩
      · exact hs dep pre D' ho hw hpl hS
    show runD E ops base dep (i :: L.map (·.1)) D' a σ K
    split at h
    · rename_i hg
      exact step (by simp [Region.wanted, hg]) h
    · rename_i q hg
      obtain ⟨j, b⟩ := q
      replace h := obind_spec h; obtain ⟨d, h1, h⟩ := h
      replace h := obind_spec h; obtain ⟨v, h2, h⟩ := h
      replace h := obind_spec h; obtain ⟨t, h3, h⟩ := h
      have hy := guard_yield hg h1 h2 h3
      cases hb : (t == b) with
      | true => exact step (by rw [hy, hb]) (h.1 hb)
      | false =>
        simp only [runD, ho]
        rw [if_neg (by rw [hy, hb]; simp)]
        exact runT_ok L (i :: pre) _ _ _ _ hpl2 hS.grow (h.2 hb)

theorem awp_draw_n {E : Env} (hE : EnvOk E) (hm : E.P.follows .mixedOrders = true) {id : Nat} {ops : Array Oper} {Q : AQ} {a : Act} {σ : Heap} {t : List Nat × List (List Nat)} {pl : List (Nat × List Nat)}
    (hp : drawPlanB ops t pl = true) (h : ∀ K : Act → Heap → Prop, (∀ a σ, Q .normal a σ → K a σ) → runT E ops σ.nxt pl [] a (σ.bump ops.size) K) : AWP E.P (.region id ops true) Q a σ := by
  simp only [drawPlanB, Bool.and_eq_true, beq_iff_eq] at hp
  obtain ⟨⟨h1, h2⟩, h3⟩ := hp
  refine awp_draw hE hm (drawOkB_sound h1) ?_
  rw [← h3]
  exact runT_ok pl [] [] [] a _ h2 (fun d hd => by cases hd) (h (Q .normal) fun _ _ h => h)

section
variable {E : Env} {ops : Array Oper} {base i : Nat} {lo : List Nat} {L : List (Nat × List Nat)} {D : List Rec} {o : Oper} {a : Act} {σ : Heap} {K : Act → Heap → Prop}

theorem ats_call {f : FuncId} {args : Array Value} (hc : aop E (aeval a) o = some (.call f args)) (hf : callS lo D) (h : ACall E.P f args σ fun v τ => keptS lo σ τ D ∧ runT E ops base L D (a.put o.dst v) τ K) : AtS E ops base i lo L D o a σ K := by
  intro dep pre D' ho hw hpl hS
  obtain ⟨hp, hpl2⟩ := plan_lo hpl
  simp only [runD, ho, if_pos hw, aop_evOf, hc]
  exact ⟨call_of hS hp hf, h.mono fun v τ hv => ⟨kept_of hS hp hv.1, runT_ok L (i :: pre) _ _ _ _ hpl2 hS.grow hv.2⟩⟩

theorem ats_prim {p : Prim} {eff : Eff} (h1 : aop E (aeval a) o = some (.prim p)) (h2 : p.run σ (base + i) = some eff) (h3 : wrOk p eff = true)
    (h : touchT o i lo D (tchOf p eff (base + i)) (wrtOf eff (base + i)) fun D => runT E ops base L D (a.put o.dst eff.val) (σ.app (base + i) eff) K) : AtS E ops base i lo L D o a σ K := by
  intro dep pre D' ho hw hpl hS
  obtain ⟨hp, hpl2⟩ := plan_lo hpl
  obtain ⟨h5, D₁, h6, h7⟩ := touch_ok ho hS hp (touchT_ok h)
  simp only [runD, ho, if_pos hw, aop_evOf, h1, h2]
  exact ⟨h3, h5, runT_ok L (i :: pre) _ _ _ _ hpl2 h7 h6⟩

theorem ats_val {v : Value} (h1 : aop E (aeval a) o = some (.prim (.ofVal v))) (h : touchT o i lo D [] [] fun D => runT E ops base L D (a.put o.dst v) σ K) : AtS E ops base i lo L D o a σ K :=
  ats_prim (eff := ⟨v, none, none⟩) h1 rfl rfl h
end


theorem runN_nil {E : Env} {ops : Array Oper} {base i : Nat} {a : Act} {σ : Heap} {K : Act → Heap → Prop} : runN E ops base i [] a σ K = K a σ := id rfl
theorem runN_n {E : Env} {ops : Array Oper} {base i : Nat} {os : List Oper} {a : Act} {σ : Heap} {K : Act → Heap → Prop} {dst : Option Tmp} {op : Op} {ty : TypeId} {pos : String} {af : Array Edge} :
    runN E ops base i (⟨dst, op, ty, pos, af, none⟩ :: os) a σ K = cases2 (easy ⟨dst, op, ty, pos, af, none⟩) (stepN E a σ (base + i) ⟨dst, op, ty, pos, af, none⟩ fun a σ _ _ => runN E ops base (i + 1) os a σ K) (At E ops base i ⟨dst, op, ty, pos, af, none⟩ os a σ K) := id rfl
theorem runN_g {E : Env} {ops : Array Oper} {base i : Nat} {os : List Oper} {a : Act} {σ : Heap} {K : Act → Heap → Prop} {dst : Option Tmp} {op : Op} {ty : TypeId} {pos : String} {af : Array Edge} {j : Nat} {b : Bool} :
    runN E ops base i (⟨dst, op, ty, pos, af, some (j, b)⟩ :: os) a σ K = obind (gdst ops j) fun d => obind (aeval a (.tmp d)) fun v => obind (asB v) fun t =>
        tbind (t == b) (cases2 (easy ⟨dst, op, ty, pos, af, some (j, b)⟩) (stepN E a σ (base + i) ⟨dst, op, ty, pos, af, some (j, b)⟩ fun a σ _ _ => runN E ops base (i + 1) os a σ K) (At E ops base i ⟨dst, op, ty, pos, af, some (j, b)⟩ os a σ K))
          (runN E ops base (i + 1) os (a.put dst undef) σ K) := id rfl

def runU (E : Env) (ops : Array Oper) (base i : Nat) (lo : List Nat) (L : List (Nat × List Nat)) (D : List Rec) (o : Oper) (a : Act) (σ : Heap) (K : Act → Heap → Prop) : Prop :=
  gbind o.guard (cases2 (easy o) (stepN E a σ (base + i) o fun a σ tch wrt => touchT o i lo D tch wrt fun D => runT E ops base L D a σ K) (AtS E ops base i lo L D o a σ K))
      fun j b => obind (gdst ops j) fun d => obind (aeval a (.tmp d)) fun v => obind (asB v) fun t =>
        tbind (t == b) (cases2 (easy o) (stepN E a σ (base + i) o fun a σ tch wrt => touchT o i lo D tch wrt fun D => runT E ops base L D a σ K) (AtS E ops base i lo L D o a σ K)) (runT E ops base L D (a.put o.dst undef) σ K)

theorem runT_nil {E : Env} {ops : Array Oper} {base : Nat} {D : List Rec} {a : Act} {σ : Heap} {K : Act → Heap → Prop} : runT E ops base [] D a σ K = K a σ := id rfl
theorem runT_cons {E : Env} {ops : Array Oper} {base i : Nat} {lo : List Nat} {L : List (Nat × List Nat)} {D : List Rec} {a : Act} {σ : Heap} {K : Act → Heap → Prop} :
    runT E ops base ((i, lo) :: L) D a σ K = obind ops[i]? fun o => runU E ops base i lo L D o a σ K := id rfl
theorem runU_n {E : Env} {ops : Array Oper} {base i : Nat} {lo : List Nat} {L : List (Nat × List Nat)} {D : List Rec} {a : Act} {σ : Heap} {K : Act → Heap → Prop} {dst : Option Tmp} {op : Op} {ty : TypeId} {pos : String} {af : Array Edge} :
    runU E ops base i lo L D ⟨dst, op, ty, pos, af, none⟩ a σ K = cases2 (easy ⟨dst, op, ty, pos, af, none⟩) (stepN E a σ (base + i) ⟨dst, op, ty, pos, af, none⟩ fun a σ tch wrt => touchT ⟨dst, op, ty, pos, af, none⟩ i lo D tch wrt fun D => runT E ops base L D a σ K)
      (AtS E ops base i lo L D ⟨dst, op, ty, pos, af, none⟩ a σ K) := id rfl
theorem runU_g {E : Env} {ops : Array Oper} {base i : Nat} {lo : List Nat} {L : List (Nat × List Nat)} {D : List Rec} {a : Act} {σ : Heap} {K : Act → Heap → Prop} {dst : Option Tmp} {op : Op} {ty : TypeId} {pos : String} {af : Array Edge} {j : Nat} {b : Bool} :
    runU E ops base i lo L D ⟨dst, op, ty, pos, af, some (j, b)⟩ a σ K = obind (gdst ops j) fun d => obind (aeval a (.tmp d)) fun v => obind (asB v) fun t =>
        tbind (t == b) (cases2 (easy ⟨dst, op, ty, pos, af, some (j, b)⟩) (stepN E a σ (base + i) ⟨dst, op, ty, pos, af, some (j, b)⟩ fun a σ tch wrt => touchT ⟨dst, op, ty, pos, af, some (j, b)⟩ i lo D tch wrt fun D => runT E ops base L D a σ K)
          (AtS E ops base i lo L D ⟨dst, op, ty, pos, af, some (j, b)⟩ a σ K)) (runT E ops base L D (a.put dst undef) σ K) := id rfl

section
variable {dst : Option Tmp} {ty : TypeId} {pos : String} {af : Array Edge} {gd : Option (Nat × Bool)}
theorem easy_move (x : Operand) : easy ⟨dst, .move x, ty, pos, af, gd⟩ = true := id rfl
theorem tch_move (x : Operand) : touches ⟨dst, .move x, ty, pos, af, gd⟩ = false := id rfl
theorem easy_assign (x : Operand) : easy ⟨dst, .assign x, ty, pos, af, gd⟩ = true := id rfl
theorem tch_assign (x : Operand) : touches ⟨dst, .assign x, ty, pos, af, gd⟩ = false := id rfl
theorem easy_pick (c x y : Operand) : easy ⟨dst, .pick c x y, ty, pos, af, gd⟩ = true := id rfl
theorem tch_pick (c x y : Operand) : touches ⟨dst, .pick c x y, ty, pos, af, gd⟩ = false := id rfl
theorem easy_alloc (t : TypeId) : easy ⟨dst, .alloc t, ty, pos, af, gd⟩ = true := id rfl
theorem tch_alloc (t : TypeId) : touches ⟨dst, .alloc t, ty, pos, af, gd⟩ = true := id rfl
theorem easy_box (t : TypeId) (x : Operand) : easy ⟨dst, .box t x, ty, pos, af, gd⟩ = true := id rfl
theorem tch_box (t : TypeId) (x : Operand) : touches ⟨dst, .box t x, ty, pos, af, gd⟩ = true := id rfl
theorem easy_load (t : TypeId) (x : Operand) : easy ⟨dst, .load t x, ty, pos, af, gd⟩ = true := id rfl
theorem tch_load (t : TypeId) (x : Operand) : touches ⟨dst, .load t x, ty, pos, af, gd⟩ = true := id rfl
theorem easy_store (t : TypeId) (x y : Operand) : easy ⟨dst, .store t x y, ty, pos, af, gd⟩ = true := id rfl
theorem tch_store (t : TypeId) (x y : Operand) : touches ⟨dst, .store t x y, ty, pos, af, gd⟩ = true := id rfl
theorem easy_nilc (x : Operand) : easy ⟨dst, .nilCheck x, ty, pos, af, gd⟩ = true := id rfl
theorem tch_nilc (x : Operand) : touches ⟨dst, .nilCheck x, ty, pos, af, gd⟩ = false := id rfl
theorem easy_bin (b : BinOp) (t t' : TypeId) (x y : Operand) : easy ⟨dst, .binOp b t x y t', ty, pos, af, gd⟩ = true := id rfl
theorem tch_bin (b : BinOp) (t t' : TypeId) (x y : Operand) : touches ⟨dst, .binOp b t x y t', ty, pos, af, gd⟩ = false := id rfl
theorem easy_fa (t : TypeId) (x : Operand) (f : Nat) : easy ⟨dst, .fieldAddr t x f, ty, pos, af, gd⟩ = true := id rfl
theorem tch_fa (t : TypeId) (x : Operand) (f : Nat) : touches ⟨dst, .fieldAddr t x f, ty, pos, af, gd⟩ = false := id rfl
theorem easy_fld (t : TypeId) (x : Operand) (f : Nat) : easy ⟨dst, .field t x f, ty, pos, af, gd⟩ = true := id rfl
theorem tch_fld (t : TypeId) (x : Operand) (f : Nat) : touches ⟨dst, .field t x f, ty, pos, af, gd⟩ = false := id rfl
theorem easy_ia (t : TypeId) (x y : Operand) : easy ⟨dst, .indexAddr t x y, ty, pos, af, gd⟩ = true := id rfl
theorem tch_ia (t : TypeId) (x y : Operand) : touches ⟨dst, .indexAddr t x y, ty, pos, af, gd⟩ = false := id rfl
theorem easy_ext (x : Operand) (f : Nat) : easy ⟨dst, .extract x f, ty, pos, af, gd⟩ = true := id rfl
theorem tch_ext (x : Operand) (f : Nat) : touches ⟨dst, .extract x f, ty, pos, af, gd⟩ = false := id rfl
theorem easy_un (b : UnOp) (t : TypeId) (x : Operand) : easy ⟨dst, .unOp b t x, ty, pos, af, gd⟩ = true := id rfl
theorem tch_un (b : UnOp) (t : TypeId) (x : Operand) : touches ⟨dst, .unOp b t x, ty, pos, af, gd⟩ = false := id rfl
theorem easy_bld (t : TypeId) (p : Array (Nat × Operand)) : easy ⟨dst, .build t p, ty, pos, af, gd⟩ = true := id rfl
theorem tch_bld (t : TypeId) (p : Array (Nat × Operand)) : touches ⟨dst, .build t p, ty, pos, af, gd⟩ = false := id rfl
theorem easy_mf (f : Fn) (x y : Array Operand) : easy ⟨dst, .makeFunc f x y, ty, pos, af, gd⟩ = true := id rfl
theorem tch_mf (f : Fn) (x y : Array Operand) : touches ⟨dst, .makeFunc f x y, ty, pos, af, gd⟩ = false := id rfl
theorem easy_bs (t n : Nat) (p : Array (Nat × Operand)) : easy ⟨dst, .buildSlice t n p, ty, pos, af, gd⟩ = true := id rfl
theorem tch_bs (t n : Nat) (p : Array (Nat × Operand)) : touches ⟨dst, .buildSlice t n p, ty, pos, af, gd⟩ = true := id rfl
theorem easy_len (x : Array Operand) (t : Array TypeId) : easy ⟨dst, .call ⟨.builtin .len, x, t⟩, ty, pos, af, gd⟩ = true := id rfl
theorem tch_len (x : Array Operand) (t : Array TypeId) : touches ⟨dst, .call ⟨.builtin .len, x, t⟩, ty, pos, af, gd⟩ = true := id rfl
theorem easy_min (x : Array Operand) (t : Array TypeId) : easy ⟨dst, .call ⟨.builtin .min, x, t⟩, ty, pos, af, gd⟩ = true := id rfl
theorem tch_min (x : Array Operand) (t : Array TypeId) : touches ⟨dst, .call ⟨.builtin .min, x, t⟩, ty, pos, af, gd⟩ = false := id rfl
theorem easy_max (x : Array Operand) (t : Array TypeId) : easy ⟨dst, .call ⟨.builtin .max, x, t⟩, ty, pos, af, gd⟩ = true := id rfl
theorem tch_max (x : Array Operand) (t : Array TypeId) : touches ⟨dst, .call ⟨.builtin .max, x, t⟩, ty, pos, af, gd⟩ = false := id rfl
theorem easy_app (x : Array Operand) (t : Array TypeId) : easy ⟨dst, .call ⟨.builtin .append, x, t⟩, ty, pos, af, gd⟩ = false := id rfl
theorem tch_app (x : Array Operand) (t : Array TypeId) : touches ⟨dst, .call ⟨.builtin .append, x, t⟩, ty, pos, af, gd⟩ = true := id rfl
theorem easy_del (x : Array Operand) (t : Array TypeId) : easy ⟨dst, .call ⟨.builtin .delete, x, t⟩, ty, pos, af, gd⟩ = false := id rfl
theorem tch_del (x : Array Operand) (t : Array TypeId) : touches ⟨dst, .call ⟨.builtin .delete, x, t⟩, ty, pos, af, gd⟩ = true := id rfl
theorem easy_clr (x : Array Operand) (t : Array TypeId) : easy ⟨dst, .call ⟨.builtin .clear, x, t⟩, ty, pos, af, gd⟩ = false := id rfl
theorem tch_clr (x : Array Operand) (t : Array TypeId) : touches ⟨dst, .call ⟨.builtin .clear, x, t⟩, ty, pos, af, gd⟩ = true := id rfl
theorem easy_cpy (x : Array Operand) (t : Array TypeId) : easy ⟨dst, .call ⟨.builtin .copy, x, t⟩, ty, pos, af, gd⟩ = false := id rfl
theorem tch_cpy (x : Array Operand) (t : Array TypeId) : touches ⟨dst, .call ⟨.builtin .copy, x, t⟩, ty, pos, af, gd⟩ = true := id rfl
theorem easy_val (f : Operand) (x : Array Operand) (t : Array TypeId) : easy ⟨dst, .call ⟨.value f, x, t⟩, ty, pos, af, gd⟩ = false := id rfl
theorem tch_val (f : Operand) (x : Array Operand) (t : Array TypeId) : touches ⟨dst, .call ⟨.value f, x, t⟩, ty, pos, af, gd⟩ = true := id rfl
theorem easy_conv (s t : TypeId) (x : Operand) : easy ⟨dst, .convert s t x, ty, pos, af, gd⟩ = false := id rfl
theorem tch_conv (s t : TypeId) (x : Operand) : touches ⟨dst, .convert s t x, ty, pos, af, gd⟩ = true := id rfl
theorem easy_lk (t : TypeId) (x y : Operand) (b : Bool) : easy ⟨dst, .lookup t x y b, ty, pos, af, gd⟩ = false := id rfl
theorem tch_lk (t : TypeId) (x y : Operand) (b : Bool) : touches ⟨dst, .lookup t x y b, ty, pos, af, gd⟩ = true := id rfl
theorem easy_mu (t : TypeId) (x y z : Operand) : easy ⟨dst, .mapUpdate t x y z, ty, pos, af, gd⟩ = false := id rfl
theorem tch_mu (t : TypeId) (x y z : Operand) : touches ⟨dst, .mapUpdate t x y z, ty, pos, af, gd⟩ = true := id rfl
theorem easy_sl (t : TypeId) (x : Operand) (l h m : Option Operand) : easy ⟨dst, .slice t x l h m, ty, pos, af, gd⟩ = false := id rfl
theorem tch_sl (t : TypeId) (x : Operand) (l h m : Option Operand) : touches ⟨dst, .slice t x l h m, ty, pos, af, gd⟩ = true := id rfl
theorem easy_mm (t : TypeId) (r : Option Operand) : easy ⟨dst, .makeMap t r, ty, pos, af, gd⟩ = false := id rfl
theorem tch_mm (t : TypeId) (r : Option Operand) : touches ⟨dst, .makeMap t r, ty, pos, af, gd⟩ = true := id rfl
theorem easy_ms (t : TypeId) (x y : Operand) : easy ⟨dst, .makeSlice t x y, ty, pos, af, gd⟩ = false := id rfl
theorem tch_ms (t : TypeId) (x y : Operand) : touches ⟨dst, .makeSlice t x y, ty, pos, af, gd⟩ = true := id rfl
theorem easy_ix (t : TypeId) (x y : Operand) : easy ⟨dst, .index t x y, ty, pos, af, gd⟩ = false := id rfl
theorem tch_ix (t : TypeId) (x y : Operand) : touches ⟨dst, .index t x y, ty, pos, af, gd⟩ = true := id rfl
theorem easy_df (c : Call) : easy ⟨dst, .defer c, ty, pos, af, gd⟩ = false := id rfl
theorem tch_df (c : Call) : touches ⟨dst, .defer c, ty, pos, af, gd⟩ = true := id rfl
theorem easy_rg (t : TypeId) (x : Operand) : easy ⟨dst, .range t x, ty, pos, af, gd⟩ = false := id rfl
theorem tch_rg (t : TypeId) (x : Operand) : touches ⟨dst, .range t x, ty, pos, af, gd⟩ = true := id rfl
theorem easy_nx (x : Operand) (b : Bool) : easy ⟨dst, .next x b, ty, pos, af, gd⟩ = false := id rfl
theorem tch_nx (x : Operand) (b : Bool) : touches ⟨dst, .next x b, ty, pos, af, gd⟩ = true := id rfl
theorem easy_en (x : Operand) : easy ⟨dst, .entry x, ty, pos, af, gd⟩ = false := id rfl
theorem tch_en (x : Operand) : touches ⟨dst, .entry x, ty, pos, af, gd⟩ = true := id rfl
end

theorem asPtr_p (l o : Nat) : asPtr (.pointer (some ⟨l, o, none⟩)) = some (l, o) := id rfl
theorem asCells_c (c : List Value) (sz : Nat) (ro : Bool) : asCells (some (.cells c sz ro)) = some (c, sz, ro) := id rfl
theorem asB_b (b : Bool) : asB (.bool b) = some b := id rfl
theorem asI_i (k : IntKind) (i : Int) : asI (.int k i) = some i := id rfl
theorem asSl_s (l o n c : Nat) : asSl (.slice (some ⟨l, o, none⟩) n c) = some (l, o, n, c) := id rfl
theorem asAgg_a (a : Array Value) : asAgg (.agg a) = some a := id rfl
theorem asTup_t (a : Array Value) : asTup (.tuple a) = some a := id rfl
theorem unV_n (b : Bool) : unV .not (.bool b) = some (.bool !b) := id rfl
theorem lenV_s (a : Option Addr) (n c : Nat) : lenV (.slice a n c) = some (n : Int) := id rfl
theorem lenV_t (s : ByteArray) : lenV (.string s) = some (s.size : Int) := id rfl
theorem fnId_f (f : FuncId) : fnId (.func f) = some f := id rfl
theorem gdst_l (l : List Oper) (j : Nat) : gdst l.toArray j = (l[j]?).bind (·.dst) := by simp [gdst]
theorem ops_l {α : Type} {l : List α} {j : Nat} : l.toArray[j]? = l[j]? := by simp
theorem binS_i (P : Program) (op : BinOp) (t : TypeId) (a b : Int) : binS P op t (.int .i64 a) (.int .i64 b) = intV op .i64 a b := by simp [binS]
theorem binS_s (P : Program) (op : BinOp) (t : TypeId) (a b : ByteArray) : binS P op t (.string a) (.string b) = strV op a b := id rfl
theorem binS_b (P : Program) (op : BinOp) (t : TypeId) (a b : Bool) : binS P op t (.bool a) (.bool b) = (P.underlying t).bind fun d => binD d op (.bool a) (.bool b) := id rfl
theorem binS_p (P : Program) (op : BinOp) (t : TypeId) (a b : Option Addr) : binS P op t (.pointer a) (.pointer b) = (P.underlying t).bind fun d => binD d op (.pointer a) (.pointer b) := id rfl
theorem binS_l (P : Program) (op : BinOp) (t : TypeId) (a b : Option Addr) (n c n' c' : Nat) : binS P op t (.slice a n c) (.slice b n' c') = (P.underlying t).bind fun d => binD d op (.slice a n c) (.slice b n' c') := id rfl
theorem aev_bool (a : Act) (b : Bool) : aeval a (.const (.bool b)) = some (.bool b) := id rfl
theorem aev_int (a : Act) (k : IntKind) (i : Int) : aeval a (.const (.int k i)) = some (.int k i) := id rfl
theorem aev_string (a : Act) (s : ByteArray) : aeval a (.const (.string s)) = some (.string s) := id rfl
theorem aev_nilptr (a : Act) : aeval a (.const (.pointer none)) = some (.pointer none) := id rfl
theorem aev_nilslice (a : Act) (n c : Nat) : aeval a (.const (.slice none n c)) = some (.slice none n c) := id rfl
theorem aev_nilmap (a : Act) : aeval a (.const (.map none)) = some (.map none) := id rfl
theorem aev_func (a : Act) (f : FuncId) : aeval a (.func f) = some (.func (.func f) #[] #[]) := id rfl
theorem intV_add (k : IntKind) (a b : Int) : intV .add k a b = some (.int k (k.wrap (a + b))) := id rfl
theorem intV_sub (k : IntKind) (a b : Int) : intV .sub k a b = some (.int k (k.wrap (a - b))) := id rfl
theorem intV_mul (k : IntKind) (a b : Int) : intV .mul k a b = some (.int k (k.wrap (a * b))) := id rfl
theorem intV_eql (k : IntKind) (a b : Int) : intV .eql k a b = some (.bool (a == b)) := id rfl
theorem intV_neq (k : IntKind) (a b : Int) : intV .neq k a b = some (.bool (a != b)) := id rfl
theorem intV_lss (k : IntKind) (a b : Int) : intV .lss k a b = some (.bool (decide (a < b))) := id rfl
theorem intV_leq (k : IntKind) (a b : Int) : intV .leq k a b = some (.bool (decide (a ≤ b))) := id rfl
theorem intV_gtr (k : IntKind) (a b : Int) : intV .gtr k a b = some (.bool (decide (a > b))) := id rfl
theorem intV_geq (k : IntKind) (a b : Int) : intV .geq k a b = some (.bool (decide (a ≥ b))) := id rfl
theorem strV_eql (x y : ByteArray) : strV .eql x y = some (.bool (x.toList == y.toList)) := id rfl
theorem strV_neq (x y : ByteArray) : strV .neq x y = some (.bool !(x.toList == y.toList)) := id rfl
theorem strV_lss (x y : ByteArray) : strV .lss x y = some (.bool (Op.bytesLess x.toList y.toList)) := id rfl
theorem strV_gtr (x y : ByteArray) : strV .gtr x y = some (.bool !(Op.bytesLess x.toList y.toList || x.toList == y.toList)) := id rfl
theorem ge_zero {α : Type} (a : α) (l : List α) : (a :: l)[0]? = some a := id rfl
theorem ge_succ {α : Type} (a : α) (l : List α) (n : Nat) : (a :: l)[n + 1]? = l[n]? := by simp
theorem optbind_some {α β : Type} (v : α) (f : α → Option β) : (some v).bind f = f v := id rfl

attribute [irreducible] At AtS runN runT

end Go.Proofs.YtfchjhfccnodpaaGreat
end

section
namespace Go.Proofs.YtfchjhfccnodpaaGreat

theorem E6P : E6.P = Go.Proofs.Tryz.prog := id rfl

theorem sz_1 : szO E6.P 1 = some 1 := id (by kernel_rfl)
theorem by_1 : bytesO E6.P 1 = some 8 := id (by kernel_rfl)
theorem ag_1 : aggO E6.P 1 = some false := id (by kernel_rfl)
theorem zp_1 : zeroP E6.P 1 = some (.nilFunc) := id (by kernel_rfl)
theorem sz_2 : szO E6.P 2 = some 1 := id (by kernel_rfl)
theorem by_2 : bytesO E6.P 2 = some 8 := id (by kernel_rfl)
theorem ag_2 : aggO E6.P 2 = some false := id (by kernel_rfl)
theorem zp_2 : zeroP E6.P 2 = some (.int .i64 0) := id (by kernel_rfl)
theorem sz_3 : szO E6.P 3 = some 1 := id (by kernel_rfl)
theorem by_3 : bytesO E6.P 3 = some 8 := id (by kernel_rfl)
theorem ag_3 : aggO E6.P 3 = some false := id (by kernel_rfl)
theorem zp_3 : zeroP E6.P 3 = some (.int .i64 0) := id (by kernel_rfl)
theorem sz_4 : szO E6.P 4 = some 1 := id (by kernel_rfl)
theorem by_4 : bytesO E6.P 4 = some 1 := id (by kernel_rfl)
theorem ag_4 : aggO E6.P 4 = some false := id (by kernel_rfl)
theorem zp_4 : zeroP E6.P 4 = some (.bool false) := id (by kernel_rfl)
theorem sz_5 : szO E6.P 5 = some 1 := id (by kernel_rfl)
theorem by_5 : bytesO E6.P 5 = some 1 := id (by kernel_rfl)
theorem ag_5 : aggO E6.P 5 = some false := id (by kernel_rfl)
theorem zp_5 : zeroP E6.P 5 = some (.int .u8 0) := id (by kernel_rfl)
theorem sz_9 : szO E6.P 9 = some 1 := id (by kernel_rfl)
theorem by_9 : bytesO E6.P 9 = some 16 := id (by kernel_rfl)
theorem ag_9 : aggO E6.P 9 = some false := id (by kernel_rfl)
theorem zp_9 : zeroP E6.P 9 = some (.string .empty) := id (by kernel_rfl)
theorem sz_21 : szO E6.P 21 = some 1 := id (by kernel_rfl)
theorem by_21 : bytesO E6.P 21 = some 4 := id (by kernel_rfl)
theorem ag_21 : aggO E6.P 21 = some false := id (by kernel_rfl)
theorem zp_21 : zeroP E6.P 21 = some (.int .i32 0) := id (by kernel_rfl)
theorem sz_24 : szO E6.P 24 = some 1 := id (by kernel_rfl)
theorem by_24 : bytesO E6.P 24 = some 8 := id (by kernel_rfl)
theorem ag_24 : aggO E6.P 24 = some false := id (by kernel_rfl)
theorem zp_24 : zeroP E6.P 24 = some (.pointer none) := id (by kernel_rfl)
theorem sz_26 : szO E6.P 26 = some 1 := id (by kernel_rfl)
theorem by_26 : bytesO E6.P 26 = some 24 := id (by kernel_rfl)
theorem ag_26 : aggO E6.P 26 = some false := id (by kernel_rfl)
theorem zp_26 : zeroP E6.P 26 = some (.slice none 0 0) := id (by kernel_rfl)
theorem el_26 : elemS E6.P 26 = some 6 := id (by kernel_rfl)
theorem sz_27 : szO E6.P 27 = some 1 := id (by kernel_rfl)
theorem by_27 : bytesO E6.P 27 = some 24 := id (by kernel_rfl)
theorem ag_27 : aggO E6.P 27 = some false := id (by kernel_rfl)
theorem zp_27 : zeroP E6.P 27 = some (.slice none 0 0) := id (by kernel_rfl)
theorem el_27 : elemS E6.P 27 = some 16 := id (by kernel_rfl)
theorem sz_29 : szO E6.P 29 = some 2 := id (by kernel_rfl)
theorem by_29 : bytesO E6.P 29 = some 48 := id (by kernel_rfl)
theorem ag_29 : aggO E6.P 29 = some true := id (by kernel_rfl)
theorem zp_29 : zeroP E6.P 29 = some (.agg #[.slice none 0 0, .slice none 0 0]) := id (by kernel_rfl)
theorem fo_29_0 : fldO E6.P 29 0 = some 0 := id (by kernel_rfl)
theorem ft_29_0 : fldT E6.P 29 0 = some (26, 0) := id (by kernel_rfl)
theorem fo_29_1 : fldO E6.P 29 1 = some 1 := id (by kernel_rfl)
theorem ft_29_1 : fldT E6.P 29 1 = some (27, 1) := id (by kernel_rfl)
theorem sz_30 : szO E6.P 30 = some 1 := id (by kernel_rfl)
theorem by_30 : bytesO E6.P 30 = some 8 := id (by kernel_rfl)
theorem ag_30 : aggO E6.P 30 = some false := id (by kernel_rfl)
theorem zp_30 : zeroP E6.P 30 = some (.map none) := id (by kernel_rfl)
theorem sz_31 : szO E6.P 31 = some 1 := id (by kernel_rfl)
theorem by_31 : bytesO E6.P 31 = some 24 := id (by kernel_rfl)
theorem ag_31 : aggO E6.P 31 = some false := id (by kernel_rfl)
theorem zp_31 : zeroP E6.P 31 = some (.slice none 0 0) := id (by kernel_rfl)
theorem el_31 : elemS E6.P 31 = some 1 := id (by kernel_rfl)
theorem sz_33 : szO E6.P 33 = some 3 := id (by kernel_rfl)
theorem by_33 : bytesO E6.P 33 = some 24 := id (by kernel_rfl)
theorem ag_33 : aggO E6.P 33 = some true := id (by kernel_rfl)
theorem zp_33 : zeroP E6.P 33 = some (.agg #[.int .i64 0, .int .i64 0, .int .i64 0]) := id (by kernel_rfl)
theorem sz_34 : szO E6.P 34 = some 1 := id (by kernel_rfl)
theorem by_34 : bytesO E6.P 34 = some 24 := id (by kernel_rfl)
theorem ag_34 : aggO E6.P 34 = some false := id (by kernel_rfl)
theorem zp_34 : zeroP E6.P 34 = some (.slice none 0 0) := id (by kernel_rfl)
theorem el_34 : elemS E6.P 34 = some 1 := id (by kernel_rfl)
theorem sz_35 : szO E6.P 35 = some 1 := id (by kernel_rfl)
theorem by_35 : bytesO E6.P 35 = some 24 := id (by kernel_rfl)
theorem ag_35 : aggO E6.P 35 = some false := id (by kernel_rfl)
theorem zp_35 : zeroP E6.P 35 = some (.slice none 0 0) := id (by kernel_rfl)
theorem el_35 : elemS E6.P 35 = some 2 := id (by kernel_rfl)
theorem sz_36 : szO E6.P 36 = some 1 := id (by kernel_rfl)
theorem by_36 : bytesO E6.P 36 = some 24 := id (by kernel_rfl)
theorem ag_36 : aggO E6.P 36 = some false := id (by kernel_rfl)
theorem zp_36 : zeroP E6.P 36 = some (.slice none 0 0) := id (by kernel_rfl)
theorem el_36 : elemS E6.P 36 = some 3 := id (by kernel_rfl)
theorem sz_37 : szO E6.P 37 = some 1 := id (by kernel_rfl)
theorem by_37 : bytesO E6.P 37 = some 24 := id (by kernel_rfl)
theorem ag_37 : aggO E6.P 37 = some false := id (by kernel_rfl)
theorem zp_37 : zeroP E6.P 37 = some (.slice none 0 0) := id (by kernel_rfl)
theorem el_37 : elemS E6.P 37 = some 3 := id (by kernel_rfl)
theorem sz_39 : szO E6.P 39 = some 16 := id (by kernel_rfl)
theorem by_39 : bytesO E6.P 39 = some 248 := id (by kernel_rfl)
theorem ag_39 : aggO E6.P 39 = some true := id (by kernel_rfl)
theorem zp_39 : zeroP E6.P 39 = some (.agg #[.string .empty, .int .i64 0, .int .i64 0, .int .i64 0, .int .i64 0, .int .i64 0, .slice none 0 0, .slice none 0 0, .slice none 0 0, .slice none 0 0, .string .empty, .slice none 0 0, .int .i64 0, .slice none 0 0, .string .empty, .int .i64 0]) := id (by kernel_rfl)
theorem fo_39_0 : fldO E6.P 39 0 = some 0 := id (by kernel_rfl)
theorem ft_39_0 : fldT E6.P 39 0 = some (9, 0) := id (by kernel_rfl)
theorem fo_39_1 : fldO E6.P 39 1 = some 1 := id (by kernel_rfl)
theorem ft_39_1 : fldT E6.P 39 1 = some (2, 1) := id (by kernel_rfl)
theorem fo_39_2 : fldO E6.P 39 2 = some 2 := id (by kernel_rfl)
theorem ft_39_2 : fldT E6.P 39 2 = some (3, 2) := id (by kernel_rfl)
theorem fo_39_3 : fldO E6.P 39 3 = some 3 := id (by kernel_rfl)
theorem ft_39_3 : fldT E6.P 39 3 = some (33, 3) := id (by kernel_rfl)
theorem fo_39_4 : fldO E6.P 39 4 = some 6 := id (by kernel_rfl)
theorem ft_39_4 : fldT E6.P 39 4 = some (34, 6) := id (by kernel_rfl)
theorem fo_39_5 : fldO E6.P 39 5 = some 7 := id (by kernel_rfl)
theorem ft_39_5 : fldT E6.P 39 5 = some (35, 7) := id (by kernel_rfl)
theorem fo_39_6 : fldO E6.P 39 6 = some 8 := id (by kernel_rfl)
theorem ft_39_6 : fldT E6.P 39 6 = some (36, 8) := id (by kernel_rfl)
theorem fo_39_7 : fldO E6.P 39 7 = some 9 := id (by kernel_rfl)
theorem ft_39_7 : fldT E6.P 39 7 = some (37, 9) := id (by kernel_rfl)
theorem fo_39_8 : fldO E6.P 39 8 = some 10 := id (by kernel_rfl)
theorem ft_39_8 : fldT E6.P 39 8 = some (9, 10) := id (by kernel_rfl)
theorem fo_39_9 : fldO E6.P 39 9 = some 11 := id (by kernel_rfl)
theorem ft_39_9 : fldT E6.P 39 9 = some (36, 11) := id (by kernel_rfl)
theorem fo_39_10 : fldO E6.P 39 10 = some 12 := id (by kernel_rfl)
theorem ft_39_10 : fldT E6.P 39 10 = some (3, 12) := id (by kernel_rfl)
theorem fo_39_11 : fldO E6.P 39 11 = some 13 := id (by kernel_rfl)
theorem ft_39_11 : fldT E6.P 39 11 = some (36, 13) := id (by kernel_rfl)
theorem fo_39_12 : fldO E6.P 39 12 = some 14 := id (by kernel_rfl)
theorem ft_39_12 : fldT E6.P 39 12 = some (9, 14) := id (by kernel_rfl)
theorem fo_39_13 : fldO E6.P 39 13 = some 15 := id (by kernel_rfl)
theorem ft_39_13 : fldT E6.P 39 13 = some (2, 15) := id (by kernel_rfl)
theorem sz_40 : szO E6.P 40 = some 1 := id (by kernel_rfl)
theorem by_40 : bytesO E6.P 40 = some 24 := id (by kernel_rfl)
theorem ag_40 : aggO E6.P 40 = some false := id (by kernel_rfl)
theorem zp_40 : zeroP E6.P 40 = some (.slice none 0 0) := id (by kernel_rfl)
theorem el_40 : elemS E6.P 40 = some 2 := id (by kernel_rfl)
theorem sz_42 : szO E6.P 42 = some 6 := id (by kernel_rfl)
theorem by_42 : bytesO E6.P 42 = some 88 := id (by kernel_rfl)
theorem ag_42 : aggO E6.P 42 = some true := id (by kernel_rfl)
theorem zp_42 : zeroP E6.P 42 = some (.agg #[.string .empty, .int .i64 0, .int .i64 0, .int .i64 0, .slice none 0 0, .slice none 0 0]) := id (by kernel_rfl)
theorem fo_42_0 : fldO E6.P 42 0 = some 0 := id (by kernel_rfl)
theorem ft_42_0 : fldT E6.P 42 0 = some (9, 0) := id (by kernel_rfl)
theorem fo_42_1 : fldO E6.P 42 1 = some 1 := id (by kernel_rfl)
theorem ft_42_1 : fldT E6.P 42 1 = some (33, 1) := id (by kernel_rfl)
theorem fo_42_2 : fldO E6.P 42 2 = some 4 := id (by kernel_rfl)
theorem ft_42_2 : fldT E6.P 42 2 = some (35, 4) := id (by kernel_rfl)
theorem fo_42_3 : fldO E6.P 42 3 = some 5 := id (by kernel_rfl)
theorem ft_42_3 : fldT E6.P 42 3 = some (40, 5) := id (by kernel_rfl)
theorem sz_43 : szO E6.P 43 = some 1 := id (by kernel_rfl)
theorem by_43 : bytesO E6.P 43 = some 24 := id (by kernel_rfl)
theorem ag_43 : aggO E6.P 43 = some false := id (by kernel_rfl)
theorem zp_43 : zeroP E6.P 43 = some (.slice none 0 0) := id (by kernel_rfl)
theorem el_43 : elemS E6.P 43 = some 1 := id (by kernel_rfl)
theorem sz_45 : szO E6.P 45 = some 29 := id (by kernel_rfl)
theorem by_45 : bytesO E6.P 45 = some 432 := id (by kernel_rfl)
theorem ag_45 : aggO E6.P 45 = some true := id (by kernel_rfl)
theorem zp_45 : zeroP E6.P 45 = some (.agg #[.int .i64 0, .int .i64 0, .slice none 0 0, .string .empty, .int .i64 0, .int .i64 0, .int .i64 0, .int .i64 0, .int .i64 0, .slice none 0 0, .slice none 0 0, .slice none 0 0, .slice none 0 0, .string .empty, .slice none 0 0, .int .i64 0, .slice none 0 0, .string .empty, .int .i64 0, .string .empty, .int .i64 0, .int .i64 0, .int .i64 0, .slice none 0 0, .slice none 0 0, .string .empty, .int .i64 0, .bool false, .slice none 0 0]) := id (by kernel_rfl)
theorem fo_45_0 : fldO E6.P 45 0 = some 0 := id (by kernel_rfl)
theorem ft_45_0 : fldT E6.P 45 0 = some (3, 0) := id (by kernel_rfl)
theorem fo_45_1 : fldO E6.P 45 1 = some 1 := id (by kernel_rfl)
theorem ft_45_1 : fldT E6.P 45 1 = some (3, 1) := id (by kernel_rfl)
theorem fo_45_2 : fldO E6.P 45 2 = some 2 := id (by kernel_rfl)
theorem ft_45_2 : fldT E6.P 45 2 = some (31, 2) := id (by kernel_rfl)
theorem fo_45_3 : fldO E6.P 45 3 = some 3 := id (by kernel_rfl)
theorem ft_45_3 : fldT E6.P 45 3 = some (39, 3) := id (by kernel_rfl)
theorem fo_45_4 : fldO E6.P 45 4 = some 19 := id (by kernel_rfl)
theorem ft_45_4 : fldT E6.P 45 4 = some (42, 19) := id (by kernel_rfl)
theorem fo_45_5 : fldO E6.P 45 5 = some 25 := id (by kernel_rfl)
theorem ft_45_5 : fldT E6.P 45 5 = some (9, 25) := id (by kernel_rfl)
theorem fo_45_6 : fldO E6.P 45 6 = some 26 := id (by kernel_rfl)
theorem ft_45_6 : fldT E6.P 45 6 = some (2, 26) := id (by kernel_rfl)
theorem fo_45_7 : fldO E6.P 45 7 = some 27 := id (by kernel_rfl)
theorem ft_45_7 : fldT E6.P 45 7 = some (4, 27) := id (by kernel_rfl)
theorem fo_45_8 : fldO E6.P 45 8 = some 28 := id (by kernel_rfl)
theorem ft_45_8 : fldT E6.P 45 8 = some (43, 28) := id (by kernel_rfl)
theorem sz_51 : szO E6.P 51 = some 1 := id (by kernel_rfl)
theorem by_51 : bytesO E6.P 51 = some 24 := id (by kernel_rfl)
theorem ag_51 : aggO E6.P 51 = some false := id (by kernel_rfl)
theorem zp_51 : zeroP E6.P 51 = some (.slice none 0 0) := id (by kernel_rfl)
theorem el_51 : elemS E6.P 51 = some 1 := id (by kernel_rfl)
theorem sz_57 : szO E6.P 57 = some 1 := id (by kernel_rfl)
theorem by_57 : bytesO E6.P 57 = some 8 := id (by kernel_rfl)
theorem ag_57 : aggO E6.P 57 = some false := id (by kernel_rfl)
theorem zp_57 : zeroP E6.P 57 = some (.pointer none) := id (by kernel_rfl)
theorem sz_63 : szO E6.P 63 = some 1 := id (by kernel_rfl)
theorem by_63 : bytesO E6.P 63 = some 24 := id (by kernel_rfl)
theorem ag_63 : aggO E6.P 63 = some false := id (by kernel_rfl)
theorem zp_63 : zeroP E6.P 63 = some (.slice none 0 0) := id (by kernel_rfl)
theorem el_63 : elemS E6.P 63 = some 3 := id (by kernel_rfl)
theorem sz_67 : szO E6.P 67 = some 1 := id (by kernel_rfl)
theorem by_67 : bytesO E6.P 67 = some 8 := id (by kernel_rfl)
theorem ag_67 : aggO E6.P 67 = some false := id (by kernel_rfl)
theorem zp_67 : zeroP E6.P 67 = some (.pointer none) := id (by kernel_rfl)
theorem sz_69 : szO E6.P 69 = some 1 := id (by kernel_rfl)
theorem by_69 : bytesO E6.P 69 = some 24 := id (by kernel_rfl)
theorem ag_69 : aggO E6.P 69 = some false := id (by kernel_rfl)
theorem zp_69 : zeroP E6.P 69 = some (.slice none 0 0) := id (by kernel_rfl)
theorem el_69 : elemS E6.P 69 = some 1 := id (by kernel_rfl)
theorem sz_71 : szO E6.P 71 = some 1 := id (by kernel_rfl)
theorem by_71 : bytesO E6.P 71 = some 24 := id (by kernel_rfl)
theorem ag_71 : aggO E6.P 71 = some false := id (by kernel_rfl)
theorem zp_71 : zeroP E6.P 71 = some (.slice none 0 0) := id (by kernel_rfl)
theorem el_71 : elemS E6.P 71 = some 3 := id (by kernel_rfl)
theorem sz_72 : szO E6.P 72 = some 1 := id (by kernel_rfl)
theorem by_72 : bytesO E6.P 72 = some 24 := id (by kernel_rfl)
theorem ag_72 : aggO E6.P 72 = some false := id (by kernel_rfl)
theorem zp_72 : zeroP E6.P 72 = some (.slice none 0 0) := id (by kernel_rfl)
theorem el_72 : elemS E6.P 72 = some 3 := id (by kernel_rfl)
theorem sz_74 : szO E6.P 74 = some 2 := id (by kernel_rfl)
theorem by_74 : bytesO E6.P 74 = some 48 := id (by kernel_rfl)
theorem ag_74 : aggO E6.P 74 = some true := id (by kernel_rfl)
theorem zp_74 : zeroP E6.P 74 = some (.agg #[.slice none 0 0, .slice none 0 0]) := id (by kernel_rfl)
theorem fo_74_0 : fldO E6.P 74 0 = some 0 := id (by kernel_rfl)
theorem ft_74_0 : fldT E6.P 74 0 = some (71, 0) := id (by kernel_rfl)
theorem fo_74_1 : fldO E6.P 74 1 = some 1 := id (by kernel_rfl)
theorem ft_74_1 : fldT E6.P 74 1 = some (72, 1) := id (by kernel_rfl)
theorem sz_76 : szO E6.P 76 = some 7 := id (by kernel_rfl)
theorem by_76 : bytesO E6.P 76 = some 96 := id (by kernel_rfl)
theorem ag_76 : aggO E6.P 76 = some true := id (by kernel_rfl)
theorem zp_76 : zeroP E6.P 76 = some (.agg #[.int .i64 0, .int .i64 0, .int .i64 0, .string .empty, .int .i64 0, .slice none 0 0, .slice none 0 0]) := id (by kernel_rfl)
theorem fo_76_0 : fldO E6.P 76 0 = some 0 := id (by kernel_rfl)
theorem ft_76_0 : fldT E6.P 76 0 = some (3, 0) := id (by kernel_rfl)
theorem fo_76_1 : fldO E6.P 76 1 = some 1 := id (by kernel_rfl)
theorem ft_76_1 : fldT E6.P 76 1 = some (2, 1) := id (by kernel_rfl)
theorem fo_76_2 : fldO E6.P 76 2 = some 2 := id (by kernel_rfl)
theorem ft_76_2 : fldT E6.P 76 2 = some (3, 2) := id (by kernel_rfl)
theorem fo_76_3 : fldO E6.P 76 3 = some 3 := id (by kernel_rfl)
theorem ft_76_3 : fldT E6.P 76 3 = some (9, 3) := id (by kernel_rfl)
theorem fo_76_4 : fldO E6.P 76 4 = some 4 := id (by kernel_rfl)
theorem ft_76_4 : fldT E6.P 76 4 = some (2, 4) := id (by kernel_rfl)
theorem fo_76_5 : fldO E6.P 76 5 = some 5 := id (by kernel_rfl)
theorem ft_76_5 : fldT E6.P 76 5 = some (74, 5) := id (by kernel_rfl)
theorem sz_81 : szO E6.P 81 = some 1 := id (by kernel_rfl)
theorem by_81 : bytesO E6.P 81 = some 8 := id (by kernel_rfl)
theorem ag_81 : aggO E6.P 81 = some false := id (by kernel_rfl)
theorem zp_81 : zeroP E6.P 81 = some (.pointer none) := id (by kernel_rfl)
theorem sz_83 : szO E6.P 83 = some 1 := id (by kernel_rfl)
theorem by_83 : bytesO E6.P 83 = some 24 := id (by kernel_rfl)
theorem ag_83 : aggO E6.P 83 = some false := id (by kernel_rfl)
theorem zp_83 : zeroP E6.P 83 = some (.slice none 0 0) := id (by kernel_rfl)
theorem el_83 : elemS E6.P 83 = some 3 := id (by kernel_rfl)
theorem sz_87 : szO E6.P 87 = some 1 := id (by kernel_rfl)
theorem by_87 : bytesO E6.P 87 = some 8 := id (by kernel_rfl)
theorem ag_87 : aggO E6.P 87 = some false := id (by kernel_rfl)
theorem zp_87 : zeroP E6.P 87 = some (.pointer none) := id (by kernel_rfl)
theorem sz_89 : szO E6.P 89 = some 1 := id (by kernel_rfl)
theorem by_89 : bytesO E6.P 89 = some 24 := id (by kernel_rfl)
theorem ag_89 : aggO E6.P 89 = some false := id (by kernel_rfl)
theorem zp_89 : zeroP E6.P 89 = some (.slice none 0 0) := id (by kernel_rfl)
theorem el_89 : elemS E6.P 89 = some 3 := id (by kernel_rfl)
theorem sz_91 : szO E6.P 91 = some 1 := id (by kernel_rfl)
theorem by_91 : bytesO E6.P 91 = some 24 := id (by kernel_rfl)
theorem ag_91 : aggO E6.P 91 = some false := id (by kernel_rfl)
theorem zp_91 : zeroP E6.P 91 = some (.slice none 0 0) := id (by kernel_rfl)
theorem el_91 : elemS E6.P 91 = some 4 := id (by kernel_rfl)
theorem sz_100 : szO E6.P 100 = some 1 := id (by kernel_rfl)
theorem by_100 : bytesO E6.P 100 = some 8 := id (by kernel_rfl)
theorem ag_100 : aggO E6.P 100 = some false := id (by kernel_rfl)
theorem zp_100 : zeroP E6.P 100 = some (.pointer none) := id (by kernel_rfl)
theorem sz_103 : szO E6.P 103 = some 1 := id (by kernel_rfl)
theorem by_103 : bytesO E6.P 103 = some 8 := id (by kernel_rfl)
theorem ag_103 : aggO E6.P 103 = some false := id (by kernel_rfl)
theorem zp_103 : zeroP E6.P 103 = some (.map none) := id (by kernel_rfl)
theorem sz_104 : szO E6.P 104 = some 1 := id (by kernel_rfl)
theorem by_104 : bytesO E6.P 104 = some 8 := id (by kernel_rfl)
theorem ag_104 : aggO E6.P 104 = some false := id (by kernel_rfl)
theorem zp_104 : zeroP E6.P 104 = some (.map none) := id (by kernel_rfl)
theorem sz_105 : szO E6.P 105 = some 1 := id (by kernel_rfl)
theorem by_105 : bytesO E6.P 105 = some 24 := id (by kernel_rfl)
theorem ag_105 : aggO E6.P 105 = some false := id (by kernel_rfl)
theorem zp_105 : zeroP E6.P 105 = some (.slice none 0 0) := id (by kernel_rfl)
theorem el_105 : elemS E6.P 105 = some 3 := id (by kernel_rfl)
theorem sz_107 : szO E6.P 107 = some 9 := id (by kernel_rfl)
theorem by_107 : bytesO E6.P 107 = some 104 := id (by kernel_rfl)
theorem ag_107 : aggO E6.P 107 = some true := id (by kernel_rfl)
theorem zp_107 : zeroP E6.P 107 = some (.agg #[.bool false, .slice none 0 0, .pointer none, .pointer none, .pointer none, .slice none 0 0, .map none, .map none, .map none]) := id (by kernel_rfl)
theorem fo_107_0 : fldO E6.P 107 0 = some 0 := id (by kernel_rfl)
theorem ft_107_0 : fldT E6.P 107 0 = some (4, 0) := id (by kernel_rfl)
theorem fo_107_1 : fldO E6.P 107 1 = some 1 := id (by kernel_rfl)
theorem ft_107_1 : fldT E6.P 107 1 = some (105, 1) := id (by kernel_rfl)
theorem fo_107_2 : fldO E6.P 107 2 = some 2 := id (by kernel_rfl)
theorem ft_107_2 : fldT E6.P 107 2 = some (57, 2) := id (by kernel_rfl)
theorem fo_107_3 : fldO E6.P 107 3 = some 3 := id (by kernel_rfl)
theorem ft_107_3 : fldT E6.P 107 3 = some (100, 3) := id (by kernel_rfl)
theorem fo_107_4 : fldO E6.P 107 4 = some 4 := id (by kernel_rfl)
theorem ft_107_4 : fldT E6.P 107 4 = some (87, 4) := id (by kernel_rfl)
theorem fo_107_5 : fldO E6.P 107 5 = some 5 := id (by kernel_rfl)
theorem ft_107_5 : fldT E6.P 107 5 = some (91, 5) := id (by kernel_rfl)
theorem fo_107_6 : fldO E6.P 107 6 = some 6 := id (by kernel_rfl)
theorem ft_107_6 : fldT E6.P 107 6 = some (103, 6) := id (by kernel_rfl)
theorem fo_107_7 : fldO E6.P 107 7 = some 7 := id (by kernel_rfl)
theorem ft_107_7 : fldT E6.P 107 7 = some (104, 7) := id (by kernel_rfl)
theorem fo_107_8 : fldO E6.P 107 8 = some 8 := id (by kernel_rfl)
theorem ft_107_8 : fldT E6.P 107 8 = some (30, 8) := id (by kernel_rfl)
theorem sz_109 : szO E6.P 109 = some 3 := id (by kernel_rfl)
theorem by_109 : bytesO E6.P 109 = some 24 := id (by kernel_rfl)
theorem ag_109 : aggO E6.P 109 = some true := id (by kernel_rfl)
theorem zp_109 : zeroP E6.P 109 = some (.agg #[.pointer none, .bool false, .int .i64 0]) := id (by kernel_rfl)
theorem fo_109_0 : fldO E6.P 109 0 = some 0 := id (by kernel_rfl)
theorem ft_109_0 : fldT E6.P 109 0 = some (67, 0) := id (by kernel_rfl)
theorem fo_109_1 : fldO E6.P 109 1 = some 1 := id (by kernel_rfl)
theorem ft_109_1 : fldT E6.P 109 1 = some (4, 1) := id (by kernel_rfl)
theorem fo_109_2 : fldO E6.P 109 2 = some 2 := id (by kernel_rfl)
theorem ft_109_2 : fldT E6.P 109 2 = some (3, 2) := id (by kernel_rfl)
theorem sz_116 : szO E6.P 116 = some 1 := id (by kernel_rfl)
theorem by_116 : bytesO E6.P 116 = some 8 := id (by kernel_rfl)
theorem ag_116 : aggO E6.P 116 = some false := id (by kernel_rfl)
theorem zp_116 : zeroP E6.P 116 = some (.map none) := id (by kernel_rfl)
theorem sz_117 : szO E6.P 117 = some 1 := id (by kernel_rfl)
theorem by_117 : bytesO E6.P 117 = some 8 := id (by kernel_rfl)
theorem ag_117 : aggO E6.P 117 = some false := id (by kernel_rfl)
theorem zp_117 : zeroP E6.P 117 = some (.map none) := id (by kernel_rfl)
theorem sz_118 : szO E6.P 118 = some 1 := id (by kernel_rfl)
theorem by_118 : bytesO E6.P 118 = some 8 := id (by kernel_rfl)
theorem ag_118 : aggO E6.P 118 = some false := id (by kernel_rfl)
theorem zp_118 : zeroP E6.P 118 = some (.pointer none) := id (by kernel_rfl)
theorem sz_120 : szO E6.P 120 = some 0 := id (by kernel_rfl)
theorem by_120 : bytesO E6.P 120 = some 0 := id (by kernel_rfl)
theorem ag_120 : aggO E6.P 120 = some true := id (by kernel_rfl)
theorem zp_120 : zeroP E6.P 120 = some (.agg #[]) := id (by kernel_rfl)
theorem sz_121 : szO E6.P 121 = some 0 := id (by kernel_rfl)
theorem by_121 : bytesO E6.P 121 = some 0 := id (by kernel_rfl)
theorem ag_121 : aggO E6.P 121 = some true := id (by kernel_rfl)
theorem zp_121 : zeroP E6.P 121 = some (.agg #[]) := id (by kernel_rfl)
theorem sz_123 : szO E6.P 123 = some 1 := id (by kernel_rfl)
theorem by_123 : bytesO E6.P 123 = some 8 := id (by kernel_rfl)
theorem ag_123 : aggO E6.P 123 = some true := id (by kernel_rfl)
theorem zp_123 : zeroP E6.P 123 = some (.agg #[.int .i64 0]) := id (by kernel_rfl)
theorem ft_123_0 : fldT E6.P 123 0 = some (120, 0) := id (by kernel_rfl)
theorem ft_123_1 : fldT E6.P 123 1 = some (121, 0) := id (by kernel_rfl)
theorem fo_123_2 : fldO E6.P 123 2 = some 0 := id (by kernel_rfl)
theorem ft_123_2 : fldT E6.P 123 2 = some (2, 0) := id (by kernel_rfl)
theorem sz_125 : szO E6.P 125 = some 6 := id (by kernel_rfl)
theorem by_125 : bytesO E6.P 125 = some 48 := id (by kernel_rfl)
theorem ag_125 : aggO E6.P 125 = some true := id (by kernel_rfl)
theorem zp_125 : zeroP E6.P 125 = some (.agg #[.int .i64 0, .map none, .map none, .pointer none, .int .i64 0, .int .i64 0]) := id (by kernel_rfl)
theorem fo_125_0 : fldO E6.P 125 0 = some 0 := id (by kernel_rfl)
theorem ft_125_0 : fldT E6.P 125 0 = some (2, 0) := id (by kernel_rfl)
theorem fo_125_1 : fldO E6.P 125 1 = some 1 := id (by kernel_rfl)
theorem ft_125_1 : fldT E6.P 125 1 = some (116, 1) := id (by kernel_rfl)
theorem fo_125_2 : fldO E6.P 125 2 = some 2 := id (by kernel_rfl)
theorem ft_125_2 : fldT E6.P 125 2 = some (117, 2) := id (by kernel_rfl)
theorem fo_125_3 : fldO E6.P 125 3 = some 3 := id (by kernel_rfl)
theorem ft_125_3 : fldT E6.P 125 3 = some (118, 3) := id (by kernel_rfl)
theorem fo_125_4 : fldO E6.P 125 4 = some 4 := id (by kernel_rfl)
theorem ft_125_4 : fldT E6.P 125 4 = some (123, 4) := id (by kernel_rfl)
theorem fo_125_5 : fldO E6.P 125 5 = some 5 := id (by kernel_rfl)
theorem ft_125_5 : fldT E6.P 125 5 = some (123, 5) := id (by kernel_rfl)
theorem sz_130 : szO E6.P 130 = some 3 := id (by kernel_rfl)
theorem by_130 : bytesO E6.P 130 = some 48 := id (by kernel_rfl)
theorem ag_130 : aggO E6.P 130 = some true := id (by kernel_rfl)
theorem zp_130 : zeroP E6.P 130 = some (.agg #[.string .empty, .int .i64 0, .slice none 0 0]) := id (by kernel_rfl)
theorem fo_130_0 : fldO E6.P 130 0 = some 0 := id (by kernel_rfl)
theorem ft_130_0 : fldT E6.P 130 0 = some (9, 0) := id (by kernel_rfl)
theorem fo_130_1 : fldO E6.P 130 1 = some 1 := id (by kernel_rfl)
theorem ft_130_1 : fldT E6.P 130 1 = some (2, 1) := id (by kernel_rfl)
theorem fo_130_2 : fldO E6.P 130 2 = some 2 := id (by kernel_rfl)
theorem ft_130_2 : fldT E6.P 130 2 = some (43, 2) := id (by kernel_rfl)
theorem sz_143 : szO E6.P 143 = some 1 := id (by kernel_rfl)
theorem by_143 : bytesO E6.P 143 = some 8 := id (by kernel_rfl)
theorem ag_143 : aggO E6.P 143 = some false := id (by kernel_rfl)
theorem zp_143 : zeroP E6.P 143 = some (.nilFunc) := id (by kernel_rfl)
theorem sz_148 : szO E6.P 148 = some 1 := id (by kernel_rfl)
theorem by_148 : bytesO E6.P 148 = some 8 := id (by kernel_rfl)
theorem ag_148 : aggO E6.P 148 = some false := id (by kernel_rfl)
theorem zp_148 : zeroP E6.P 148 = some (.pointer none) := id (by kernel_rfl)
theorem sz_150 : szO E6.P 150 = some 1 := id (by kernel_rfl)
theorem by_150 : bytesO E6.P 150 = some 8 := id (by kernel_rfl)
theorem ag_150 : aggO E6.P 150 = some false := id (by kernel_rfl)
theorem zp_150 : zeroP E6.P 150 = some (.pointer none) := id (by kernel_rfl)
theorem sz_152 : szO E6.P 152 = some 1 := id (by kernel_rfl)
theorem by_152 : bytesO E6.P 152 = some 8 := id (by kernel_rfl)
theorem ag_152 : aggO E6.P 152 = some false := id (by kernel_rfl)
theorem zp_152 : zeroP E6.P 152 = some (.pointer none) := id (by kernel_rfl)
theorem sz_154 : szO E6.P 154 = some 1 := id (by kernel_rfl)
theorem by_154 : bytesO E6.P 154 = some 8 := id (by kernel_rfl)
theorem ag_154 : aggO E6.P 154 = some false := id (by kernel_rfl)
theorem zp_154 : zeroP E6.P 154 = some (.pointer none) := id (by kernel_rfl)
theorem sz_156 : szO E6.P 156 = some 1 := id (by kernel_rfl)
theorem by_156 : bytesO E6.P 156 = some 24 := id (by kernel_rfl)
theorem ag_156 : aggO E6.P 156 = some false := id (by kernel_rfl)
theorem zp_156 : zeroP E6.P 156 = some (.slice none 0 0) := id (by kernel_rfl)
theorem el_156 : elemS E6.P 156 = some 6 := id (by kernel_rfl)
theorem sz_158 : szO E6.P 158 = some 18 := id (by kernel_rfl)
theorem by_158 : bytesO E6.P 158 = some 168 := id (by kernel_rfl)
theorem ag_158 : aggO E6.P 158 = some true := id (by kernel_rfl)
theorem zp_158 : zeroP E6.P 158 = some (.agg #[.int .i64 0, .bool false, .int .i64 0, .pointer none, .pointer none, .pointer none, .pointer none, .slice none 0 0, .int .i64 0, .int .i64 0, .int .i64 0, .int .i64 0, .int .i64 0, .int .i64 0, .int .i64 0, .string .empty, .bool false, .int .i64 0]) := id (by kernel_rfl)
theorem fo_158_0 : fldO E6.P 158 0 = some 0 := id (by kernel_rfl)
theorem ft_158_0 : fldT E6.P 158 0 = some (3, 0) := id (by kernel_rfl)
theorem fo_158_1 : fldO E6.P 158 1 = some 1 := id (by kernel_rfl)
theorem ft_158_1 : fldT E6.P 158 1 = some (4, 1) := id (by kernel_rfl)
theorem fo_158_2 : fldO E6.P 158 2 = some 2 := id (by kernel_rfl)
theorem ft_158_2 : fldT E6.P 158 2 = some (2, 2) := id (by kernel_rfl)
theorem fo_158_3 : fldO E6.P 158 3 = some 3 := id (by kernel_rfl)
theorem ft_158_3 : fldT E6.P 158 3 = some (148, 3) := id (by kernel_rfl)
theorem fo_158_4 : fldO E6.P 158 4 = some 4 := id (by kernel_rfl)
theorem ft_158_4 : fldT E6.P 158 4 = some (150, 4) := id (by kernel_rfl)
theorem fo_158_5 : fldO E6.P 158 5 = some 5 := id (by kernel_rfl)
theorem ft_158_5 : fldT E6.P 158 5 = some (152, 5) := id (by kernel_rfl)
theorem fo_158_6 : fldO E6.P 158 6 = some 6 := id (by kernel_rfl)
theorem ft_158_6 : fldT E6.P 158 6 = some (154, 6) := id (by kernel_rfl)
theorem fo_158_7 : fldO E6.P 158 7 = some 7 := id (by kernel_rfl)
theorem ft_158_7 : fldT E6.P 158 7 = some (156, 7) := id (by kernel_rfl)
theorem fo_158_8 : fldO E6.P 158 8 = some 8 := id (by kernel_rfl)
theorem ft_158_8 : fldT E6.P 158 8 = some (2, 8) := id (by kernel_rfl)
theorem fo_158_9 : fldO E6.P 158 9 = some 9 := id (by kernel_rfl)
theorem ft_158_9 : fldT E6.P 158 9 = some (2, 9) := id (by kernel_rfl)
theorem fo_158_10 : fldO E6.P 158 10 = some 10 := id (by kernel_rfl)
theorem ft_158_10 : fldT E6.P 158 10 = some (3, 10) := id (by kernel_rfl)
theorem fo_158_11 : fldO E6.P 158 11 = some 11 := id (by kernel_rfl)
theorem ft_158_11 : fldT E6.P 158 11 = some (2, 11) := id (by kernel_rfl)
theorem fo_158_12 : fldO E6.P 158 12 = some 12 := id (by kernel_rfl)
theorem ft_158_12 : fldT E6.P 158 12 = some (2, 12) := id (by kernel_rfl)
theorem fo_158_13 : fldO E6.P 158 13 = some 13 := id (by kernel_rfl)
theorem ft_158_13 : fldT E6.P 158 13 = some (2, 13) := id (by kernel_rfl)
theorem fo_158_14 : fldO E6.P 158 14 = some 14 := id (by kernel_rfl)
theorem ft_158_14 : fldT E6.P 158 14 = some (2, 14) := id (by kernel_rfl)
theorem fo_158_15 : fldO E6.P 158 15 = some 15 := id (by kernel_rfl)
theorem ft_158_15 : fldT E6.P 158 15 = some (9, 15) := id (by kernel_rfl)
theorem fo_158_16 : fldO E6.P 158 16 = some 16 := id (by kernel_rfl)
theorem ft_158_16 : fldT E6.P 158 16 = some (4, 16) := id (by kernel_rfl)
theorem fo_158_17 : fldO E6.P 158 17 = some 17 := id (by kernel_rfl)
theorem ft_158_17 : fldT E6.P 158 17 = some (2, 17) := id (by kernel_rfl)
theorem sz_168 : szO E6.P 168 = some 1 := id (by kernel_rfl)
theorem by_168 : bytesO E6.P 168 = some 8 := id (by kernel_rfl)
theorem ag_168 : aggO E6.P 168 = some false := id (by kernel_rfl)
theorem zp_168 : zeroP E6.P 168 = some (.pointer none) := id (by kernel_rfl)
theorem sz_172 : szO E6.P 172 = some 3 := id (by kernel_rfl)
theorem by_172 : bytesO E6.P 172 = some 32 := id (by kernel_rfl)
theorem ag_172 : aggO E6.P 172 = some true := id (by kernel_rfl)
theorem zp_172 : zeroP E6.P 172 = some (.agg #[.string .empty, .int .i64 0, .bool false]) := id (by kernel_rfl)
theorem fo_172_0 : fldO E6.P 172 0 = some 0 := id (by kernel_rfl)
theorem ft_172_0 : fldT E6.P 172 0 = some (9, 0) := id (by kernel_rfl)
theorem fo_172_1 : fldO E6.P 172 1 = some 1 := id (by kernel_rfl)
theorem ft_172_1 : fldT E6.P 172 1 = some (2, 1) := id (by kernel_rfl)
theorem fo_172_2 : fldO E6.P 172 2 = some 2 := id (by kernel_rfl)
theorem ft_172_2 : fldT E6.P 172 2 = some (4, 2) := id (by kernel_rfl)
theorem sz_174 : szO E6.P 174 = some 3 := id (by kernel_rfl)
theorem by_174 : bytesO E6.P 174 = some 48 := id (by kernel_rfl)
theorem ag_174 : aggO E6.P 174 = some true := id (by kernel_rfl)
theorem zp_174 : zeroP E6.P 174 = some (.agg #[.string .empty, .slice none 0 0, .bool false]) := id (by kernel_rfl)
theorem fo_174_0 : fldO E6.P 174 0 = some 0 := id (by kernel_rfl)
theorem ft_174_0 : fldT E6.P 174 0 = some (9, 0) := id (by kernel_rfl)
theorem fo_174_1 : fldO E6.P 174 1 = some 1 := id (by kernel_rfl)
theorem ft_174_1 : fldT E6.P 174 1 = some (43, 1) := id (by kernel_rfl)
theorem fo_174_2 : fldO E6.P 174 2 = some 2 := id (by kernel_rfl)
theorem ft_174_2 : fldT E6.P 174 2 = some (4, 2) := id (by kernel_rfl)
theorem sz_177 : szO E6.P 177 = some 2 := id (by kernel_rfl)
theorem by_177 : bytesO E6.P 177 = some 16 := id (by kernel_rfl)
theorem ag_177 : aggO E6.P 177 = some true := id (by kernel_rfl)
theorem zp_177 : zeroP E6.P 177 = some (.agg #[.map none, .int .i64 0]) := id (by kernel_rfl)
theorem fo_177_0 : fldO E6.P 177 0 = some 0 := id (by kernel_rfl)
theorem ft_177_0 : fldT E6.P 177 0 = some (116, 0) := id (by kernel_rfl)
theorem fo_177_1 : fldO E6.P 177 1 = some 1 := id (by kernel_rfl)
theorem ft_177_1 : fldT E6.P 177 1 = some (2, 1) := id (by kernel_rfl)
theorem sz_179 : szO E6.P 179 = some 4 := id (by kernel_rfl)
theorem by_179 : bytesO E6.P 179 = some 64 := id (by kernel_rfl)
theorem ag_179 : aggO E6.P 179 = some true := id (by kernel_rfl)
theorem zp_179 : zeroP E6.P 179 = some (.agg #[.int .i64 0, .int .i64 0, .slice none 0 0, .slice none 0 0]) := id (by kernel_rfl)
theorem fo_179_0 : fldO E6.P 179 0 = some 0 := id (by kernel_rfl)
theorem ft_179_0 : fldT E6.P 179 0 = some (2, 0) := id (by kernel_rfl)
theorem fo_179_1 : fldO E6.P 179 1 = some 1 := id (by kernel_rfl)
theorem ft_179_1 : fldT E6.P 179 1 = some (3, 1) := id (by kernel_rfl)
theorem fo_179_2 : fldO E6.P 179 2 = some 2 := id (by kernel_rfl)
theorem ft_179_2 : fldT E6.P 179 2 = some (74, 2) := id (by kernel_rfl)
theorem sz_182 : szO E6.P 182 = some 1 := id (by kernel_rfl)
theorem by_182 : bytesO E6.P 182 = some 24 := id (by kernel_rfl)
theorem ag_182 : aggO E6.P 182 = some false := id (by kernel_rfl)
theorem zp_182 : zeroP E6.P 182 = some (.slice none 0 0) := id (by kernel_rfl)
theorem el_182 : elemS E6.P 182 = some 4 := id (by kernel_rfl)
theorem sz_198 : szO E6.P 198 = some 3 := id (by kernel_rfl)
theorem by_198 : bytesO E6.P 198 = some 56 := id (by kernel_rfl)
theorem ag_198 : aggO E6.P 198 = some true := id (by kernel_rfl)
theorem zp_198 : zeroP E6.P 198 = some (.agg #[.string .empty, .string .empty, .slice none 0 0]) := id (by kernel_rfl)
theorem fo_198_0 : fldO E6.P 198 0 = some 0 := id (by kernel_rfl)
theorem ft_198_0 : fldT E6.P 198 0 = some (9, 0) := id (by kernel_rfl)
theorem fo_198_1 : fldO E6.P 198 1 = some 1 := id (by kernel_rfl)
theorem ft_198_1 : fldT E6.P 198 1 = some (9, 1) := id (by kernel_rfl)
theorem fo_198_2 : fldO E6.P 198 2 = some 2 := id (by kernel_rfl)
theorem ft_198_2 : fldT E6.P 198 2 = some (51, 2) := id (by kernel_rfl)
theorem sz_202 : szO E6.P 202 = some 8 := id (by kernel_rfl)
theorem by_202 : bytesO E6.P 202 = some 64 := id (by kernel_rfl)
theorem ag_202 : aggO E6.P 202 = some true := id (by kernel_rfl)
theorem zp_202 : zeroP E6.P 202 = some (.agg #[.int .i64 0, .int .i64 0, .int .i64 0, .int .i64 0, .int .i64 0, .int .i64 0, .int .i64 0, .int .i64 0]) := id (by kernel_rfl)
theorem sz_203 : szO E6.P 203 = some 64 := id (by kernel_rfl)
theorem by_203 : bytesO E6.P 203 = some 512 := id (by kernel_rfl)
theorem ag_203 : aggO E6.P 203 = some true := id (by kernel_rfl)
theorem sz_205 : szO E6.P 205 = some 129 := id (by kernel_rfl)
theorem by_205 : bytesO E6.P 205 = some 1048 := id (by kernel_rfl)
theorem ag_205 : aggO E6.P 205 = some true := id (by kernel_rfl)
theorem fo_205_0 : fldO E6.P 205 0 = some 0 := id (by kernel_rfl)
theorem ft_205_0 : fldT E6.P 205 0 = some (31, 0) := id (by kernel_rfl)
theorem fo_205_1 : fldO E6.P 205 1 = some 1 := id (by kernel_rfl)
theorem ft_205_1 : fldT E6.P 205 1 = some (203, 1) := id (by kernel_rfl)
theorem fo_205_2 : fldO E6.P 205 2 = some 65 := id (by kernel_rfl)
theorem ft_205_2 : fldT E6.P 205 2 = some (203, 65) := id (by kernel_rfl)
theorem sz_208 : szO E6.P 208 = some 2 := id (by kernel_rfl)
theorem by_208 : bytesO E6.P 208 = some 32 := id (by kernel_rfl)
theorem ag_208 : aggO E6.P 208 = some true := id (by kernel_rfl)
theorem zp_208 : zeroP E6.P 208 = some (.agg #[.slice none 0 0, .int .i64 0]) := id (by kernel_rfl)
theorem fo_208_0 : fldO E6.P 208 0 = some 0 := id (by kernel_rfl)
theorem ft_208_0 : fldT E6.P 208 0 = some (89, 0) := id (by kernel_rfl)
theorem fo_208_1 : fldO E6.P 208 1 = some 1 := id (by kernel_rfl)
theorem ft_208_1 : fldT E6.P 208 1 = some (3, 1) := id (by kernel_rfl)
theorem sz_210 : szO E6.P 210 = some 2 := id (by kernel_rfl)
theorem by_210 : bytesO E6.P 210 = some 32 := id (by kernel_rfl)
theorem ag_210 : aggO E6.P 210 = some true := id (by kernel_rfl)
theorem zp_210 : zeroP E6.P 210 = some (.agg #[.string .empty, .string .empty]) := id (by kernel_rfl)
theorem fo_210_0 : fldO E6.P 210 0 = some 0 := id (by kernel_rfl)
theorem ft_210_0 : fldT E6.P 210 0 = some (9, 0) := id (by kernel_rfl)
theorem fo_210_1 : fldO E6.P 210 1 = some 1 := id (by kernel_rfl)
theorem ft_210_1 : fldT E6.P 210 1 = some (9, 1) := id (by kernel_rfl)
theorem sz_212 : szO E6.P 212 = some 3 := id (by kernel_rfl)
theorem by_212 : bytesO E6.P 212 = some 48 := id (by kernel_rfl)
theorem ag_212 : aggO E6.P 212 = some true := id (by kernel_rfl)
theorem zp_212 : zeroP E6.P 212 = some (.agg #[.string .empty, .int .i64 0, .slice none 0 0]) := id (by kernel_rfl)
theorem fo_212_0 : fldO E6.P 212 0 = some 0 := id (by kernel_rfl)
theorem ft_212_0 : fldT E6.P 212 0 = some (9, 0) := id (by kernel_rfl)
theorem fo_212_1 : fldO E6.P 212 1 = some 1 := id (by kernel_rfl)
theorem ft_212_1 : fldT E6.P 212 1 = some (3, 1) := id (by kernel_rfl)
theorem fo_212_2 : fldO E6.P 212 2 = some 2 := id (by kernel_rfl)
theorem ft_212_2 : fldT E6.P 212 2 = some (51, 2) := id (by kernel_rfl)
theorem sz_214 : szO E6.P 214 = some 3 := id (by kernel_rfl)
theorem by_214 : bytesO E6.P 214 = some 40 := id (by kernel_rfl)
theorem ag_214 : aggO E6.P 214 = some true := id (by kernel_rfl)
theorem zp_214 : zeroP E6.P 214 = some (.agg #[.string .empty, .string .empty, .bool false]) := id (by kernel_rfl)
theorem fo_214_0 : fldO E6.P 214 0 = some 0 := id (by kernel_rfl)
theorem ft_214_0 : fldT E6.P 214 0 = some (9, 0) := id (by kernel_rfl)
theorem fo_214_1 : fldO E6.P 214 1 = some 1 := id (by kernel_rfl)
theorem ft_214_1 : fldT E6.P 214 1 = some (9, 1) := id (by kernel_rfl)
theorem fo_214_2 : fldO E6.P 214 2 = some 2 := id (by kernel_rfl)
theorem ft_214_2 : fldT E6.P 214 2 = some (4, 2) := id (by kernel_rfl)
theorem sz_215 : szO E6.P 215 = some 2 := id (by kernel_rfl)
theorem by_215 : bytesO E6.P 215 = some 32 := id (by kernel_rfl)
theorem ag_215 : aggO E6.P 215 = some true := id (by kernel_rfl)
theorem zp_215 : zeroP E6.P 215 = some (.agg #[.string .empty, .string .empty]) := id (by kernel_rfl)
theorem fo_215_0 : fldO E6.P 215 0 = some 0 := id (by kernel_rfl)
theorem ft_215_0 : fldT E6.P 215 0 = some (9, 0) := id (by kernel_rfl)
theorem fo_215_1 : fldO E6.P 215 1 = some 1 := id (by kernel_rfl)
theorem ft_215_1 : fldT E6.P 215 1 = some (9, 1) := id (by kernel_rfl)
theorem sz_218 : szO E6.P 218 = some 3 := id (by kernel_rfl)
theorem by_218 : bytesO E6.P 218 = some 40 := id (by kernel_rfl)
theorem ag_218 : aggO E6.P 218 = some true := id (by kernel_rfl)
theorem zp_218 : zeroP E6.P 218 = some (.agg #[.bool false, .int .i64 0, .slice none 0 0]) := id (by kernel_rfl)
theorem fo_218_0 : fldO E6.P 218 0 = some 0 := id (by kernel_rfl)
theorem ft_218_0 : fldT E6.P 218 0 = some (4, 0) := id (by kernel_rfl)
theorem fo_218_1 : fldO E6.P 218 1 = some 1 := id (by kernel_rfl)
theorem ft_218_1 : fldT E6.P 218 1 = some (3, 1) := id (by kernel_rfl)
theorem fo_218_2 : fldO E6.P 218 2 = some 2 := id (by kernel_rfl)
theorem ft_218_2 : fldT E6.P 218 2 = some (43, 2) := id (by kernel_rfl)
theorem sz_228 : szO E6.P 228 = some 1 := id (by kernel_rfl)
theorem by_228 : bytesO E6.P 228 = some 8 := id (by kernel_rfl)
theorem ag_228 : aggO E6.P 228 = some false := id (by kernel_rfl)
theorem zp_228 : zeroP E6.P 228 = some (.nilFunc) := id (by kernel_rfl)
theorem sz_231 : szO E6.P 231 = some 1 := id (by kernel_rfl)
theorem by_231 : bytesO E6.P 231 = some 8 := id (by kernel_rfl)
theorem ag_231 : aggO E6.P 231 = some false := id (by kernel_rfl)
theorem zp_231 : zeroP E6.P 231 = some (.nilFunc) := id (by kernel_rfl)
theorem sz_243 : szO E6.P 243 = some 13 := id (by kernel_rfl)
theorem by_243 : bytesO E6.P 243 = some 144 := id (by kernel_rfl)
theorem ag_243 : aggO E6.P 243 = some true := id (by kernel_rfl)
theorem zp_243 : zeroP E6.P 243 = some (.agg #[.int .i64 0, .int .i64 0, .pointer none, .bool false, .int .i64 0, .int .i64 0, .int .i64 0, .string .empty, .int .i64 0, .slice none 0 0, .slice none 0 0, .int .i64 0, .int .i64 0]) := id (by kernel_rfl)
theorem fo_243_0 : fldO E6.P 243 0 = some 0 := id (by kernel_rfl)
theorem ft_243_0 : fldT E6.P 243 0 = some (3, 0) := id (by kernel_rfl)
theorem fo_243_1 : fldO E6.P 243 1 = some 1 := id (by kernel_rfl)
theorem ft_243_1 : fldT E6.P 243 1 = some (2, 1) := id (by kernel_rfl)
theorem fo_243_2 : fldO E6.P 243 2 = some 2 := id (by kernel_rfl)
theorem ft_243_2 : fldT E6.P 243 2 = some (81, 2) := id (by kernel_rfl)
theorem fo_243_3 : fldO E6.P 243 3 = some 3 := id (by kernel_rfl)
theorem ft_243_3 : fldT E6.P 243 3 = some (4, 3) := id (by kernel_rfl)
theorem fo_243_4 : fldO E6.P 243 4 = some 4 := id (by kernel_rfl)
theorem ft_243_4 : fldT E6.P 243 4 = some (76, 4) := id (by kernel_rfl)
theorem fo_243_5 : fldO E6.P 243 5 = some 11 := id (by kernel_rfl)
theorem ft_243_5 : fldT E6.P 243 5 = some (2, 11) := id (by kernel_rfl)
theorem fo_243_6 : fldO E6.P 243 6 = some 12 := id (by kernel_rfl)
theorem ft_243_6 : fldT E6.P 243 6 = some (3, 12) := id (by kernel_rfl)
theorem sz_245 : szO E6.P 245 = some 2 := id (by kernel_rfl)
theorem by_245 : bytesO E6.P 245 = some 16 := id (by kernel_rfl)
theorem ag_245 : aggO E6.P 245 = some true := id (by kernel_rfl)
theorem zp_245 : zeroP E6.P 245 = some (.agg #[.int .i64 0, .int .i64 0]) := id (by kernel_rfl)
theorem fo_245_0 : fldO E6.P 245 0 = some 0 := id (by kernel_rfl)
theorem ft_245_0 : fldT E6.P 245 0 = some (3, 0) := id (by kernel_rfl)
theorem fo_245_1 : fldO E6.P 245 1 = some 1 := id (by kernel_rfl)
theorem ft_245_1 : fldT E6.P 245 1 = some (2, 1) := id (by kernel_rfl)
theorem sz_247 : szO E6.P 247 = some 11 := id (by kernel_rfl)
theorem by_247 : bytesO E6.P 247 = some 80 := id (by kernel_rfl)
theorem ag_247 : aggO E6.P 247 = some true := id (by kernel_rfl)
theorem zp_247 : zeroP E6.P 247 = some (.agg #[.int .i64 0, .bool false, .bool false, .int .i64 0, .int .i64 0, .int .i64 0, .int .i64 0, .bool false, .int .i64 0, .int .i64 0, .int .i64 0]) := id (by kernel_rfl)
theorem fo_247_0 : fldO E6.P 247 0 = some 0 := id (by kernel_rfl)
theorem ft_247_0 : fldT E6.P 247 0 = some (3, 0) := id (by kernel_rfl)
theorem fo_247_1 : fldO E6.P 247 1 = some 1 := id (by kernel_rfl)
theorem ft_247_1 : fldT E6.P 247 1 = some (4, 1) := id (by kernel_rfl)
theorem fo_247_2 : fldO E6.P 247 2 = some 2 := id (by kernel_rfl)
theorem ft_247_2 : fldT E6.P 247 2 = some (4, 2) := id (by kernel_rfl)
theorem fo_247_3 : fldO E6.P 247 3 = some 3 := id (by kernel_rfl)
theorem ft_247_3 : fldT E6.P 247 3 = some (2, 3) := id (by kernel_rfl)
theorem fo_247_4 : fldO E6.P 247 4 = some 4 := id (by kernel_rfl)
theorem ft_247_4 : fldT E6.P 247 4 = some (245, 4) := id (by kernel_rfl)
theorem fo_247_5 : fldO E6.P 247 5 = some 6 := id (by kernel_rfl)
theorem ft_247_5 : fldT E6.P 247 5 = some (2, 6) := id (by kernel_rfl)
theorem fo_247_6 : fldO E6.P 247 6 = some 7 := id (by kernel_rfl)
theorem ft_247_6 : fldT E6.P 247 6 = some (4, 7) := id (by kernel_rfl)
theorem fo_247_7 : fldO E6.P 247 7 = some 8 := id (by kernel_rfl)
theorem ft_247_7 : fldT E6.P 247 7 = some (2, 8) := id (by kernel_rfl)
theorem fo_247_8 : fldO E6.P 247 8 = some 9 := id (by kernel_rfl)
theorem ft_247_8 : fldT E6.P 247 8 = some (2, 9) := id (by kernel_rfl)
theorem fo_247_9 : fldO E6.P 247 9 = some 10 := id (by kernel_rfl)
theorem ft_247_9 : fldT E6.P 247 9 = some (2, 10) := id (by kernel_rfl)
theorem sz_248 : szO E6.P 248 = some 1 := id (by kernel_rfl)
theorem by_248 : bytesO E6.P 248 = some 24 := id (by kernel_rfl)
theorem ag_248 : aggO E6.P 248 = some false := id (by kernel_rfl)
theorem zp_248 : zeroP E6.P 248 = some (.slice none 0 0) := id (by kernel_rfl)
theorem el_248 : elemS E6.P 248 = some 1 := id (by kernel_rfl)
theorem sz_250 : szO E6.P 250 = some 4 := id (by kernel_rfl)
theorem by_250 : bytesO E6.P 250 = some 80 := id (by kernel_rfl)
theorem ag_250 : aggO E6.P 250 = some true := id (by kernel_rfl)
theorem zp_250 : zeroP E6.P 250 = some (.agg #[.slice none 0 0, .slice none 0 0, .slice none 0 0, .bool false]) := id (by kernel_rfl)
theorem fo_250_0 : fldO E6.P 250 0 = some 0 := id (by kernel_rfl)
theorem ft_250_0 : fldT E6.P 250 0 = some (248, 0) := id (by kernel_rfl)
theorem fo_250_1 : fldO E6.P 250 1 = some 1 := id (by kernel_rfl)
theorem ft_250_1 : fldT E6.P 250 1 = some (29, 1) := id (by kernel_rfl)
theorem fo_250_2 : fldO E6.P 250 2 = some 3 := id (by kernel_rfl)
theorem ft_250_2 : fldT E6.P 250 2 = some (4, 3) := id (by kernel_rfl)
theorem sz_251 : szO E6.P 251 = some 1 := id (by kernel_rfl)
theorem by_251 : bytesO E6.P 251 = some 24 := id (by kernel_rfl)
theorem ag_251 : aggO E6.P 251 = some false := id (by kernel_rfl)
theorem zp_251 : zeroP E6.P 251 = some (.slice none 0 0) := id (by kernel_rfl)
theorem el_251 : elemS E6.P 251 = some 6 := id (by kernel_rfl)
theorem sz_253 : szO E6.P 253 = some 1 := id (by kernel_rfl)
theorem by_253 : bytesO E6.P 253 = some 24 := id (by kernel_rfl)
theorem ag_253 : aggO E6.P 253 = some true := id (by kernel_rfl)
theorem zp_253 : zeroP E6.P 253 = some (.agg #[.slice none 0 0]) := id (by kernel_rfl)
theorem fo_253_0 : fldO E6.P 253 0 = some 0 := id (by kernel_rfl)
theorem ft_253_0 : fldT E6.P 253 0 = some (251, 0) := id (by kernel_rfl)
theorem sz_256 : szO E6.P 256 = some 6 := id (by kernel_rfl)
theorem by_256 : bytesO E6.P 256 = some 80 := id (by kernel_rfl)
theorem ag_256 : aggO E6.P 256 = some true := id (by kernel_rfl)
theorem zp_256 : zeroP E6.P 256 = some (.agg #[.string .empty, .string .empty, .slice none 0 0, .int .i64 0, .int .i64 0, .int .i64 0]) := id (by kernel_rfl)
theorem fo_256_0 : fldO E6.P 256 0 = some 0 := id (by kernel_rfl)
theorem ft_256_0 : fldT E6.P 256 0 = some (198, 0) := id (by kernel_rfl)
theorem fo_256_1 : fldO E6.P 256 1 = some 3 := id (by kernel_rfl)
theorem ft_256_1 : fldT E6.P 256 1 = some (2, 3) := id (by kernel_rfl)
theorem fo_256_2 : fldO E6.P 256 2 = some 4 := id (by kernel_rfl)
theorem ft_256_2 : fldT E6.P 256 2 = some (2, 4) := id (by kernel_rfl)
theorem fo_256_3 : fldO E6.P 256 3 = some 5 := id (by kernel_rfl)
theorem ft_256_3 : fldT E6.P 256 3 = some (2, 5) := id (by kernel_rfl)
theorem sz_258 : szO E6.P 258 = some 1 := id (by kernel_rfl)
theorem by_258 : bytesO E6.P 258 = some 8 := id (by kernel_rfl)
theorem ag_258 : aggO E6.P 258 = some false := id (by kernel_rfl)
theorem zp_258 : zeroP E6.P 258 = some (.nilFunc) := id (by kernel_rfl)
theorem sz_265 : szO E6.P 265 = some 0 := id (by kernel_rfl)
theorem by_265 : bytesO E6.P 265 = some 0 := id (by kernel_rfl)
theorem ag_265 : aggO E6.P 265 = some true := id (by kernel_rfl)
theorem zp_265 : zeroP E6.P 265 = some (.agg #[]) := id (by kernel_rfl)
theorem sz_266 : szO E6.P 266 = some 1 := id (by kernel_rfl)
theorem by_266 : bytesO E6.P 266 = some 4 := id (by kernel_rfl)
theorem ag_266 : aggO E6.P 266 = some false := id (by kernel_rfl)
theorem zp_266 : zeroP E6.P 266 = some (.int .u32 0) := id (by kernel_rfl)
theorem sz_268 : szO E6.P 268 = some 1 := id (by kernel_rfl)
theorem by_268 : bytesO E6.P 268 = some 4 := id (by kernel_rfl)
theorem ag_268 : aggO E6.P 268 = some true := id (by kernel_rfl)
theorem zp_268 : zeroP E6.P 268 = some (.agg #[.int .u32 0]) := id (by kernel_rfl)
theorem ft_268_0 : fldT E6.P 268 0 = some (120, 0) := id (by kernel_rfl)
theorem fo_268_1 : fldO E6.P 268 1 = some 0 := id (by kernel_rfl)
theorem ft_268_1 : fldT E6.P 268 1 = some (266, 0) := id (by kernel_rfl)
theorem sz_270 : szO E6.P 270 = some 2 := id (by kernel_rfl)
theorem by_270 : bytesO E6.P 270 = some 8 := id (by kernel_rfl)
theorem ag_270 : aggO E6.P 270 = some true := id (by kernel_rfl)
theorem zp_270 : zeroP E6.P 270 = some (.agg #[.int .i32 0, .int .u32 0]) := id (by kernel_rfl)
theorem fo_270_0 : fldO E6.P 270 0 = some 0 := id (by kernel_rfl)
theorem ft_270_0 : fldT E6.P 270 0 = some (21, 0) := id (by kernel_rfl)
theorem fo_270_1 : fldO E6.P 270 1 = some 1 := id (by kernel_rfl)
theorem ft_270_1 : fldT E6.P 270 1 = some (266, 1) := id (by kernel_rfl)
theorem sz_272 : szO E6.P 272 = some 2 := id (by kernel_rfl)
theorem by_272 : bytesO E6.P 272 = some 8 := id (by kernel_rfl)
theorem ag_272 : aggO E6.P 272 = some true := id (by kernel_rfl)
theorem zp_272 : zeroP E6.P 272 = some (.agg #[.int .i32 0, .int .u32 0]) := id (by kernel_rfl)
theorem ft_272_0 : fldT E6.P 272 0 = some (265, 0) := id (by kernel_rfl)
theorem fo_272_1 : fldO E6.P 272 1 = some 0 := id (by kernel_rfl)
theorem ft_272_1 : fldT E6.P 272 1 = some (270, 0) := id (by kernel_rfl)
theorem sz_274 : szO E6.P 274 = some 3 := id (by kernel_rfl)
theorem by_274 : bytesO E6.P 274 = some 12 := id (by kernel_rfl)
theorem ag_274 : aggO E6.P 274 = some true := id (by kernel_rfl)
theorem zp_274 : zeroP E6.P 274 = some (.agg #[.int .u32 0, .int .i32 0, .int .u32 0]) := id (by kernel_rfl)
theorem ft_274_0 : fldT E6.P 274 0 = some (265, 0) := id (by kernel_rfl)
theorem fo_274_1 : fldO E6.P 274 1 = some 0 := id (by kernel_rfl)
theorem ft_274_1 : fldT E6.P 274 1 = some (268, 0) := id (by kernel_rfl)
theorem fo_274_2 : fldO E6.P 274 2 = some 1 := id (by kernel_rfl)
theorem ft_274_2 : fldT E6.P 274 2 = some (272, 1) := id (by kernel_rfl)
theorem sz_275 : szO E6.P 275 = some 1 := id (by kernel_rfl)
theorem by_275 : bytesO E6.P 275 = some 8 := id (by kernel_rfl)
theorem ag_275 : aggO E6.P 275 = some false := id (by kernel_rfl)
theorem zp_275 : zeroP E6.P 275 = some (.int .u64 0) := id (by kernel_rfl)
theorem sz_276 : szO E6.P 276 = some 256 := id (by kernel_rfl)
theorem by_276 : bytesO E6.P 276 = some 2048 := id (by kernel_rfl)
theorem ag_276 : aggO E6.P 276 = some true := id (by kernel_rfl)
theorem sz_277 : szO E6.P 277 = some 38 := id (by kernel_rfl)
theorem by_277 : bytesO E6.P 277 = some 38 := id (by kernel_rfl)
theorem ag_277 : aggO E6.P 277 = some true := id (by kernel_rfl)
theorem zp_277 : zeroP E6.P 277 = some (.agg #[.int .u8 0, .int .u8 0, .int .u8 0, .int .u8 0, .int .u8 0, .int .u8 0, .int .u8 0, .int .u8 0, .int .u8 0, .int .u8 0, .int .u8 0, .int .u8 0, .int .u8 0, .int .u8 0, .int .u8 0, .int .u8 0, .int .u8 0, .int .u8 0, .int .u8 0, .int .u8 0, .int .u8 0, .int .u8 0, .int .u8 0, .int .u8 0, .int .u8 0, .int .u8 0, .int .u8 0, .int .u8 0, .int .u8 0, .int .u8 0, .int .u8 0, .int .u8 0, .int .u8 0, .int .u8 0, .int .u8 0, .int .u8 0, .int .u8 0, .int .u8 0]) := id (by kernel_rfl)
theorem sz_279 : szO E6.P 279 = some 297 := id (by kernel_rfl)
theorem by_279 : bytesO E6.P 279 = some 2104 := id (by kernel_rfl)
theorem ag_279 : aggO E6.P 279 = some true := id (by kernel_rfl)
theorem fo_279_0 : fldO E6.P 279 0 = some 0 := id (by kernel_rfl)
theorem ft_279_0 : fldT E6.P 279 0 = some (274, 0) := id (by kernel_rfl)
theorem fo_279_1 : fldO E6.P 279 1 = some 3 := id (by kernel_rfl)
theorem ft_279_1 : fldT E6.P 279 1 = some (276, 3) := id (by kernel_rfl)
theorem fo_279_2 : fldO E6.P 279 2 = some 259 := id (by kernel_rfl)
theorem ft_279_2 : fldT E6.P 279 2 = some (277, 259) := id (by kernel_rfl)
theorem sz_281 : szO E6.P 281 = some 298 := id (by kernel_rfl)
theorem by_281 : bytesO E6.P 281 = some 2128 := id (by kernel_rfl)
theorem ag_281 : aggO E6.P 281 = some true := id (by kernel_rfl)
theorem fo_281_0 : fldO E6.P 281 0 = some 0 := id (by kernel_rfl)
theorem ft_281_0 : fldT E6.P 281 0 = some (279, 0) := id (by kernel_rfl)
theorem fo_281_1 : fldO E6.P 281 1 = some 297 := id (by kernel_rfl)
theorem ft_281_1 : fldT E6.P 281 1 = some (43, 297) := id (by kernel_rfl)
theorem sz_292 : szO E6.P 292 = some 6 := id (by kernel_rfl)
theorem by_292 : bytesO E6.P 292 = some 80 := id (by kernel_rfl)
theorem ag_292 : aggO E6.P 292 = some true := id (by kernel_rfl)
theorem zp_292 : zeroP E6.P 292 = some (.agg #[.string .empty, .string .empty, .slice none 0 0, .int .i64 0, .int .i64 0, .int .i64 0]) := id (by kernel_rfl)
theorem fo_292_0 : fldO E6.P 292 0 = some 0 := id (by kernel_rfl)
theorem ft_292_0 : fldT E6.P 292 0 = some (198, 0) := id (by kernel_rfl)
theorem fo_292_1 : fldO E6.P 292 1 = some 3 := id (by kernel_rfl)
theorem ft_292_1 : fldT E6.P 292 1 = some (2, 3) := id (by kernel_rfl)
theorem fo_292_2 : fldO E6.P 292 2 = some 4 := id (by kernel_rfl)
theorem ft_292_2 : fldT E6.P 292 2 = some (2, 4) := id (by kernel_rfl)
theorem fo_292_3 : fldO E6.P 292 3 = some 5 := id (by kernel_rfl)
theorem ft_292_3 : fldT E6.P 292 3 = some (2, 5) := id (by kernel_rfl)
theorem sz_295 : szO E6.P 295 = some 299 := id (by kernel_rfl)
theorem by_295 : bytesO E6.P 295 = some 2136 := id (by kernel_rfl)
theorem ag_295 : aggO E6.P 295 = some true := id (by kernel_rfl)
theorem fo_295_0 : fldO E6.P 295 0 = some 0 := id (by kernel_rfl)
theorem ft_295_0 : fldT E6.P 295 0 = some (279, 0) := id (by kernel_rfl)
theorem fo_295_1 : fldO E6.P 295 1 = some 297 := id (by kernel_rfl)
theorem ft_295_1 : fldT E6.P 295 1 = some (43, 297) := id (by kernel_rfl)
theorem fo_295_2 : fldO E6.P 295 2 = some 298 := id (by kernel_rfl)
theorem ft_295_2 : fldT E6.P 295 2 = some (4, 298) := id (by kernel_rfl)
theorem sz_302 : szO E6.P 302 = some 4 := id (by kernel_rfl)
theorem by_302 : bytesO E6.P 302 = some 56 := id (by kernel_rfl)
theorem ag_302 : aggO E6.P 302 = some true := id (by kernel_rfl)
theorem zp_302 : zeroP E6.P 302 = some (.agg #[.int .i64 0, .string .empty, .slice none 0 0, .bool false]) := id (by kernel_rfl)
theorem fo_302_0 : fldO E6.P 302 0 = some 0 := id (by kernel_rfl)
theorem ft_302_0 : fldT E6.P 302 0 = some (2, 0) := id (by kernel_rfl)
theorem fo_302_1 : fldO E6.P 302 1 = some 1 := id (by kernel_rfl)
theorem ft_302_1 : fldT E6.P 302 1 = some (9, 1) := id (by kernel_rfl)
theorem fo_302_2 : fldO E6.P 302 2 = some 2 := id (by kernel_rfl)
theorem ft_302_2 : fldT E6.P 302 2 = some (43, 2) := id (by kernel_rfl)
theorem fo_302_3 : fldO E6.P 302 3 = some 3 := id (by kernel_rfl)
theorem ft_302_3 : fldT E6.P 302 3 = some (4, 3) := id (by kernel_rfl)
theorem sz_333 : szO E6.P 333 = some 4 := id (by kernel_rfl)
theorem by_333 : bytesO E6.P 333 = some 48 := id (by kernel_rfl)
theorem ag_333 : aggO E6.P 333 = some true := id (by kernel_rfl)
theorem zp_333 : zeroP E6.P 333 = some (.agg #[.slice none 0 0, .int .i64 0, .int .i64 0, .int .i64 0]) := id (by kernel_rfl)
theorem fo_333_0 : fldO E6.P 333 0 = some 0 := id (by kernel_rfl)
theorem ft_333_0 : fldT E6.P 333 0 = some (182, 0) := id (by kernel_rfl)
theorem fo_333_1 : fldO E6.P 333 1 = some 1 := id (by kernel_rfl)
theorem ft_333_1 : fldT E6.P 333 1 = some (3, 1) := id (by kernel_rfl)
theorem fo_333_2 : fldO E6.P 333 2 = some 2 := id (by kernel_rfl)
theorem ft_333_2 : fldT E6.P 333 2 = some (2, 2) := id (by kernel_rfl)
theorem fo_333_3 : fldO E6.P 333 3 = some 3 := id (by kernel_rfl)
theorem ft_333_3 : fldT E6.P 333 3 = some (2, 3) := id (by kernel_rfl)
theorem sz_341 : szO E6.P 341 = some 1 := id (by kernel_rfl)
theorem by_341 : bytesO E6.P 341 = some 8 := id (by kernel_rfl)
theorem ag_341 : aggO E6.P 341 = some false := id (by kernel_rfl)
theorem zp_341 : zeroP E6.P 341 = some (.pointer none) := id (by kernel_rfl)
theorem sz_343 : szO E6.P 343 = some 1 := id (by kernel_rfl)
theorem by_343 : bytesO E6.P 343 = some 8 := id (by kernel_rfl)
theorem ag_343 : aggO E6.P 343 = some false := id (by kernel_rfl)
theorem zp_343 : zeroP E6.P 343 = some (.nilFunc) := id (by kernel_rfl)
theorem sz_346 : szO E6.P 346 = some 1 := id (by kernel_rfl)
theorem by_346 : bytesO E6.P 346 = some 8 := id (by kernel_rfl)
theorem ag_346 : aggO E6.P 346 = some false := id (by kernel_rfl)
theorem zp_346 : zeroP E6.P 346 = some (.nilFunc) := id (by kernel_rfl)
theorem sz_348 : szO E6.P 348 = some 1 := id (by kernel_rfl)
theorem by_348 : bytesO E6.P 348 = some 8 := id (by kernel_rfl)
theorem ag_348 : aggO E6.P 348 = some false := id (by kernel_rfl)
theorem zp_348 : zeroP E6.P 348 = some (.nilFunc) := id (by kernel_rfl)
theorem sz_375 : szO E6.P 375 = some 1 := id (by kernel_rfl)
theorem by_375 : bytesO E6.P 375 = some 8 := id (by kernel_rfl)
theorem ag_375 : aggO E6.P 375 = some false := id (by kernel_rfl)
theorem zp_375 : zeroP E6.P 375 = some (.pointer none) := id (by kernel_rfl)
theorem sz_377 : szO E6.P 377 = some 19 := id (by kernel_rfl)
theorem by_377 : bytesO E6.P 377 = some 272 := id (by kernel_rfl)
theorem ag_377 : aggO E6.P 377 = some true := id (by kernel_rfl)
theorem zp_377 : zeroP E6.P 377 = some (.agg #[.string .empty, .int .i64 0, .int .i64 0, .int .i64 0, .int .i64 0, .int .i64 0, .slice none 0 0, .slice none 0 0, .slice none 0 0, .slice none 0 0, .string .empty, .slice none 0 0, .int .i64 0, .slice none 0 0, .string .empty, .int .i64 0, .bool false, .int .i64 0, .int .i64 0]) := id (by kernel_rfl)
theorem fo_377_0 : fldO E6.P 377 0 = some 0 := id (by kernel_rfl)
theorem ft_377_0 : fldT E6.P 377 0 = some (39, 0) := id (by kernel_rfl)
theorem fo_377_1 : fldO E6.P 377 1 = some 16 := id (by kernel_rfl)
theorem ft_377_1 : fldT E6.P 377 1 = some (4, 16) := id (by kernel_rfl)
theorem fo_377_2 : fldO E6.P 377 2 = some 17 := id (by kernel_rfl)
theorem ft_377_2 : fldT E6.P 377 2 = some (3, 17) := id (by kernel_rfl)
theorem fo_377_3 : fldO E6.P 377 3 = some 18 := id (by kernel_rfl)
theorem ft_377_3 : fldT E6.P 377 3 = some (2, 18) := id (by kernel_rfl)
theorem sz_421 : szO E6.P 421 = some 1 := id (by kernel_rfl)
theorem by_421 : bytesO E6.P 421 = some 8 := id (by kernel_rfl)
theorem ag_421 : aggO E6.P 421 = some false := id (by kernel_rfl)
theorem zp_421 : zeroP E6.P 421 = some (.pointer none) := id (by kernel_rfl)
theorem sz_440 : szO E6.P 440 = some 1 := id (by kernel_rfl)
theorem by_440 : bytesO E6.P 440 = some 8 := id (by kernel_rfl)
theorem ag_440 : aggO E6.P 440 = some false := id (by kernel_rfl)
theorem zp_440 : zeroP E6.P 440 = some (.nilFunc) := id (by kernel_rfl)
theorem sz_472 : szO E6.P 472 = some 1 := id (by kernel_rfl)
theorem by_472 : bytesO E6.P 472 = some 8 := id (by kernel_rfl)
theorem ag_472 : aggO E6.P 472 = some false := id (by kernel_rfl)
theorem zp_472 : zeroP E6.P 472 = some (.pointer none) := id (by kernel_rfl)
theorem sz_491 : szO E6.P 491 = some 1 := id (by kernel_rfl)
theorem by_491 : bytesO E6.P 491 = some 8 := id (by kernel_rfl)
theorem ag_491 : aggO E6.P 491 = some false := id (by kernel_rfl)
theorem zp_491 : zeroP E6.P 491 = some (.map none) := id (by kernel_rfl)
theorem sz_494 : szO E6.P 494 = some 1 := id (by kernel_rfl)
theorem by_494 : bytesO E6.P 494 = some 8 := id (by kernel_rfl)
theorem ag_494 : aggO E6.P 494 = some false := id (by kernel_rfl)
theorem zp_494 : zeroP E6.P 494 = some (.pointer none) := id (by kernel_rfl)
theorem sz_508 : szO E6.P 508 = some 1 := id (by kernel_rfl)
theorem by_508 : bytesO E6.P 508 = some 8 := id (by kernel_rfl)
theorem ag_508 : aggO E6.P 508 = some false := id (by kernel_rfl)
theorem zp_508 : zeroP E6.P 508 = some (.pointer none) := id (by kernel_rfl)
theorem sz_510 : szO E6.P 510 = some 1 := id (by kernel_rfl)
theorem by_510 : bytesO E6.P 510 = some 8 := id (by kernel_rfl)
theorem ag_510 : aggO E6.P 510 = some false := id (by kernel_rfl)
theorem zp_510 : zeroP E6.P 510 = some (.pointer none) := id (by kernel_rfl)
theorem sz_512 : szO E6.P 512 = some 1 := id (by kernel_rfl)
theorem by_512 : bytesO E6.P 512 = some 8 := id (by kernel_rfl)
theorem ag_512 : aggO E6.P 512 = some false := id (by kernel_rfl)
theorem zp_512 : zeroP E6.P 512 = some (.pointer none) := id (by kernel_rfl)

end Go.Proofs.YtfchjhfccnodpaaGreat
end

section
namespace Go.Proofs.YtfchjhfccnodpaaGreat
set_option linter.unusedSimpArgs false
set_option linter.unusedVariables false
set_option maxRecDepth 100000

theorem ez_26 : elemZ E6.P 26 = some [.string .empty, .int .i64 0, .int .i64 0, .int .i64 0, .slice none 0 0, .slice none 0 0] := id (by kernel_rfl)
theorem ez_27 : elemZ E6.P 27 = some [.string .empty, .int .i64 0, .int .i64 0, .int .i64 0, .int .i64 0, .int .i64 0, .slice none 0 0, .slice none 0 0, .slice none 0 0, .slice none 0 0, .string .empty, .slice none 0 0, .int .i64 0, .slice none 0 0, .string .empty, .int .i64 0] := id (by kernel_rfl)
theorem pl_29 : placesL E6.P 29 = some [(0, 1), (1, 1)] := id (by kernel_rfl)
theorem ez_31 : elemZ E6.P 31 = some [.int .i64 0] := id (by kernel_rfl)
theorem ez_34 : elemZ E6.P 34 = some [.int .i64 0] := id (by kernel_rfl)
theorem ez_35 : elemZ E6.P 35 = some [.string .empty, .string .empty] := id (by kernel_rfl)
theorem ez_36 : elemZ E6.P 36 = some [.string .empty, .int .i64 0, .slice none 0 0] := id (by kernel_rfl)
theorem ez_37 : elemZ E6.P 37 = some [.string .empty, .string .empty, .bool false] := id (by kernel_rfl)
theorem pl_39 : placesL E6.P 39 = some [(0, 1), (1, 1), (2, 1), (3, 3), (6, 1), (7, 1), (8, 1), (9, 1), (10, 1), (11, 1), (12, 1), (13, 1), (14, 1), (15, 1)] := id (by kernel_rfl)
theorem ez_40 : elemZ E6.P 40 = some [.string .empty, .string .empty] := id (by kernel_rfl)
theorem pl_42 : placesL E6.P 42 = some [(0, 1), (1, 3), (4, 1), (5, 1)] := id (by kernel_rfl)
theorem ez_43 : elemZ E6.P 43 = some [.int .u8 0] := id (by kernel_rfl)
theorem pl_45 : placesL E6.P 45 = some [(0, 1), (1, 1), (2, 1), (3, 16), (19, 6), (25, 1), (26, 1), (27, 1), (28, 1)] := id (by kernel_rfl)
theorem ez_51 : elemZ E6.P 51 = some [.string .empty] := id (by kernel_rfl)
theorem ez_63 : elemZ E6.P 63 = some [.string .empty, .int .i64 0, .slice none 0 0] := id (by kernel_rfl)
theorem ez_69 : elemZ E6.P 69 = some [.slice none 0 0] := id (by kernel_rfl)
theorem ez_71 : elemZ E6.P 71 = some [.string .empty, .int .i64 0, .bool false] := id (by kernel_rfl)
theorem ez_72 : elemZ E6.P 72 = some [.string .empty, .slice none 0 0, .bool false] := id (by kernel_rfl)
theorem pl_74 : placesL E6.P 74 = some [(0, 1), (1, 1)] := id (by kernel_rfl)
theorem pl_76 : placesL E6.P 76 = some [(0, 1), (1, 1), (2, 1), (3, 1), (4, 1), (5, 2)] := id (by kernel_rfl)
theorem ez_83 : elemZ E6.P 83 = some [.string .empty, .string .empty, .slice none 0 0] := id (by kernel_rfl)
theorem ez_89 : elemZ E6.P 89 = some [.bool false, .int .i64 0, .slice none 0 0] := id (by kernel_rfl)
theorem ez_91 : elemZ E6.P 91 = some [.int .i64 0, .int .i64 0, .slice none 0 0, .slice none 0 0] := id (by kernel_rfl)
theorem ez_105 : elemZ E6.P 105 = some [.pointer none, .bool false, .int .i64 0] := id (by kernel_rfl)
theorem pl_107 : placesL E6.P 107 = some [(0, 1), (1, 1), (2, 1), (3, 1), (4, 1), (5, 1), (6, 1), (7, 1), (8, 1)] := id (by kernel_rfl)
theorem pl_109 : placesL E6.P 109 = some [(0, 1), (1, 1), (2, 1)] := id (by kernel_rfl)
theorem pl_123 : placesL E6.P 123 = some [(0, 0), (0, 0), (0, 1)] := id (by kernel_rfl)
theorem pl_125 : placesL E6.P 125 = some [(0, 1), (1, 1), (2, 1), (3, 1), (4, 1), (5, 1)] := id (by kernel_rfl)
theorem pl_130 : placesL E6.P 130 = some [(0, 1), (1, 1), (2, 1)] := id (by kernel_rfl)
theorem ez_156 : elemZ E6.P 156 = some [.string .empty, .string .empty, .slice none 0 0, .int .i64 0, .int .i64 0, .int .i64 0] := id (by kernel_rfl)
theorem pl_158 : placesL E6.P 158 = some [(0, 1), (1, 1), (2, 1), (3, 1), (4, 1), (5, 1), (6, 1), (7, 1), (8, 1), (9, 1), (10, 1), (11, 1), (12, 1), (13, 1), (14, 1), (15, 1), (16, 1), (17, 1)] := id (by kernel_rfl)
theorem pl_172 : placesL E6.P 172 = some [(0, 1), (1, 1), (2, 1)] := id (by kernel_rfl)
theorem pl_174 : placesL E6.P 174 = some [(0, 1), (1, 1), (2, 1)] := id (by kernel_rfl)
theorem pl_177 : placesL E6.P 177 = some [(0, 1), (1, 1)] := id (by kernel_rfl)
theorem pl_179 : placesL E6.P 179 = some [(0, 1), (1, 1), (2, 2)] := id (by kernel_rfl)
theorem ez_182 : elemZ E6.P 182 = some [.int .i64 0, .string .empty, .slice none 0 0, .bool false] := id (by kernel_rfl)
theorem pl_198 : placesL E6.P 198 = some [(0, 1), (1, 1), (2, 1)] := id (by kernel_rfl)
theorem pl_205 : placesL E6.P 205 = some [(0, 1), (1, 64), (65, 64)] := id (by kernel_rfl)
theorem pl_208 : placesL E6.P 208 = some [(0, 1), (1, 1)] := id (by kernel_rfl)
theorem pl_210 : placesL E6.P 210 = some [(0, 1), (1, 1)] := id (by kernel_rfl)
theorem pl_212 : placesL E6.P 212 = some [(0, 1), (1, 1), (2, 1)] := id (by kernel_rfl)
theorem pl_214 : placesL E6.P 214 = some [(0, 1), (1, 1), (2, 1)] := id (by kernel_rfl)
theorem pl_215 : placesL E6.P 215 = some [(0, 1), (1, 1)] := id (by kernel_rfl)
theorem pl_218 : placesL E6.P 218 = some [(0, 1), (1, 1), (2, 1)] := id (by kernel_rfl)
theorem pl_243 : placesL E6.P 243 = some [(0, 1), (1, 1), (2, 1), (3, 1), (4, 7), (11, 1), (12, 1)] := id (by kernel_rfl)
theorem pl_245 : placesL E6.P 245 = some [(0, 1), (1, 1)] := id (by kernel_rfl)
theorem pl_247 : placesL E6.P 247 = some [(0, 1), (1, 1), (2, 1), (3, 1), (4, 2), (6, 1), (7, 1), (8, 1), (9, 1), (10, 1)] := id (by kernel_rfl)
theorem ez_248 : elemZ E6.P 248 = some [.pointer none] := id (by kernel_rfl)
theorem pl_250 : placesL E6.P 250 = some [(0, 1), (1, 2), (3, 1)] := id (by kernel_rfl)
theorem ez_251 : elemZ E6.P 251 = some [.string .empty, .string .empty, .slice none 0 0, .int .i64 0, .int .i64 0, .int .i64 0] := id (by kernel_rfl)
theorem pl_253 : placesL E6.P 253 = some [(0, 1)] := id (by kernel_rfl)
theorem pl_256 : placesL E6.P 256 = some [(0, 3), (3, 1), (4, 1), (5, 1)] := id (by kernel_rfl)
theorem pl_268 : placesL E6.P 268 = some [(0, 0), (0, 1)] := id (by kernel_rfl)
theorem pl_270 : placesL E6.P 270 = some [(0, 1), (1, 1)] := id (by kernel_rfl)
theorem pl_272 : placesL E6.P 272 = some [(0, 0), (0, 2)] := id (by kernel_rfl)
theorem pl_274 : placesL E6.P 274 = some [(0, 0), (0, 1), (1, 2)] := id (by kernel_rfl)
theorem pl_279 : placesL E6.P 279 = some [(0, 3), (3, 256), (259, 38)] := id (by kernel_rfl)
theorem pl_281 : placesL E6.P 281 = some [(0, 297), (297, 1)] := id (by kernel_rfl)
theorem pl_292 : placesL E6.P 292 = some [(0, 3), (3, 1), (4, 1), (5, 1)] := id (by kernel_rfl)
theorem pl_295 : placesL E6.P 295 = some [(0, 297), (297, 1), (298, 1)] := id (by kernel_rfl)
theorem pl_302 : placesL E6.P 302 = some [(0, 1), (1, 1), (2, 1), (3, 1)] := id (by kernel_rfl)
theorem pl_333 : placesL E6.P 333 = some [(0, 1), (1, 1), (2, 1), (3, 1)] := id (by kernel_rfl)
theorem pl_377 : placesL E6.P 377 = some [(0, 16), (16, 1), (17, 1), (18, 1)] := id (by kernel_rfl)

theorem un_2 : E6.P.underlying 2 = some (.int .i64) := id Go.Proofs.Tryz.underlying2
theorem un_3 : E6.P.underlying 3 = some (.int .i64) := id Go.Proofs.Tryz.underlying3
theorem un_4 : E6.P.underlying 4 = some (.bool) := id Go.Proofs.Tryz.underlying4
theorem un_5 : E6.P.underlying 5 = some (.int .u8) := id Go.Proofs.Tryz.underlying5
theorem un_9 : E6.P.underlying 9 = some (.string) := id Go.Proofs.Tryz.underlying9
theorem un_21 : E6.P.underlying 21 = some (.int .i32) := id Go.Proofs.Tryz.underlying21
theorem un_24 : E6.P.underlying 24 = some (.pointer 107) := id Go.Proofs.Tryz.underlying24
theorem un_26 : E6.P.underlying 26 = some (.slice 42) := id Go.Proofs.Tryz.underlying26
theorem un_27 : E6.P.underlying 27 = some (.slice 39) := id Go.Proofs.Tryz.underlying27
theorem un_30 : E6.P.underlying 30 = some (.map 2 4) := id Go.Proofs.Tryz.underlying30
theorem un_31 : E6.P.underlying 31 = some (.slice 2) := id Go.Proofs.Tryz.underlying31
theorem un_34 : E6.P.underlying 34 = some (.slice 3) := id Go.Proofs.Tryz.underlying34
theorem un_35 : E6.P.underlying 35 = some (.slice 210) := id Go.Proofs.Tryz.underlying35
theorem un_36 : E6.P.underlying 36 = some (.slice 212) := id Go.Proofs.Tryz.underlying36
theorem un_37 : E6.P.underlying 37 = some (.slice 214) := id Go.Proofs.Tryz.underlying37
theorem un_40 : E6.P.underlying 40 = some (.slice 215) := id Go.Proofs.Tryz.underlying40
theorem un_43 : E6.P.underlying 43 = some (.slice 5) := id Go.Proofs.Tryz.underlying43
theorem un_51 : E6.P.underlying 51 = some (.slice 9) := id Go.Proofs.Tryz.underlying51
theorem un_57 : E6.P.underlying 57 = some (.pointer 125) := id Go.Proofs.Tryz.underlying57
theorem un_63 : E6.P.underlying 63 = some (.slice 130) := id Go.Proofs.Tryz.underlying63
theorem un_67 : E6.P.underlying 67 = some (.pointer 158) := id Go.Proofs.Tryz.underlying67
theorem un_69 : E6.P.underlying 69 = some (.slice 43) := id Go.Proofs.Tryz.underlying69
theorem un_71 : E6.P.underlying 71 = some (.slice 172) := id Go.Proofs.Tryz.underlying71
theorem un_72 : E6.P.underlying 72 = some (.slice 174) := id Go.Proofs.Tryz.underlying72
theorem un_81 : E6.P.underlying 81 = some (.pointer 177) := id Go.Proofs.Tryz.underlying81
theorem un_83 : E6.P.underlying 83 = some (.slice 198) := id Go.Proofs.Tryz.underlying83
theorem un_87 : E6.P.underlying 87 = some (.pointer 205) := id Go.Proofs.Tryz.underlying87
theorem un_89 : E6.P.underlying 89 = some (.slice 218) := id Go.Proofs.Tryz.underlying89
theorem un_91 : E6.P.underlying 91 = some (.slice 179) := id Go.Proofs.Tryz.underlying91
theorem un_100 : E6.P.underlying 100 = some (.pointer 208) := id Go.Proofs.Tryz.underlying100
theorem un_103 : E6.P.underlying 103 = some (.map 9 39) := id Go.Proofs.Tryz.underlying103
theorem un_104 : E6.P.underlying 104 = some (.map 9 42) := id Go.Proofs.Tryz.underlying104
theorem un_105 : E6.P.underlying 105 = some (.slice 109) := id Go.Proofs.Tryz.underlying105
theorem un_116 : E6.P.underlying 116 = some (.map 9 130) := id Go.Proofs.Tryz.underlying116
theorem un_117 : E6.P.underlying 117 = some (.map 9 2) := id Go.Proofs.Tryz.underlying117
theorem un_118 : E6.P.underlying 118 = some (.pointer 333) := id Go.Proofs.Tryz.underlying118
theorem un_148 : E6.P.underlying 148 = some (.pointer 243) := id Go.Proofs.Tryz.underlying148
theorem un_150 : E6.P.underlying 150 = some (.pointer 247) := id Go.Proofs.Tryz.underlying150
theorem un_152 : E6.P.underlying 152 = some (.pointer 250) := id Go.Proofs.Tryz.underlying152
theorem un_154 : E6.P.underlying 154 = some (.pointer 253) := id Go.Proofs.Tryz.underlying154
theorem un_156 : E6.P.underlying 156 = some (.slice 292) := id Go.Proofs.Tryz.underlying156
theorem un_168 : E6.P.underlying 168 = some (.pointer 295) := id Go.Proofs.Tryz.underlying168
theorem un_182 : E6.P.underlying 182 = some (.slice 302) := id Go.Proofs.Tryz.underlying182
theorem un_248 : E6.P.underlying 248 = some (.slice 375) := id Go.Proofs.Tryz.underlying248
theorem un_251 : E6.P.underlying 251 = some (.slice 256) := id Go.Proofs.Tryz.underlying251
theorem un_266 : E6.P.underlying 266 = some (.int .u32) := id Go.Proofs.Tryz.underlying266
theorem un_275 : E6.P.underlying 275 = some (.int .u64) := id Go.Proofs.Tryz.underlying275
theorem un_341 : E6.P.underlying 341 = some (.pointer 281) := id Go.Proofs.Tryz.underlying341
theorem un_375 : E6.P.underlying 375 = some (.pointer 377) := id Go.Proofs.Tryz.underlying375
theorem un_421 : E6.P.underlying 421 = some (.pointer 279) := id Go.Proofs.Tryz.underlying421
theorem un_472 : E6.P.underlying 472 = some (.pointer 274) := id Go.Proofs.Tryz.underlying472
theorem un_491 : E6.P.underlying 491 = some (.map 9 4) := id Go.Proofs.Tryz.underlying491
theorem un_494 : E6.P.underlying 494 = some (.pointer 266) := id Go.Proofs.Tryz.underlying494
theorem un_508 : E6.P.underlying 508 = some (.pointer 270) := id Go.Proofs.Tryz.underlying508
theorem un_510 : E6.P.underlying 510 = some (.pointer 21) := id Go.Proofs.Tryz.underlying510
attribute [push_cast] sz_1 by_1 ag_1 zp_1 sz_2 by_2 ag_2 zp_2 sz_3 by_3 ag_3 zp_3 sz_4 by_4 ag_4 zp_4 sz_5 by_5 ag_5 zp_5 sz_9 by_9 ag_9 zp_9 sz_21 by_21 ag_21 zp_21 sz_24 by_24 ag_24 zp_24 sz_26 by_26 ag_26 zp_26 el_26 sz_27 by_27 ag_27
attribute [push_cast] zp_27 el_27 sz_29 by_29 ag_29 zp_29 fo_29_0 ft_29_0 fo_29_1 ft_29_1 sz_30 by_30 ag_30 zp_30 sz_31 by_31 ag_31 zp_31 el_31 sz_33 by_33 ag_33 zp_33 sz_34 by_34 ag_34 zp_34 el_34 sz_35 by_35 ag_35 zp_35 el_35 sz_36 by_36 ag_36 zp_36 el_36 sz_37 by_37
attribute [push_cast] ag_37 zp_37 el_37 sz_39 by_39 ag_39 zp_39 fo_39_0 ft_39_0 fo_39_1 ft_39_1 fo_39_2 ft_39_2 fo_39_3 ft_39_3 fo_39_4 ft_39_4 fo_39_5 ft_39_5 fo_39_6 ft_39_6 fo_39_7 ft_39_7 fo_39_8 ft_39_8 fo_39_9 ft_39_9 fo_39_10 ft_39_10 fo_39_11 ft_39_11 fo_39_12 ft_39_12 fo_39_13 ft_39_13 sz_40 by_40 ag_40 zp_40 el_40
attribute [push_cast] sz_42 by_42 ag_42 zp_42 fo_42_0 ft_42_0 fo_42_1 ft_42_1 fo_42_2 ft_42_2 fo_42_3 ft_42_3 sz_43 by_43 ag_43 zp_43 el_43 sz_45 by_45 ag_45 zp_45 fo_45_0 ft_45_0 fo_45_1 ft_45_1 fo_45_2 ft_45_2 fo_45_3 ft_45_3 fo_45_4 ft_45_4 fo_45_5 ft_45_5 fo_45_6 ft_45_6 fo_45_7 ft_45_7 fo_45_8 ft_45_8 sz_51
attribute [push_cast] by_51 ag_51 zp_51 el_51 sz_57 by_57 ag_57 zp_57 sz_63 by_63 ag_63 zp_63 el_63 sz_67 by_67 ag_67 zp_67 sz_69 by_69 ag_69 zp_69 el_69 sz_71 by_71 ag_71 zp_71 el_71 sz_72 by_72 ag_72 zp_72 el_72 sz_74 by_74 ag_74 zp_74 fo_74_0 ft_74_0 fo_74_1 ft_74_1
attribute [push_cast] sz_76 by_76 ag_76 zp_76 fo_76_0 ft_76_0 fo_76_1 ft_76_1 fo_76_2 ft_76_2 fo_76_3 ft_76_3 fo_76_4 ft_76_4 fo_76_5 ft_76_5 sz_81 by_81 ag_81 zp_81 sz_83 by_83 ag_83 zp_83 el_83 sz_87 by_87 ag_87 zp_87 sz_89 by_89 ag_89 zp_89 el_89 sz_91 by_91 ag_91 zp_91 el_91 sz_100
attribute [push_cast] by_100 ag_100 zp_100 sz_103 by_103 ag_103 zp_103 sz_104 by_104 ag_104 zp_104 sz_105 by_105 ag_105 zp_105 el_105 sz_107 by_107 ag_107 zp_107 fo_107_0 ft_107_0 fo_107_1 ft_107_1 fo_107_2 ft_107_2 fo_107_3 ft_107_3 fo_107_4 ft_107_4 fo_107_5 ft_107_5 fo_107_6 ft_107_6 fo_107_7 ft_107_7 fo_107_8 ft_107_8 sz_109 by_109
attribute [push_cast] ag_109 zp_109 fo_109_0 ft_109_0 fo_109_1 ft_109_1 fo_109_2 ft_109_2 sz_116 by_116 ag_116 zp_116 sz_117 by_117 ag_117 zp_117 sz_118 by_118 ag_118 zp_118 sz_120 by_120 ag_120 zp_120 sz_121 by_121 ag_121 zp_121 sz_123 by_123 ag_123 zp_123 ft_123_0 ft_123_1 fo_123_2 ft_123_2 sz_125 by_125 ag_125 zp_125
attribute [push_cast] fo_125_0 ft_125_0 fo_125_1 ft_125_1 fo_125_2 ft_125_2 fo_125_3 ft_125_3 fo_125_4 ft_125_4 fo_125_5 ft_125_5 sz_130 by_130 ag_130 zp_130 fo_130_0 ft_130_0 fo_130_1 ft_130_1 fo_130_2 ft_130_2 sz_143 by_143 ag_143 zp_143 sz_148 by_148 ag_148 zp_148 sz_150 by_150 ag_150 zp_150 sz_152 by_152 ag_152 zp_152 sz_154 by_154
attribute [push_cast] ag_154 zp_154 sz_156 by_156 ag_156 zp_156 el_156 sz_158 by_158 ag_158 zp_158 fo_158_0 ft_158_0 fo_158_1 ft_158_1 fo_158_2 ft_158_2 fo_158_3 ft_158_3 fo_158_4 ft_158_4 fo_158_5 ft_158_5 fo_158_6 ft_158_6 fo_158_7 ft_158_7 fo_158_8 ft_158_8 fo_158_9 ft_158_9 fo_158_10 ft_158_10 fo_158_11 ft_158_11 fo_158_12 ft_158_12 fo_158_13 ft_158_13 fo_158_14
attribute [push_cast] ft_158_14 fo_158_15 ft_158_15 fo_158_16 ft_158_16 fo_158_17 ft_158_17 sz_168 by_168 ag_168 zp_168 sz_172 by_172 ag_172 zp_172 fo_172_0 ft_172_0 fo_172_1 ft_172_1 fo_172_2 ft_172_2 sz_174 by_174 ag_174 zp_174 fo_174_0 ft_174_0 fo_174_1 ft_174_1 fo_174_2 ft_174_2 sz_177 by_177 ag_177 zp_177 fo_177_0 ft_177_0 fo_177_1 ft_177_1 sz_179
attribute [push_cast] by_179 ag_179 zp_179 fo_179_0 ft_179_0 fo_179_1 ft_179_1 fo_179_2 ft_179_2 sz_182 by_182 ag_182 zp_182 el_182 sz_198 by_198 ag_198 zp_198 fo_198_0 ft_198_0 fo_198_1 ft_198_1 fo_198_2 ft_198_2 sz_202 by_202 ag_202 zp_202 sz_203 by_203 ag_203 sz_205 by_205 ag_205 fo_205_0 ft_205_0 fo_205_1 ft_205_1 fo_205_2 ft_205_2
attribute [push_cast] sz_208 by_208 ag_208 zp_208 fo_208_0 ft_208_0 fo_208_1 ft_208_1 sz_210 by_210 ag_210 zp_210 fo_210_0 ft_210_0 fo_210_1 ft_210_1 sz_212 by_212 ag_212 zp_212 fo_212_0 ft_212_0 fo_212_1 ft_212_1 fo_212_2 ft_212_2 sz_214 by_214 ag_214 zp_214 fo_214_0 ft_214_0 fo_214_1 ft_214_1 fo_214_2 ft_214_2 sz_215 by_215 ag_215 zp_215
attribute [push_cast] fo_215_0 ft_215_0 fo_215_1 ft_215_1 sz_218 by_218 ag_218 zp_218 fo_218_0 ft_218_0 fo_218_1 ft_218_1 fo_218_2 ft_218_2 sz_228 by_228 ag_228 zp_228 sz_231 by_231 ag_231 zp_231 sz_243 by_243 ag_243 zp_243 fo_243_0 ft_243_0 fo_243_1 ft_243_1 fo_243_2 ft_243_2 fo_243_3 ft_243_3 fo_243_4 ft_243_4 fo_243_5 ft_243_5 fo_243_6 ft_243_6
attribute [push_cast] sz_245 by_245 ag_245 zp_245 fo_245_0 ft_245_0 fo_245_1 ft_245_1 sz_247 by_247 ag_247 zp_247 fo_247_0 ft_247_0 fo_247_1 ft_247_1 fo_247_2 ft_247_2 fo_247_3 ft_247_3 fo_247_4 ft_247_4 fo_247_5 ft_247_5 fo_247_6 ft_247_6 fo_247_7 ft_247_7 fo_247_8 ft_247_8 fo_247_9 ft_247_9 sz_248 by_248 ag_248 zp_248 el_248 sz_250 by_250 ag_250
attribute [push_cast] zp_250 fo_250_0 ft_250_0 fo_250_1 ft_250_1 fo_250_2 ft_250_2 sz_251 by_251 ag_251 zp_251 el_251 sz_253 by_253 ag_253 zp_253 fo_253_0 ft_253_0 sz_256 by_256 ag_256 zp_256 fo_256_0 ft_256_0 fo_256_1 ft_256_1 fo_256_2 ft_256_2 fo_256_3 ft_256_3 sz_258 by_258 ag_258 zp_258 sz_265 by_265 ag_265 zp_265 sz_266 by_266
attribute [push_cast] ag_266 zp_266 sz_268 by_268 ag_268 zp_268 ft_268_0 fo_268_1 ft_268_1 sz_270 by_270 ag_270 zp_270 fo_270_0 ft_270_0 fo_270_1 ft_270_1 sz_272 by_272 ag_272 zp_272 ft_272_0 fo_272_1 ft_272_1 sz_274 by_274 ag_274 zp_274 ft_274_0 fo_274_1 ft_274_1 fo_274_2 ft_274_2 sz_275 by_275 ag_275 zp_275 sz_276 by_276 ag_276
attribute [push_cast] sz_277 by_277 ag_277 zp_277 sz_279 by_279 ag_279 fo_279_0 ft_279_0 fo_279_1 ft_279_1 fo_279_2 ft_279_2 sz_281 by_281 ag_281 fo_281_0 ft_281_0 fo_281_1 ft_281_1 sz_292 by_292 ag_292 zp_292 fo_292_0 ft_292_0 fo_292_1 ft_292_1 fo_292_2 ft_292_2 fo_292_3 ft_292_3 sz_295 by_295 ag_295 fo_295_0 ft_295_0 fo_295_1 ft_295_1 fo_295_2
attribute [push_cast] ft_295_2 sz_302 by_302 ag_302 zp_302 fo_302_0 ft_302_0 fo_302_1 ft_302_1 fo_302_2 ft_302_2 fo_302_3 ft_302_3 sz_333 by_333 ag_333 zp_333 fo_333_0 ft_333_0 fo_333_1 ft_333_1 fo_333_2 ft_333_2 fo_333_3 ft_333_3 sz_341 by_341 ag_341 zp_341 sz_343 by_343 ag_343 zp_343 sz_346 by_346 ag_346 zp_346 sz_348 by_348 ag_348
attribute [push_cast] zp_348 sz_375 by_375 ag_375 zp_375 sz_377 by_377 ag_377 zp_377 fo_377_0 ft_377_0 fo_377_1 ft_377_1 fo_377_2 ft_377_2 fo_377_3 ft_377_3 sz_421 by_421 ag_421 zp_421 sz_440 by_440 ag_440 zp_440 sz_472 by_472 ag_472 zp_472 sz_491 by_491 ag_491 zp_491 sz_494 by_494 ag_494 zp_494 sz_508 by_508 ag_508
attribute [push_cast] zp_508 sz_510 by_510 ag_510 zp_510 sz_512 by_512 ag_512 zp_512 ez_26 ez_27 pl_29 ez_31 ez_34 ez_35 ez_36 ez_37 pl_39 ez_40 pl_42 ez_43 pl_45 ez_51 ez_63 ez_69 ez_71 ez_72 pl_74 pl_76 ez_83 ez_89 ez_91 ez_105 pl_107 pl_109 pl_123 pl_125 pl_130 ez_156 pl_158
attribute [push_cast] pl_172 pl_174 pl_177 pl_179 ez_182 pl_198 pl_205 pl_208 pl_210 pl_212 pl_214 pl_215 pl_218 pl_243 pl_245 pl_247 ez_248 pl_250 ez_251 pl_253 pl_256 pl_268 pl_270 pl_272 pl_274 pl_279 pl_281 pl_292 pl_295 pl_302 pl_333 pl_377 un_2 un_3 un_4 un_5 un_9 un_21 un_24 un_26
attribute [push_cast] un_27 un_30 un_31 un_34 un_35 un_36 un_37 un_40 un_43 un_51 un_57 un_63 un_67 un_69 un_71 un_72 un_81 un_83 un_87 un_89 un_91 un_100 un_103 un_104 un_105 un_116 un_117 un_118 un_148 un_150 un_152 un_154 un_156 un_168 un_182 un_248 un_251 un_266 un_275 un_341
attribute [push_cast] un_375 un_421 un_472 un_491 un_494 un_508 un_510

end Go.Proofs.YtfchjhfccnodpaaGreat
end

section
namespace Go.Proofs.YtfchjhfccnodpaaGreat
set_option linter.unusedSimpArgs false
set_option linter.unusedVariables false


@[congr] theorem acall_congr {P : Program} {f : FuncId} {args args' : Array Value} {σ σ' : Heap} (h : args = args') (h2 : σ = σ') (R : Value → Heap → Prop) : ACall P f args σ R = ACall P f args' σ' R := by rw [h, h2]

theorem eq_self_iff' {α : Type} (a : α) : (a = a) = True := by simp
theorem if_t {α : Type} (a b : α) : (if True then a else b) = a := if_pos trivial
theorem if_f {α : Type} (a b : α) : (if False then a else b) = b := if_neg id
theorem ne_lt {l N : Nat} (h : l < N) (i : Nat) : (l = N + i) = False := by simp; omega
theorem ne_lt' {l N : Nat} (h : l < N) (i : Nat) : (N + i = l) = False := by simp; omega
theorem ne_lt0 {l N : Nat} (h : l < N) : (l = N) = False := by simp; omega
theorem ne_lt0' {l N : Nat} (h : l < N) : (N = l) = False := by simp; omega
theorem upd_get' (σ : Heap) (l : Nat) (o : Option AObj) : (σ.upd l o).get = fun x => if x = l then o else σ.get x := rfl
theorem app_def (σ : Heap) (nm : Nat) (v : Value) (w : Option (Nat × Option AObj)) (n : Option AObj) : σ.app nm ⟨v, w, n⟩ = (σ.wr w).nw nm n := rfl
theorem wr_none (σ : Heap) : σ.wr none = σ := rfl
theorem wr_some (σ : Heap) (l : Nat) (o : Option AObj) : σ.wr (some (l, o)) = σ.upd l o := rfl
theorem nw_none (σ : Heap) (nm : Nat) : σ.nw nm none = σ := rfl
theorem nw_some (σ : Heap) (nm : Nat) (o : AObj) : σ.nw nm (some o) = σ.upd nm (some o) := rfl

theorem cells_agg (a : Array Value) : (Value.agg a).cells = a := rfl
theorem cells_int (k : IntKind) (i : Int) : (Value.int k i).cells = #[.int k i] := rfl
theorem cells_bool (b : Bool) : (Value.bool b).cells = #[.bool b] := rfl
theorem cells_str (s : ByteArray) : (Value.string s).cells = #[.string s] := rfl
theorem cells_ptr (p : Option Addr) : (Value.pointer p).cells = #[.pointer p] := rfl
theorem cells_sl (p : Option Addr) (n c : Nat) : (Value.slice p n c).cells = #[.slice p n c] := rfl
theorem cells_map (p : Option Nat) : (Value.map p).cells = #[.map p] := rfl
theorem cells_fun (f : Fn) (a b : Array Value) : (Value.func f a b).cells = #[.func f a b] := rfl
theorem one_int (k : IntKind) (i : Int) : oneCell (.int k i) = true := rfl
theorem one_bool (b : Bool) : oneCell (.bool b) = true := rfl
theorem one_str (s : ByteArray) : oneCell (.string s) = true := rfl
theorem one_ptr (p : Option Addr) : oneCell (.pointer p) = true := rfl
theorem one_sl (p : Option Addr) (n c : Nat) : oneCell (.slice p n c) = true := rfl
theorem one_map (p : Option Nat) : oneCell (.map p) = true := rfl
theorem one_fun (f : Fn) (a b : Array Value) : oneCell (.func f a b) = true := rfl
attribute [push_cast] easy_move tch_move easy_assign tch_assign easy_pick tch_pick easy_alloc tch_alloc easy_box tch_box easy_load tch_load easy_store tch_store easy_nilc tch_nilc easy_bin tch_bin easy_fa tch_fa easy_fld tch_fld easy_ia tch_ia easy_ext tch_ext easy_un tch_un easy_bld tch_bld easy_mf tch_mf easy_bs tch_bs easy_len tch_len easy_min tch_min easy_max tch_max easy_app tch_app easy_del tch_del easy_clr tch_clr easy_cpy tch_cpy easy_val tch_val easy_conv tch_conv easy_lk tch_lk easy_mu tch_mu easy_sl tch_sl easy_mm tch_mm easy_ms tch_ms easy_ix tch_ix easy_df tch_df easy_rg tch_rg easy_nx tch_nx easy_en tch_en
attribute [push_cast] runN_nil runN_n runN_g runT_nil runT_cons runU_n runU_g asPtr_p asCells_c asB_b asI_i asSl_s asAgg_a asTup_t unV_n lenV_s lenV_t fnId_f gdst_l ops_l binS_i binS_s binS_b binS_p binS_l aev_bool aev_int aev_string aev_nilptr aev_nilslice aev_nilmap aev_func intV_add intV_sub intV_mul intV_eql intV_neq intV_lss intV_leq intV_gtr intV_geq strV_eql strV_neq strV_lss strV_gtr optbind_some
attribute [push_cast] stepN stepK lenD binD rep plc fillL Nat.zero_add Nat.add_zero Nat.zero_mul fset_apply if_true if_false AA_put AA_put_none partO Option.map_some ge_zero ge_succ Heap.upd_get Heap.bump_get Heap.bump_nxt Heap.upd_nxt aeval_tmp decide_true decide_false Bool.not_true Bool.not_false beq_self_eq_true bne_self_eq_false cells_agg cells_int cells_bool cells_str cells_ptr cells_sl cells_map cells_fun splice List.take_zero List.take_succ_cons List.drop_zero List.drop_succ_cons List.nil_append List.cons_append List.append_nil List.length_cons List.length_nil plainL one_int one_bool one_str one_ptr one_sl one_map one_fun Bool.and_true Bool.true_and Bool.and_self and_self and_true true_and List.size_toArray
attribute [push_cast] touchT clashS callS keptS sameAt neAll ne1 memN kindOf cases2_t cases2_f Nat.add_assoc eq_self_iff' app_def wr_none wr_some nw_none nw_some ne_lt ne_lt' ne_lt0 ne_lt0'
theorem plain_nilsl (n c : Nat) : plainV (.slice none n c) = true := rfl
theorem plain_nilp : plainV (.pointer none) = true := rfl
theorem plain_nilm : plainV (.map none) = true := rfl
theorem run_mk (r : List Nat) (act : Nat → List AObj → Option Eff) (σ : Heap) (nm : Nat) : (Prim.mk r act).run σ nm = (getAll σ.get r).bind (act nm) := rfl
theorem wrOk_n (p : Prim) (v : Value) (n : Option AObj) : wrOk p ⟨v, none, n⟩ = true := rfl
theorem wrOk_s (r : List Nat) (act : Nat → List AObj → Option Eff) (v : Value) (l : Nat) (o : Option AObj) (n : Option AObj) : wrOk ⟨l :: r, act⟩ ⟨v, some (l, o), n⟩ = true := by simp [wrOk]
theorem wrOf_n (v : Value) (n : Option AObj) : wrOf ⟨v, none, n⟩ = [] := rfl
theorem wrOf_s (v : Value) (l : Nat) (o : Option AObj) (n : Option AObj) : wrOf ⟨v, some (l, o), n⟩ = [l] := rfl
theorem newOf_n (v : Value) (w : Option (Nat × Option AObj)) (nm : Nat) : newOf ⟨v, w, none⟩ nm = [] := rfl
theorem newOf_s (v : Value) (w : Option (Nat × Option AObj)) (o : AObj) (nm : Nat) : newOf ⟨v, w, some o⟩ nm = [nm] := rfl
theorem self_ne (N k : Nat) : (N = N + k) = (k = 0) := by simp
theorem self_ne' (N k : Nat) : (N + k = N) = (k = 0) := by simp
theorem nat_nn (n : Nat) : (0 ≤ (n : Int)) = True := by simp
attribute [push_cast] nat_nn Int.toNat_natCast self_ne self_ne' plain_int plain_bool plain_string plain_nilsl plain_nilp plain_nilm evList Prim.ofVal Prim.newCells Prim.newSlice run_mk getAll wrOk_n wrOk_s tchOf wrtOf newOf_n newOf_s wrOf_n wrOf_s Option.map_none Option.bind_none evParts List.toList_toArray Array.size


def stable : AObj → Bool
  | .cells _ sz ro => ro || sz == 1
  | _ => false

def Keeps (F : Nat → Prop) (σ τ : Heap) : Prop := σ.nxt ≤ τ.nxt ∧ ∀ x o, x < σ.nxt → σ.get x = some o → (F x → stable o = true) → τ.get x = some o

abbrev Keep0 (σ τ : Heap) : Prop := Keeps (fun _ => False) σ τ

theorem Keeps.refl (F : Nat → Prop) (σ : Heap) : Keeps F σ σ := ⟨Nat.le_refl _, fun _ _ _ h _ => h⟩
theorem Keeps.trans {F G : Nat → Prop} {σ τ υ : Heap} (h : Keeps F σ τ) (k : Keeps G τ υ) (hG : ∀ x, x < σ.nxt → G x → F x) : Keeps F σ υ :=
  ⟨Nat.le_trans h.1 k.1, fun x o hx ho hf => k.2 x o (Nat.lt_of_lt_of_le hx h.1) (h.2 x o hx ho hf) fun hg => hf (hG x hx hg)⟩
theorem Keeps.trans0 {F : Nat → Prop} {σ τ υ : Heap} (h : Keeps F σ τ) (k : Keep0 τ υ) : Keeps F σ υ := h.trans k fun _ _ h => h.elim
theorem Keeps.mono {F G : Nat → Prop} {σ τ : Heap} (h : Keeps F σ τ) (hG : ∀ x, x < σ.nxt → F x → G x) : Keeps G σ τ :=
  ⟨h.1, fun x o hx ho hf => h.2 x o hx ho fun hF => hf (hG x hx hF)⟩
theorem Keeps.bump {F : Nat → Prop} {σ τ : Heap} (h : Keeps F σ τ) (n : Nat) : Keeps F σ (τ.bump n) := ⟨Nat.le_trans h.1 (Nat.le_add_right _ _), h.2⟩
theorem Keeps.updNew {F : Nat → Prop} {σ τ : Heap} (h : Keeps F σ τ) {n : Nat} (hn : σ.nxt ≤ n) (o : Option AObj) : Keeps F σ (τ.upd n o) :=
  ⟨h.1, fun x o' hx ho hf => by rw [Heap.upd_ne _ _ (by omega)]; exact h.2 x o' hx ho hf⟩
theorem Keeps.updF {F : Nat → Prop} {σ τ : Heap} (h : Keeps F σ τ) {n : Nat} (hn : F n) (hs : ∀ o, σ.get n = some o → stable o = false) (o : Option AObj) : Keeps F σ (τ.upd n o) :=
  ⟨h.1, fun x o' hx ho hf => by
    by_cases e : x = n
    · subst e
      have := hf hn
      rw [hs _ ho] at this; cases this
    · rw [Heap.upd_ne _ _ e]; exact h.2 x o' hx ho hf⟩

theorem Keeps.updS {G : Nat → Prop} {σ τ : Heap} (h : Keeps G σ τ) {n : Nat} {o : AObj} (hn : σ.get n = some o) (hs : stable o = false) (o' : Option AObj) : Keeps (fun x => G x ∨ x = n) σ (τ.upd n o') :=
  ⟨h.1, fun x q hx ho hf => by
    by_cases e : x = n
    · subst e
      have := hf (.inr rfl)
      rw [hn] at ho; cases ho
      rw [hs] at this; cases this
    · rw [Heap.upd_ne _ _ e]; exact h.2 x q hx ho fun hg => hf (.inl hg)⟩

theorem Keeps.at {F : Nat → Prop} {σ τ : Heap} (h : Keeps F σ τ) (hw : σ.WF) {x : Nat} {o : AObj} (hx : σ.get x = some o) (hf : ¬ F x) : τ.get x = some o := h.2 x o (hw x o hx) hx fun k => absurd k hf
theorem Keeps.st {F : Nat → Prop} {σ τ : Heap} (h : Keeps F σ τ) (hw : σ.WF) {x : Nat} {o : AObj} (hx : σ.get x = some o) (hs : stable o = true) : τ.get x = some o := h.2 x o (hw x o hx) hx fun _ => hs
theorem Keeps.at0 {σ τ : Heap} (h : Keep0 σ τ) (hw : σ.WF) {x : Nat} {o : AObj} (hx : σ.get x = some o) : τ.get x = some o := h.2 x o (hw x o hx) hx fun k => k.elim

theorem awp_wf {P : Program} {c : Code} {Q : AQ} {a : Act} {σ : Heap} (h : σ.WF → AWP P c Q a σ) : AWP P c Q a σ :=
  fun ρ w ac hr ha => h (fun _ _ hl => hr.lt hl) ρ w ac hr ha


abbrev Gm := Nat → Option AObj

def SlC (g : Gm) (k : Nat) (v : Value) (n : Nat) (cs : List Value) : Prop :=
  cs.length = n * k ∧ ((v = .slice none 0 0 ∧ n = 0) ∨ (v = .slice (some ⟨0, 0, some 0⟩) 0 0 ∧ n = 0) ∨ ∃ l o c, v = .slice (some ⟨l, o, none⟩) n c ∧ n ≤ c ∧ (n = 0 ∨ ∃ cl ro, g l = some (.cells cl k ro) ∧ o + n * k ≤ cl.length ∧ (cl.drop o).take (n * k) = cs))

def SlOwn (g : Gm) (k : Nat) (v : Value) (n : Nat) (cs : List Value) : Prop :=
  cs.length = n * k ∧ ((v = .slice none 0 0 ∧ n = 0) ∨ ∃ l o c cl, v = .slice (some ⟨l, o, none⟩) n c ∧ n ≤ c ∧ g l = some (.cells cl k false) ∧ o + c * k ≤ cl.length ∧ (cl.drop o).take (n * k) = cs)

def vname : Value → Option Nat
  | .slice (some ⟨l, _, none⟩) _ _ => some l
  | .pointer (some ⟨l, _, _⟩) => some l
  | .map (some l) => some l
  | _ => none

theorem SlOwn.slc {g : Gm} {k n : Nat} {v : Value} {cs : List Value} (h : SlOwn g k v n cs) : SlC g k v n cs := by
  obtain ⟨h1, h2 | ⟨l, o, c, cl, h2, h3, h4, h5, h6⟩⟩ := h
  · exact ⟨h1, .inl h2⟩
  · exact ⟨h1, .inr (.inr ⟨l, o, c, h2, h3, .inr ⟨cl, false, h4, Nat.le_trans (Nat.add_le_add_left (Nat.mul_le_mul_right _ h3) _) h5, h6⟩⟩)⟩

theorem SlC.nil (g : Gm) (k : Nat) : SlC g k (.slice none 0 0) 0 [] := ⟨by simp, .inl ⟨rfl, rfl⟩⟩
theorem SlOwn.nil (g : Gm) (k : Nat) : SlOwn g k (.slice none 0 0) 0 [] := ⟨by simp, .inl ⟨rfl, rfl⟩⟩

theorem SlC.keep {F : Nat → Prop} {σ τ : Heap} {k n : Nat} {v : Value} {cs : List Value} (h : SlC σ.get k v n cs) (hk : Keeps F σ τ) (hw : σ.WF) (hv : k = 1 ∨ ∀ l, vname v = some l → ¬ F l) : SlC τ.get k v n cs := by
  obtain ⟨h1, h2 | h2 | ⟨l, o, c, h2, h3, h4 | ⟨cl, ro, h4, h5, h6⟩⟩⟩ := h
  · exact ⟨h1, .inl h2⟩
  · exact ⟨h1, .inr (.inl h2)⟩
  · exact ⟨h1, .inr (.inr ⟨l, o, c, h2, h3, .inl h4⟩)⟩
  · refine ⟨h1, .inr (.inr ⟨l, o, c, h2, h3, .inr ⟨cl, ro, ?_, h5, h6⟩⟩)⟩
    rcases hv with rfl | hv
    · exact hk.st hw h4 (by simp [stable])
    · exact hk.at hw h4 (hv l (by rw [h2]; rfl))
theorem SlOwn.keep {F : Nat → Prop} {σ τ : Heap} {k n : Nat} {v : Value} {cs : List Value} (h : SlOwn σ.get k v n cs) (hk : Keeps F σ τ) (hw : σ.WF) (hv : k = 1 ∨ ∀ l, vname v = some l → ¬ F l) : SlOwn τ.get k v n cs := by
  obtain ⟨h1, h2 | ⟨l, o, c, cl, h2, h3, h4, h5, h6⟩⟩ := h
  · exact ⟨h1, .inl h2⟩
  · refine ⟨h1, .inr ⟨l, o, c, cl, h2, h3, ?_, h5, h6⟩⟩
    rcases hv with rfl | hv
    · exact hk.st hw h4 (by simp [stable])
    · exact hk.at hw h4 (hv l (by rw [h2]; rfl))

theorem SlC.len {g : Gm} {k n : Nat} {v : Value} {cs : List Value} (h : SlC g k v n cs) : ∃ a c, v = .slice a n c ∧ n ≤ c := by
  obtain ⟨h1, ⟨rfl, rfl⟩ | ⟨rfl, rfl⟩ | ⟨l, o, c, rfl, h3, _⟩⟩ := h
  · exact ⟨_, _, rfl, Nat.le_refl _⟩
  · exact ⟨_, _, rfl, Nat.le_refl _⟩
  · exact ⟨_, _, rfl, h3⟩

theorem SlC.pos {g : Gm} {k n : Nat} {v : Value} {cs : List Value} (h : SlC g k v n cs) (hn : 0 < n) : ∃ l o c cl ro, v = .slice (some ⟨l, o, none⟩) n c ∧ n ≤ c ∧ g l = some (.cells cl k ro) ∧ o + n * k ≤ cl.length ∧ (cl.drop o).take (n * k) = cs := by
  obtain ⟨h1, ⟨rfl, rfl⟩ | ⟨rfl, rfl⟩ | ⟨l, o, c, rfl, h3, h4 | ⟨cl, ro, h4, h5, h6⟩⟩⟩ := h
  · omega
  · omega
  · omega
  · exact ⟨l, o, c, cl, ro, rfl, h3, h4, h5, h6⟩

theorem take_cell {cl cs : List Value} {o m j : Nat} (h : (cl.drop o).take m = cs) (hj : j < m) : cl[o + j]? = cs[j]? := by
  subst h
  rw [List.getElem?_take, if_pos hj, List.getElem?_drop]
theorem take_part {cl cs : List Value} {o m j s : Nat} (h : (cl.drop o).take m = cs) (hj : j + s ≤ m) : (cl.drop (o + j)).take s = (cs.drop j).take s := by
  subst h
  rw [List.drop_take, List.take_take, List.drop_drop, Nat.min_eq_left (by omega)]


theorem splice_end {cl src : List Value} {o n : Nat} (h : o + n + src.length ≤ cl.length) : ((splice cl (o + n) src).drop o).take (n + src.length) = (cl.drop o).take n ++ src := by
  have e : cl.take (o + n) = cl.take o ++ (cl.drop o).take n := by rw [List.take_add]
  have h1 : (cl.take o).length = o := by rw [List.length_take]; omega
  have h2 : ((cl.drop o).take n).length = n := by rw [List.length_take, List.length_drop]; omega
  unfold splice
  rw [e, List.append_assoc, List.append_assoc, List.drop_left' h1, ← List.append_assoc, List.take_left']
  rw [List.length_append, h2]

theorem src_slc {g : Gm} {k n : Nat} {v : Value} {cs : List Value} (h : SlC g k v n cs) : ∃ rs get objs, srcOf k v = some (rs, get, n) ∧ getAll g rs = some objs ∧ get objs = some cs := by
  obtain ⟨h1, ⟨rfl, rfl⟩ | ⟨rfl, rfl⟩ | ⟨l, o, c, rfl, h3, h4⟩⟩ := h
  · have : cs = [] := List.eq_nil_of_length_eq_zero (by omega)
    subst this
    exact ⟨[], fun _ => some [], [], rfl, rfl, rfl⟩
  · have : cs = [] := List.eq_nil_of_length_eq_zero (by omega)
    subst this
    exact ⟨[], fun _ => some [], [], rfl, rfl, rfl⟩
  · by_cases hn : n = 0
    · subst hn
      have : cs = [] := List.eq_nil_of_length_eq_zero (by omega)
      subst this
      exact ⟨[], fun _ => some [], [], by simp [srcOf], rfl, rfl⟩
    · obtain ⟨cl, ro, h4, h5, h6⟩ := h4.resolve_left hn
      refine ⟨[l], _, [.cells cl k ro], by simp only [srcOf]; rw [if_neg hn], by simp [getAll, h4], ?_⟩
      simp only
      rw [if_pos h5, h6]

theorem grow_ok {P : Program} {t u e k by_ : Nat} {z : Value} (ht : P.underlying t = some (.slice e)) (hk : szO P e = some k) (hb : bytesO P e = some by_) (hz : zeroP P e = some z) (hzc : z.cells.size = k) (hk0 : 0 < k) (hb0 : 0 < by_)
    (hu : isSeqT (P.underlying u) = true) {σ : Heap} {nm n m : Nat} {v x : Value} {cs ds : List Value} {rs : List Nat} {get : List AObj → Option (List Value)} {objs : List AObj} (hv : SlOwn σ.get k v n cs)
    (hs : srcOf k x = some (rs, get, m)) (hg : getAll σ.get rs = some objs) (hget : get objs = some ds) (hlen : ds.length = m * k) (hone : plainL oneCell ds = true) (hfit : (n + m) * by_ ≤ 2 ^ 46) :
    ∃ p eff, aAppend P t u v x = some p ∧ p.run σ nm = some eff ∧ wrOk p eff = true ∧ SlOwn (σ.app nm eff).get k eff.val (n + m) (cs ++ ds) ∧
      (∀ l, l ≠ nm → vname v ≠ some l → (σ.app nm eff).get l = σ.get l) ∧ (σ.app nm eff).nxt = σ.nxt ∧ (vname eff.val = none ∨ vname eff.val = vname v ∨ vname eff.val = some nm) := by
  have hc : (!(decide (0 < k) && decide (0 < by_) && decide (z.cells.size = k) && isSeqT (P.underlying u))) = false := by simp [hk0, hb0, hzc, hu]
  obtain ⟨h1, ⟨rfl, rfl⟩ | ⟨l, o, c, cl, rfl, h3, h4, h5, h6⟩⟩ := hv
  · have hcs : cs = [] := List.eq_nil_of_length_eq_zero (by omega)
    subst hcs
    by_cases hm : m = 0
    · subst hm
      have hds : ds = [] := List.eq_nil_of_length_eq_zero (by omega)
      subst hds
      refine ⟨.ofVal (.slice none 0 0), ⟨.slice none 0 0, none, none⟩, ?_, rfl, rfl, SlOwn.nil _ _, fun _ _ _ => rfl, rfl, .inl rfl⟩
      unfold aAppend
      simp only [ht, hk, hb, hz, Option.bind_some, hc, hs, if_true, Bool.false_eq_true, if_false]
    · refine ⟨⟨rs, fun nm objs => (get objs).map fun c => ⟨.slice (some ⟨nm, 0, none⟩) m m, none, some (.cells c k false)⟩⟩, ⟨.slice (some ⟨nm, 0, none⟩) m m, none, some (.cells ds k false)⟩, ?_, ?_, rfl, ?_, ?_, rfl, .inr (.inr rfl)⟩
      · unfold aAppend
        simp only [ht, hk, hb, hz, Option.bind_some, hc, hs, if_neg hm, Bool.false_eq_true, if_false]
        rw [if_pos (by rw [Nat.zero_add] at hfit; omega)]
      · simp only [Prim.run, hg, Option.bind_some, hget, Option.map_some]
      · refine ⟨by simpa using hlen, .inr ⟨nm, 0, m, ds, by simp, by omega, ?_, by omega, ?_⟩⟩
        · simp [Heap.app, Heap.wr, Heap.nw]
        · rw [List.drop_zero, Nat.zero_add, ← hlen, List.take_length]; rfl
      · intro l hl _
        simp only [Heap.app, Heap.wr, Heap.nw]
        exact Heap.upd_ne _ _ hl
  · by_cases hm : m = 0
    · subst hm
      have hds : ds = [] := List.eq_nil_of_length_eq_zero (by omega)
      subst hds
      refine ⟨.ofVal (.slice (some ⟨l, o, none⟩) n c), ⟨.slice (some ⟨l, o, none⟩) n c, none, none⟩, ?_, rfl, rfl, ⟨by simpa using h1, .inr ⟨l, o, c, cl, rfl, h3, h4, h5, by simpa using h6⟩⟩, fun _ _ _ => rfl, rfl, .inr (.inl rfl)⟩
      unfold aAppend
      simp only [ht, hk, hb, hz, Option.bind_some, hc, hs, if_true, Bool.false_eq_true, if_false, if_pos h3]
    · by_cases hr : n + m ≤ c
      · have hnk : (n + m) * k ≤ c * k := Nat.mul_le_mul_right _ hr
        have hnk2 : (n + m) * k = n * k + m * k := Nat.add_mul ..
        refine ⟨⟨l :: rs, fun _ objs => match objs with
            | .cells cl sz false :: rest => (get rest).bind fun src => if plainL oneCell src && o + (n + m) * k ≤ cl.length then
                some ⟨.slice (some ⟨l, o, none⟩) (n + m) c, some (l, some (.cells (splice cl (o + n * k) src) sz false)), none⟩ else none
            | _ => none⟩, ⟨.slice (some ⟨l, o, none⟩) (n + m) c, some (l, some (.cells (splice cl (o + n * k) ds) k false)), none⟩, ?_, ?_, ?_, ?_, ?_, rfl, .inr (.inl rfl)⟩
        · unfold aAppend
          simp only [ht, hk, hb, hz, Option.bind_some, hc, hs, if_neg hm, Bool.false_eq_true, if_false, if_pos h3, if_pos hr]
          rfl
        · simp only [Prim.run, getAll, h4, hg, Option.bind_some, Option.map_some, hget, hone, Bool.true_and]
          rw [if_pos (by simp; omega)]
        · simp [wrOk]
        · refine ⟨by rw [List.length_append, h1, hlen, hnk2], .inr ⟨l, o, c, splice cl (o + n * k) ds, rfl, hr, ?_, ?_, ?_⟩⟩
          · simp [Heap.app, Heap.wr, Heap.nw]
          · rw [splice_length (by omega)]; exact h5
          · rw [hnk2, ← hlen, splice_end (by omega), h6]
        · intro x hx hne
          simp only [Heap.app, Heap.wr, Heap.nw]
          exact Heap.upd_ne _ _ (by rintro rfl; exact hne rfl)
      · refine ⟨⟨l :: rs, fun nm objs => match objs with
            | .cells cl sz ro :: rest => (get rest).bind fun src =>
              if sz = k && plainL oneCell src && o + n * k ≤ cl.length then
                if ro then
                  if o + c * sz ≠ cl.length && growFits c (n + m) by_ then
                    some ⟨.slice (some ⟨nm, 0, none⟩) (n + m) (n + m), none, some (.cells ((cl.drop o).take (n * k) ++ src) k false)⟩ else none
                else if (n + m) * by_ ≤ 2 ^ 46 then
                  some ⟨.slice (some ⟨nm, 0, none⟩) (n + m) (n + m), some (l, none), some (.cells ((cl.drop o).take (n * k) ++ src) k false)⟩ else none
              else none
            | _ => none⟩, ⟨.slice (some ⟨nm, 0, none⟩) (n + m) (n + m), some (l, none), some (.cells ((cl.drop o).take (n * k) ++ ds) k false)⟩, ?_, ?_, ?_, ?_, ?_, rfl, .inr (.inr rfl)⟩
        · unfold aAppend
          simp only [ht, hk, hb, hz, Option.bind_some, hc, hs, if_neg hm, Bool.false_eq_true, if_false, if_pos h3, if_neg hr]
          rfl
        · have hnk : n * k ≤ c * k := Nat.mul_le_mul_right _ h3
          simp only [Prim.run, getAll, h4, hg, Option.bind_some, Option.map_some, hget, hone, Bool.and_true, decide_true, Bool.true_and]
          rw [if_pos (by simp; omega)]
          simp only [Bool.false_eq_true, if_false]
          rw [if_pos hfit]
        · simp [wrOk]
        · have e : (n + m) * k = n * k + m * k := Nat.add_mul ..
          refine ⟨by rw [List.length_append, h1, hlen, e], .inr ⟨nm, 0, n + m, cs ++ ds, rfl, Nat.le_refl _, ?_, ?_, ?_⟩⟩
          · simp [Heap.app, Heap.wr, Heap.nw, h6]
          · rw [List.length_append, h1, hlen, e]; omega
          · rw [List.drop_zero, e, ← h1, ← hlen, ← List.length_append, List.take_length]
        · intro x hx hne
          simp only [Heap.app, Heap.wr, Heap.nw]
          rw [Heap.upd_ne _ _ hx]
          exact Heap.upd_ne _ _ (by rintro rfl; exact hne rfl)


def u8c (l : List UInt8) : List Value := l.map fun b => .int .u8 b.toNat
theorem u8c_length (l : List UInt8) : (u8c l).length = l.length := by simp [u8c]
theorem u8c_append (l m : List UInt8) : u8c (l ++ m) = u8c l ++ u8c m := by simp [u8c]
theorem u8c_one (l : List UInt8) : plainL oneCell (u8c l) = true := by
  induction l with
  | nil => rfl
  | cons a l ih => simp only [u8c, List.map_cons, plainL, oneCell, Bool.true_and]; exact ih

def str (l : List UInt8) : ByteArray := ⟨l.toArray⟩
theorem str_size (l : List UInt8) : (str l).size = l.length := by simp [str, ByteArray.size]
theorem str_list (l : List UInt8) : (str l).data.toList = l := by simp [str]
theorem str_of (s : ByteArray) : str s.data.toList = s := by cases s; simp [str]
theorem str_inj {l m : List UInt8} (h : str l = str m) : l = m := by rw [← str_list l, h, str_list]

def BytesAt (g : Gm) (v : Value) (bs : List UInt8) : Prop := SlC g 1 v bs.length (u8c bs)

theorem BytesAt.keep {F : Nat → Prop} {σ τ : Heap} {v : Value} {bs : List UInt8} (h : BytesAt σ.get v bs) (hk : Keeps F σ τ) (hw : σ.WF) : BytesAt τ.get v bs := SlC.keep h hk hw (.inl rfl)

theorem bytesOf_u8c : ∀ (l : List UInt8) (acc : ByteArray), bytesOf (u8c l) acc = some (str (acc.data.toList ++ l))
  | [], acc => by simp [u8c, bytesOf, str_of]
  | b :: l, acc => by
    have : u8c (b :: l) = .int .u8 b.toNat :: u8c l := rfl
    rw [this]
    simp only [bytesOf]
    rw [bytesOf_u8c l]
    congr 2
    simp [ByteArray.push]

theorem take_all {cl : List Value} {n : Nat} (h : cl.length ≤ n) : cl.take n = cl := List.take_of_length_le h

end Go.Proofs.YtfchjhfccnodpaaGreat
end

section
namespace Go.Proofs.YtfchjhfccnodpaaGreat
set_option linter.unusedSimpArgs false
set_option linter.unusedVariables false


def Sl (f : Nat → Value) : List (Nat × Value) → Prop
  | [] => True
  | (t, v) :: r => f t = v ∧ Sl f r

attribute [push_cast] Sl

def clean (ts : List Nat) : List (Nat × Value) → Prop
  | [] => True
  | (t, _) :: r => memN t ts = false ∧ clean ts r
attribute [push_cast] clean

theorem Sl.set {f : Nat → Value} {t : Nat} {v : Value} {ts : List Nat} (ht : memN t ts = true) : ∀ {s : List (Nat × Value)}, clean ts s → Sl f s → Sl (fset f t v) s
  | [], _, _ => trivial
  | (u, w) :: r, hc, h => by
    refine ⟨?_, Sl.set ht hc.2 h.2⟩
    rw [fset_apply, if_neg]
    · exact h.1
    · rintro rfl
      rw [hc.1] at ht; cases ht

section
variable {P : Program} {Q : AQ} {N : Nat} {ds : List Deferred}

theorem awp_prune {c : Code} {f : Nat → Value} {σ : Heap} (s : List (Nat × Value)) (h : Sl f s) (k : ∀ f, Sl f s → AWP P c Q (AA N f ds) σ) : AWP P c Q (AA N f ds) σ := k f h

def Mid (Q : AQ) (N : Nat) (ds : List Deferred) {β : Type} (s : β → List (Nat × Value)) (H : β → Heap → Prop) : AQ
  | .normal, a, σ => ∃ f b, a = AA N f ds ∧ Sl f (s b) ∧ H b σ
  | e, a, σ => Q e a σ

theorem awp_meet {x y : Code} {a : Act} {σ : Heap} {β : Type} (s : β → List (Nat × Value)) (H : β → Heap → Prop) (h1 : AWP P x (Mid Q N ds s H) a σ)
    (h2 : ∀ f b σ, Sl f (s b) → H b σ → AWP P y Q (AA N f ds) σ) : AWP P (.seq x y) Q a σ := by
  refine awp_seq (h1.mono fun e a σ h => ?_)
  cases e with
  | normal => obtain ⟨f, b, rfl, h3, h4⟩ := h; exact h2 f b σ h3 h4
  | _ => exact h

theorem awp_if {c : Operand} {x y : Code} {a : Act} {σ : Heap} (t : Bool) (hc : aeval a c = some (.bool t)) (h1 : t = true → AWP P x Q a σ) (h2 : t = false → AWP P y Q a σ) : AWP P (.cond c x y) Q a σ := by
  cases t
  · exact awp_cond hc (h2 rfl)
  · exact awp_cond hc (h1 rfl)

theorem awp_yes {c : Operand} {x y : Code} {a : Act} {σ : Heap} (hc : aeval a c = some (.bool true)) (h : AWP P x Q a σ) : AWP P (.cond c x y) Q a σ := awp_cond hc h
theorem awp_no {c : Operand} {x y : Code} {a : Act} {σ : Heap} (hc : aeval a c = some (.bool false)) (h : AWP P y Q a σ) : AWP P (.cond c x y) Q a σ := awp_cond hc h

theorem awp_while {c : Code} {f : Nat → Value} {σ : Heap} {β : Type} (s : β → List (Nat × Value)) (H : β → Heap → Prop) (μ : β → Nat) (b₀ : β) (hs : Sl f (s b₀)) (hH : H b₀ σ)
    (round : ∀ b f σ, Sl f (s b) → H b σ → AWP P c (fun e a σ => match e with | .normal => ∃ f' b', a = AA N f' ds ∧ Sl f' (s b') ∧ H b' σ ∧ μ b' < μ b | e => Q e a σ) (AA N f ds) σ) :
    AWP P (.loop c) Q (AA N f ds) σ := by
  refine awp_loop (fun b a σ => ∃ f, a = AA N f ds ∧ Sl f (s b) ∧ H b σ) μ b₀ ⟨f, rfl, hs, hH⟩ ?_
  rintro b a σ ⟨f, rfl, h1, h2⟩
  refine (round b f σ h1 h2).mono fun e a σ h => ?_
  cases e with
  | normal => obtain ⟨f', b', h3, h4, h5, h6⟩ := h; exact ⟨b', ⟨f', h3, h4, h5⟩, h6⟩
  | _ => exact h

theorem wrap_id {x : Int} (h : -9223372036854775808 ≤ x) (h' : x ≤ 9223372036854775807) : IntKind.i64.wrap x = x := IntWalk.i64_in x ⟨h, h'⟩

end

def RangeI (N : Nat) (ds : List Deferred) (ti tn cnt : Nat) {β : Type} (s : Nat → β → List (Nat × Value)) (H : Nat → β → Heap → Prop) (x : Nat × β) (a : Act) (σ : Heap) : Prop :=
  ∃ f, a = AA N f ds ∧ x.1 ≤ cnt ∧ f ti = .int .i64 x.1 ∧ f tn = .int .i64 cnt ∧ Sl f (s x.1 x.2) ∧ H x.1 x.2 σ

theorem awp_range {E : Env} (hE : EnvOk E) {Q : AQ} {N : Nat} {ds : List Deferred} {B B2 r1 r2 : Nat} {body : Code} {tc ti tn tj T1 T1' T2' : Nat} {y1 y2 y3 : Nat} {p1 p2 p3 : String} {a1 a2 a3 : Array Edge} {f : Nat → Value} {σ : Heap}
    (cnt : Nat) {β : Type} (s : Nat → β → List (Nat × Value)) (H : Nat → β → Heap → Prop) (b₀ : β)
    (hN : tc < N ∧ ti < N ∧ tn < N ∧ tj < N) (hne : tc ≠ ti ∧ tc ≠ tn ∧ tj ≠ tn ∧ ti ≠ tn ∧ tj ≠ ti) (hcnt : (cnt : Int) ≤ 4611686018427387904)
    (hcl : ∀ i b, clean [tc, ti, tj] (s i b)) (hH : ∀ i b σ n, H i b σ → H i b (σ.bump n))
    (h0 : f ti = .int .i64 0) (hn : f tn = .int .i64 cnt) (hs : Sl f (s 0 b₀)) (hH0 : H 0 b₀ σ)
    (round : ∀ i b f σ, i < cnt → f ti = .int .i64 i → f tn = .int .i64 cnt → Sl f (s i b) → H i b σ → AWP E.P body (aBlock B2 fun e a σ => match e with
      | .normal => ∃ f' b', a = AA N f' ds ∧ f' ti = .int .i64 i ∧ f' tn = .int .i64 cnt ∧ Sl f' (s (i + 1) b') ∧ H (i + 1) b' σ
      | e => aBlock B Q e a σ) (AA N f ds) σ)
    (done : ∀ b f σ, f ti = .int .i64 cnt → Sl f (s cnt b) → H cnt b σ → Q .normal (AA N f ds) σ) :
    AWP E.P (.block B (.loop (.seq (.region r1 #[⟨some tc, .binOp .lss T1 (.tmp ti) (.tmp tn) T1', y1, p1, a1, none⟩] false) (.seq (.cond (.tmp tc) .skip (.exit B)) (.seq (.block B2 body)
      (.region r2 #[⟨some tj, .binOp .add T2' (.tmp ti) (.const (.int .i64 1)) T2', y2, p2, a2, none⟩, ⟨some ti, .move (.tmp tj), y3, p3, a3, none⟩] false)))))) Q (AA N f ds) σ := by
  obtain ⟨n1, n2, n3, n4⟩ := hN
  obtain ⟨e1, e2, e3, e4, e5⟩ := hne
  have hm1 : memN tc [tc, ti, tj] = true := by simp [memN]
  have hm2 : memN ti [tc, ti, tj] = true := by simp [memN, e1.symm]
  have hm3 : memN tj [tc, ti, tj] = true := by simp [memN]
  refine awp_block (awp_loop (β := Nat × β) (RangeI N ds ti tn cnt s H) (fun x => cnt - x.1) (0, b₀) ⟨f, rfl, Nat.zero_le _, h0, hn, hs, hH0⟩ ?_)
  rintro ⟨i, b⟩ a σ ⟨f, rfl, hi, f1, f2, f3, f4⟩
  simp only at hi f1 f3 f4
  refine awp_seq (awp_region_n hE fun K hK => ?_)
  simp only [push_cast, ↓cases2_t, ↓cases2_f, ↓obind_some, ↓cbind_true, ↓tbind_true, ↓tbind_false, Nat.reduceLT, Nat.reduceAdd, Nat.reduceMul, Nat.reduceSub, Nat.reduceEqDiff, Nat.reduceLeDiff, Nat.reduceBEq, reduceCtorEq, reduceIte, n1, n2, n3, n4, f1, f2]
  refine hK _ _ (awp_seq ?_)
  refine awp_if (decide ((i : Int) < cnt)) (by simp only [push_cast, ↓cases2_t, ↓cases2_f, ↓obind_some, ↓cbind_true, ↓tbind_true, ↓tbind_false, Nat.reduceLT, Nat.reduceAdd, Nat.reduceMul, Nat.reduceSub, Nat.reduceEqDiff, Nat.reduceLeDiff, Nat.reduceBEq, reduceCtorEq, reduceIte, n1]) (fun ht => awp_skip ?_) (fun ht => awp_exit ?_)
  · have hlt : i < cnt := by simpa using ht
    refine awp_seq (awp_block ((round i b _ _ hlt ?_ ?_ ?_ ?_).mono fun e a σ h => ?_))
    · simp only [fset_apply, if_neg e1.symm]; exact f1
    · simp only [fset_apply, if_neg e2.symm]; exact f2
    · exact Sl.set hm1 (hcl i b) f3
    · exact hH i b _ _ f4
    · have key : ∀ {e a σ}, (match e with
          | .normal => ∃ f' b', a = AA N f' ds ∧ f' ti = .int .i64 i ∧ f' tn = .int .i64 cnt ∧ Sl f' (s (i + 1) b') ∧ H (i + 1) b' σ
          | e => aBlock B Q e a σ) → aThen (AWP E.P (.region r2 #[⟨some tj, .binOp .add T2' (.tmp ti) (.const (.int .i64 1)) T2', y2, p2, a2, none⟩, ⟨some ti, .move (.tmp tj), y3, p3, a3, none⟩] false)
            (aThen (fun a' σ' => ∃ b' : Nat × β, RangeI N ds ti tn cnt s H b' a' σ' ∧ cnt - b'.1 < cnt - i) (aBlock B Q))) (aThen (fun a' σ' => ∃ b' : Nat × β, RangeI N ds ti tn cnt s H b' a' σ' ∧ cnt - b'.1 < cnt - i) (aBlock B Q)) e a σ := by
        intro e a σ h
        cases e with
        | normal =>
          obtain ⟨f', b', rfl, g1, g2, g3, g4⟩ := h
          refine awp_region_n hE fun K hK => ?_
          simp only [push_cast, ↓cases2_t, ↓cases2_f, ↓obind_some, ↓cbind_true, ↓tbind_true, ↓tbind_false, Nat.reduceLT, Nat.reduceAdd, Nat.reduceMul, Nat.reduceSub, Nat.reduceEqDiff, Nat.reduceLeDiff, Nat.reduceBEq, reduceCtorEq, reduceIte, n1, n2, n3, n4, g1, g2]
          refine hK _ _ ⟨(i + 1, b'), ⟨_, rfl, hlt, ?_, ?_, ?_, hH _ _ _ _ g4⟩, by simp only; omega⟩
          · simp only [fset_apply, if_true]
            rw [wrap_id (by omega) (by omega)]; rfl
          · simp only [fset_apply, if_neg e4.symm, if_neg e3.symm]; exact g2
          · exact Sl.set hm2 (hcl _ _) (Sl.set hm3 (hcl _ _) g3)
        | exit id => exact h
        | goto l => exact h
        | ret => exact h
        | panic c => exact h
        | outgrown => exact h
      cases e with
      | exit id =>
        simp only [aBlock] at h ⊢
        split at h
        · rename_i hid; rw [if_pos hid]; exact key h
        · rename_i hid; rw [if_neg hid]; exact key h
      | normal => exact key (e := .normal) h
      | goto l => exact key (e := .goto l) h
      | ret => exact key (e := .ret) h
      | panic c => exact key (e := .panic c) h
      | outgrown => exact key (e := .outgrown) h
  · have hge : ¬ (i < cnt) := by simpa using ht
    have : i = cnt := by omega
    subst this
    simp only [aThen, aBlock, if_true]
    refine done b _ _ ?_ (Sl.set hm1 (hcl _ _) f3) (hH _ _ _ _ f4)
    simp only [fset_apply, if_neg e1.symm]; exact f1


def Rows {α : Type} (k : Nat) (R : List Value → α → Prop) : List Value → List α → Prop
  | cs, [] => cs = []
  | cs, x :: xs => ∃ c d, cs = c ++ d ∧ c.length = k ∧ R c x ∧ Rows k R d xs

section
variable {α : Type} {k : Nat} {R : List Value → α → Prop}

theorem Rows.length : ∀ {xs : List α} {cs : List Value}, Rows k R cs xs → cs.length = xs.length * k
  | [], cs, h => by cases h; simp
  | x :: xs, cs, h => by
    obtain ⟨c, d, rfl, h1, _, h2⟩ := h
    rw [List.length_append, h1, Rows.length h2, List.length_cons, Nat.add_mul]; omega
theorem Rows.append : ∀ {xs ys : List α} {cs es : List Value}, Rows k R cs xs → Rows k R es ys → Rows k R (cs ++ es) (xs ++ ys)
  | [], ys, cs, es, h, h' => by cases h; exact h'
  | x :: xs, ys, cs, es, h, h' => by
    obtain ⟨c, d, rfl, h1, h2, h3⟩ := h
    exact ⟨c, d ++ es, by rw [List.append_assoc], h1, h2, Rows.append h3 h'⟩
theorem Rows.one {c : List Value} {x : α} (h : c.length = k) (hr : R c x) : Rows k R c [x] := ⟨c, [], by simp, h, hr, rfl⟩
theorem Rows.mono {R' : List Value → α → Prop} : ∀ {xs : List α} {cs : List Value}, (∀ c x, x ∈ xs → R c x → R' c x) → Rows k R cs xs → Rows k R' cs xs
  | [], cs, _, h => h
  | x :: xs, cs, hR, h => by
    obtain ⟨c, d, rfl, h1, h2, h3⟩ := h
    exact ⟨c, d, rfl, h1, hR _ _ (List.mem_cons_self ..) h2, Rows.mono (fun c x hx => hR c x (List.mem_cons_of_mem _ hx)) h3⟩
theorem Rows.get : ∀ {xs : List α} {cs : List Value} {i : Nat}, Rows k R cs xs → (hi : i < xs.length) → R ((cs.drop (i * k)).take k) xs[i]
  | [], _, _, _, hi => by simp at hi
  | x :: xs, cs, 0, h, _ => by
    obtain ⟨c, d, rfl, h1, h2, h3⟩ := h
    simp only [Nat.zero_mul, List.drop_zero, List.getElem_cons_zero]
    rw [← h1, List.take_left']
    · exact h2
    · rfl
  | x :: xs, cs, i + 1, h, hi => by
    obtain ⟨c, d, rfl, h1, h2, h3⟩ := h
    have := Rows.get (i := i) h3 (by simpa using hi)
    rw [List.getElem_cons_succ, Nat.add_mul, Nat.one_mul, Nat.add_comm, ← List.drop_drop, ← h1, List.drop_left']
    · rw [h1]; exact this
    · rfl
theorem Rows.drop : ∀ {xs : List α} {cs : List Value} (i : Nat), Rows k R cs xs → Rows k R (cs.drop (i * k)) (xs.drop i)
  | [], cs, i, h => by cases h; simp [Rows]
  | x :: xs, cs, 0, h => by simpa using h
  | x :: xs, cs, i + 1, h => by
    obtain ⟨c, d, rfl, h1, h2, h3⟩ := h
    rw [List.drop_succ_cons, Nat.add_mul, Nat.one_mul, Nat.add_comm, ← List.drop_drop, ← h1, List.drop_left' (by rfl), h1]
    exact Rows.drop i h3
theorem Rows.take : ∀ {xs : List α} {cs : List Value} (i : Nat), Rows k R cs xs → Rows k R (cs.take (i * k)) (xs.take i)
  | [], cs, i, h => by cases h; simp [Rows]
  | x :: xs, cs, 0, h => by simp [Rows]
  | x :: xs, cs, i + 1, h => by
    obtain ⟨c, d, rfl, h1, h2, h3⟩ := h
    rw [List.take_succ_cons]
    refine ⟨c, d.take (i * k), ?_, h1, h2, Rows.take i h3⟩
    rw [List.take_append, Nat.add_mul, Nat.one_mul, h1, List.take_of_length_le (by omega), Nat.add_sub_cancel]
end

theorem plainL_append {f : Value → Bool} : ∀ {l m : List Value}, plainL f l = true → plainL f m = true → plainL f (l ++ m) = true
  | [], m, _, h => h
  | x :: l, m, h, h' => by
    simp only [plainL, Bool.and_eq_true] at h
    simp only [List.cons_append, plainL, Bool.and_eq_true]
    exact ⟨h.1, plainL_append h.2 h'⟩


end Go.Proofs.YtfchjhfccnodpaaGreat
end

section
namespace Go.Proofs.YtfchjhfccnodpaaGreat
set_option linter.unusedSimpArgs false
set_option linter.unusedVariables false
set_option maxRecDepth 100000


abbrev Sls := List (Nat × Value)

def look : Sls → Nat → Option Value
  | [], _ => none
  | (u, v) :: r, t => match Nat.beq u t with
    | true => some v
    | false => look r t

def lkf (f : Nat → Value) (s : Sls) (t : Nat) : Value := match look s t with
  | some v => v
  | none => f t

def U0 : Nat → Value := fun _ => undef

def Fr (N : Nat) (f : Nat → Value) (s : Sls) : Act := AA N (lkf f s) []

theorem look_some {f : Nat → Value} {s : Sls} {t : Nat} {v : Value} (h : look s t = some v) : lkf f s t = v := by unfold lkf; rw [h]

theorem lkf_cons (f : Nat → Value) (s : Sls) (d : Nat) (v : Value) : lkf f ((d, v) :: s) = fset (lkf f s) d v := by
  funext t
  simp only [lkf, look, fset_apply]
  by_cases h : t = d
  · subst h
    rw [show Nat.beq t t = true from Nat.beq_refl t, if_pos rfl]
  · rw [show Nat.beq d t = false from by
      cases hb : Nat.beq d t with
      | false => rfl
      | true => exact absurd (Nat.eq_of_beq_eq_true hb).symm h, if_neg h]

theorem Fr_put (N : Nat) (f : Nat → Value) (s : Sls) (d : Nat) (v : Value) : (Fr N f s).put (some d) v = Fr N f ((d, v) :: s) := by
  unfold Fr
  rw [AA_put, lkf_cons]
theorem Fr_put0 (N : Nat) (f : Nat → Value) (s : Sls) (v : Value) : (Fr N f s).put none v = Fr N f s := rfl

def ov (N : Nat) (s : Sls) : Operand → Option Value
  | .tmp t => match Nat.blt t N with
    | true => look s t
    | false => none
  | .const v => match plainV v with
    | true => some v
    | false => none
  | .func g => some (.func (.func g) #[] #[])
  | .global _ => none

theorem ov_ok {N : Nat} {f : Nat → Value} {s : Sls} {x : Operand} {v : Value} (h : ov N s x = some v) : aeval (Fr N f s) x = some v := by
  cases x with
  | tmp t =>
    simp only [ov] at h
    split at h
    · rename_i ht
      have ht : t < N := by simpa [Nat.blt_eq] using ht
      unfold Fr
      rw [aeval_tmp ht, look_some h]
    · cases h
  | const c =>
    simp only [ov] at h
    split at h
    · rename_i hp
      simp only [aeval, hp, if_true]; exact h
    · cases h
  | func g => exact h
  | global g => cases h

def ovL (N : Nat) (s : Sls) : List Operand → Option (List Value)
  | [] => some []
  | x :: r => match ov N s x with
    | some v => match ovL N s r with
      | some vs => some (v :: vs)
      | none => none
    | none => none

theorem ovL_ok {N : Nat} {f : Nat → Value} {s : Sls} : ∀ {xs : List Operand} {vs : List Value}, ovL N s xs = some vs → evList (aeval (Fr N f s)) xs = some vs
  | [], vs, h => by simpa [ovL, evList] using h
  | x :: r, vs, h => by
    simp only [ovL] at h
    split at h
    · rename_i v hv
      split at h
      · rename_i ws hw
        cases h
        simp only [evList, ov_ok hv, Option.bind_some, ovL_ok hw, Option.map_some]
      · cases h
    · cases h

def Agr (f : Nat → Value) (s : Sls) : Sls → Prop
  | [] => True
  | (t, v) :: r => lkf f s t = v ∧ Agr f s r

theorem Agr.look {f : Nat → Value} {s : Sls} : ∀ {s' : Sls}, Agr f s s' → ∀ {t v}, look s' t = some v → lkf f s t = v
  | [], _, t, v, h => by cases h
  | (u, w) :: r, ha, t, v, h => by
    simp only [Go.Proofs.YtfchjhfccnodpaaGreat.look] at h
    split at h
    · rename_i hb
      cases h
      have := Nat.eq_of_beq_eq_true hb
      subst this
      exact ha.1
    · exact Agr.look ha.2 h

theorem Agr.frame {N : Nat} {f : Nat → Value} {s s' : Sls} (h : Agr f s s') : Fr N f s = Fr N (lkf f s) s' := by
  unfold Fr
  congr 1
  funext t
  show _ = lkf (lkf f s) s' t
  generalize hx : Go.Proofs.YtfchjhfccnodpaaGreat.look s' t = x
  cases x with
  | none => unfold lkf; rw [hx]
  | some v => rw [look_some hx]; exact h.look hx


def gset (g : Gm) (n : Nat) (o : AObj) : Gm := fun x => if x = n then some o else g x
theorem gs_same (g : Gm) (n : Nat) (o : AObj) : gset g n o n = some o := if_pos rfl
theorem gs_ne {g : Gm} {l n : Nat} (h : l ≠ n) (o : AObj) : gset g n o l = g l := if_neg h

def WF (g : Gm) (n : Nat) : Prop := ∀ l o, g l = some o → l < n


structure Cx where
  fn : Func
  N : Nat
  R : Value → Gm → Nat → Prop

inductive Fm where
  | sq (c : Code)
  | bl (id : Nat)
  | iv (I : Act → Heap → Prop)

def post (X : Cx) : List Fm → AQ
  | [] => aBody E6.P X.fn fun v σ => X.R v σ.get σ.nxt
  | .sq c :: k => aThen (AWP E6.P c (post X k)) (post X k)
  | .bl id :: k => aBlock id (post X k)
  | .iv I :: k => aThen I (post X k)

structure W (X : Cx) (k : List Fm) (c : Code) (f : Nat → Value) (s : Sls) (g : Gm) (m j : Nat) : Prop where
  out : AWP E6.P c (post X k) (Fr X.N f s) ⟨g, m + j⟩

structure Z (X : Cx) (k : List Fm) (f : Nat → Value) (s : Sls) (g : Gm) (m j : Nat) : Prop where
  out : post X k .normal (Fr X.N f s) ⟨g, m + j⟩

structure C (f : FuncId) (args : Array Value) (g : Gm) (n : Nat) (R : Value → Gm → Nat → Prop) : Prop where
  out : ACall E6.P f args ⟨g, n⟩ fun v σ => R v σ.get σ.nxt

theorem C.wf {f : FuncId} {args : Array Value} {g : Gm} {n : Nat} {R : Value → Gm → Nat → Prop} (h : WF g n → C f args g n R) : C f args g n R :=
  ⟨ACall.wf fun hw => (h hw).out⟩
theorem C.use {f : FuncId} {args : Array Value} {g : Gm} {n : Nat} {R R' : Value → Gm → Nat → Prop} (h : C f args g n R) (k : ∀ v g' n', WF g' n' → n ≤ n' → R v g' n' → R' v g' n') : C f args g n R' :=
  ⟨h.out.strong.mono fun v τ ⟨h1, h2, h3, _⟩ => k v τ.get τ.nxt h2 h3 h1⟩
theorem C.of {f : FuncId} {args : Array Value} {g : Gm} {n : Nat} {R : Value → Heap → Prop} {R' : Value → Gm → Nat → Prop} (h : ACall E6.P f args ⟨g, n⟩ R) (k : ∀ v τ, R v τ → R' v τ.get τ.nxt) : C f args g n R' := ⟨h.mono k⟩

section
variable {X : Cx} {k : List Fm} {f : Nat → Value} {s : Sls} {g : Gm} {m j : Nat}

theorem w_wf {c : Code} (h : WF g (m + j) → W X k c f s g m j) : W X k c f s g m j := ⟨awp_wf fun hw => (h hw).out⟩
theorem w_seq {x y : Code} (h : W X (.sq y :: k) x f s g m j) : W X k (.seq x y) f s g m j := ⟨awp_seq h.out⟩
theorem w_skip (h : Z X k f s g m j) : W X k .skip f s g m j := ⟨awp_skip h.out⟩
theorem w_label {l : Nat} (h : Z X k f s g m j) : W X k (.label l) f s g m j := ⟨awp_label h.out⟩
theorem w_blk {id : Nat} {c : Code} (h : W X (.bl id :: k) c f s g m j) : W X k (.block id c) f s g m j := ⟨awp_block h.out⟩
theorem w_if {c : Operand} {x y : Code} {b : Bool} (hc : ov X.N s c = some (.bool b)) (h1 : b = true → W X k x f s g m j) (h2 : b = false → W X k y f s g m j) : W X k (.cond c x y) f s g m j :=
  ⟨awp_if b (ov_ok hc) (fun h => (h1 h).out) (fun h => (h2 h).out)⟩
theorem w_yes {c : Operand} {x y : Code} {b : Bool} (hc : ov X.N s c = some (.bool b)) (hb : b = true) (h : W X k x f s g m j) : W X k (.cond c x y) f s g m j := by
  subst hb; exact ⟨awp_yes (ov_ok hc) h.out⟩
theorem w_no {c : Operand} {x y : Code} {b : Bool} (hc : ov X.N s c = some (.bool b)) (hb : b = false) (h : W X k y f s g m j) : W X k (.cond c x y) f s g m j := by
  subst hb; exact ⟨awp_no (ov_ok hc) h.out⟩

theorem z_seq {c : Code} (h : W X k c f s g m j) : Z X (.sq c :: k) f s g m j := ⟨h.out⟩
theorem z_blk {id : Nat} (h : Z X k f s g m j) : Z X (.bl id :: k) f s g m j := ⟨h.out⟩

theorem post_ret (a : Act) (σ : Heap) (h : post X [] .normal a σ) : ∀ k, post X k .ret a σ
  | [] => h
  | .sq c :: k => post_ret a σ h k
  | .bl id :: k => post_ret a σ h k
  | .iv I :: k => post_ret a σ h k
theorem w_ret (h : Z X [] f s g m j) : W X k .ret f s g m j := ⟨awp_ret (post_ret _ _ h.out k)⟩

def popTo (id : Nat) : List Fm → Option (List Fm)
  | [] => none
  | .sq _ :: k => popTo id k
  | .iv _ :: k => popTo id k
  | .bl i :: k => match Nat.beq id i with
    | true => some k
    | false => popTo id k

theorem post_exit {id : Nat} (a : Act) (σ : Heap) {k' : List Fm} (h : post X k' .normal a σ) : ∀ k, popTo id k = some k' → post X k (.exit id) a σ
  | [], hp => by cases hp
  | .sq c :: k, hp => post_exit a σ h k hp
  | .iv I :: k, hp => post_exit a σ h k hp
  | .bl i :: k, hp => by
    simp only [popTo] at hp
    split at hp
    · rename_i hb
      have := Nat.eq_of_beq_eq_true hb
      subst this
      cases hp
      simp only [post, aBlock, if_true]; exact h
    · rename_i hb
      have hne : id ≠ i := fun e => by subst e; rw [Nat.beq_refl] at hb; cases hb
      simp only [post, aBlock, if_neg hne]
      exact post_exit a σ h k hp
theorem w_exit {id : Nat} {k' : List Fm} (hp : popTo id k = some k') (h : Z X k' f s g m j) : W X k (.exit id) f s g m j := ⟨awp_exit (post_exit _ _ h.out k hp)⟩


def LI {β : Type} (N : Nat) (st : β → Sls) (I : β → Gm → Nat → Prop) (μ : β → Nat) (b : β) (a : Act) (σ : Heap) : Prop :=
  ∃ b' f', a = Fr N f' (st b') ∧ I b' σ.get σ.nxt ∧ μ b' < μ b

theorem w_loop {c : Code} {β : Type} (st : β → Sls) (I : β → Gm → Nat → Prop) (μ : β → Nat) (b₀ : β) (hs : Agr f s (st b₀)) (hI : I b₀ g (m + j))
    (round : ∀ b f g n, WF g n → I b g n → W X (.iv (LI X.N st I μ b) :: k) c f (st b) g n 0) : W X k (.loop c) f s g m j := by
  refine ⟨awp_loop (β := β) (fun b a σ => ∃ f', a = Fr X.N f' (st b) ∧ I b σ.get σ.nxt) μ b₀ ⟨_, hs.frame, hI⟩ ?_⟩
  rintro b a σ ⟨f', rfl, h2⟩
  refine awp_wf fun hw => ((round b f' σ.get σ.nxt hw h2).out).mono fun e a σ h => ?_
  cases e with
  | normal => obtain ⟨b', f'', h3, h4, h5⟩ := h; exact ⟨b', ⟨f'', h3, h4⟩, h5⟩
  | exit id => exact h
  | goto l => exact h
  | ret => exact h
  | panic ch => exact h
  | outgrown => exact h

theorem z_round {β : Type} {st : β → Sls} {I : β → Gm → Nat → Prop} {μ : β → Nat} {b : β} (b' : β) (hs : Agr f s (st b')) (hI : I b' g (m + j)) (hm : μ b' < μ b) : Z X (.iv (LI X.N st I μ b) :: k) f s g m j :=
  ⟨⟨b', _, hs.frame, hI, hm⟩⟩

def MT {β : Type} (N : Nat) (st : β → Sls) (I : β → Gm → Nat → Prop) (a : Act) (σ : Heap) : Prop := ∃ b f', a = Fr N f' (st b) ∧ I b σ.get σ.nxt

theorem z_meet {β : Type} (st : β → Sls) (I : β → Gm → Nat → Prop) {c y : Code} (h1 : W X (.iv (MT X.N st I) :: k) c f s g m j) (h2 : ∀ b f g n, WF g n → I b g n → W X k y f (st b) g n 0) : W X (.sq y :: k) c f s g m j := by
  refine ⟨h1.out.mono fun e a σ h => ?_⟩
  cases e with
  | normal =>
    obtain ⟨b, f', rfl, h4⟩ := h
    exact awp_wf fun hw => (h2 b f' σ.get σ.nxt hw h4).out
  | exit id => exact h
  | goto l => exact h
  | ret => exact h
  | panic ch => exact h
  | outgrown => exact h
theorem z_met {β : Type} {st : β → Sls} {I : β → Gm → Nat → Prop} (b : β) (hs : Agr f s (st b)) (hI : I b g (m + j)) : Z X (.iv (MT X.N st I) :: k) f s g m j := ⟨⟨b, _, hs.frame, hI⟩⟩


theorem z_r0 (hr : X.fn.results = #[]) (h : X.R (.tuple #[]) g (m + j)) : Z X [] f s g m j :=
  ⟨⟨rfl, _, by unfold aRes; rw [hr]; rfl, h⟩⟩
theorem look_get {N t : Nat} {v : Value} (ht : ov N s (.tmp t) = some v) : (Fr N f s).tmps.getD t undef = v := by
  have := ov_ok (f := f) ht
  simpa [aeval] using this
theorem z_r1 {t : Nat} {v : Value} (hr : X.fn.results = #[.tmp t]) (ht : ov X.N s (.tmp t) = some v) (h : X.R v g (m + j)) : Z X [] f s g m j :=
  ⟨⟨rfl, v, by unfold aRes; rw [hr]; simp only [aResL, aRes1, look_get ht, Option.bind_some, Option.map_some, aOne], h⟩⟩
theorem z_r2 {t u : Nat} {v w : Value} (hr : X.fn.results = #[.tmp t, .tmp u]) (ht : ov X.N s (.tmp t) = some v) (hu : ov X.N s (.tmp u) = some w) (h : X.R (.tuple #[v, w]) g (m + j)) : Z X [] f s g m j :=
  ⟨⟨rfl, _, by unfold aRes; rw [hr]; simp only [aResL, aRes1, look_get ht, look_get hu, Option.bind_some, Option.map_some, aOne], h⟩⟩
theorem z_rc {t T z o l : Nat} {c : List Value} {sz : Nat} {ro : Bool} {c' : List Value} (hr : X.fn.results = #[.cell t T]) (ht : ov X.N s (.tmp t) = some (.pointer (some ⟨l, o, none⟩))) (hg : g l = some (.cells c sz ro))
    (ha : aggO E6.P T = some true) (hz : szO E6.P T = some z) (hc : (c.drop o).take z = c') (hl : o + z ≤ c.length) (h : X.R (.agg c'.toArray) g (m + j)) : Z X [] f s g m j := by
  subst hc
  exact ⟨⟨rfl, _, by unfold aRes; rw [hr]; simp only [aResL, aRes1, look_get ht, hg, partO, ha, hz, Option.bind_some, if_pos hl, Option.map_some, aOne], h⟩⟩
theorem z_rc1 {t T z o l u : Nat} {c : List Value} {sz : Nat} {ro : Bool} {c' : List Value} {w : Value} (hr : X.fn.results = #[.cell t T, .tmp u]) (ht : ov X.N s (.tmp t) = some (.pointer (some ⟨l, o, none⟩))) (hu : ov X.N s (.tmp u) = some w) (hg : g l = some (.cells c sz ro))
    (ha : aggO E6.P T = some true) (hz : szO E6.P T = some z) (hc : (c.drop o).take z = c') (hl : o + z ≤ c.length) (h : X.R (.tuple #[.agg c'.toArray, w]) g (m + j)) : Z X [] f s g m j := by
  subst hc
  exact ⟨⟨rfl, _, by unfold aRes; rw [hr]; simp only [aResL, aRes1, look_get ht, look_get hu, hg, partO, ha, hz, Option.bind_some, if_pos hl, Option.map_some, aOne], h⟩⟩

end


section
variable {f : FuncId} {fn : Func} {c : Code} {N : Nat} {g : Gm} {n : Nat} {R : Value → Gm → Nat → Prop}

theorem lkf_nil (f : Nat → Value) : lkf f [] = f := rfl

theorem c_in0 (hf : E6.P.funcs[f]? = some fn) (hb : fn.body = some c) (hn : fn.ntmps = N) (h : WF g n → W ⟨fn, N, R⟩ [] c U0 [] g n 0) : C f #[] g n R := by
  refine C.wf fun hw => ⟨acall hf hb ?_⟩
  have := (h hw).out
  rw [show aEntry fn #[] = Fr N U0 [] from by rw [aEntry_AA hn (by simp)]; unfold Fr; congr 1]
  exact this
theorem c_in1 (hf : E6.P.funcs[f]? = some fn) (hb : fn.body = some c) (hn : fn.ntmps = N) (hN : Nat.ble 1 N = true) {a : Value} (h : WF g n → W ⟨fn, N, R⟩ [] c U0 [(0, a)] g n 0) : C f #[a] g n R := by
  refine C.wf fun hw => ⟨acall hf hb ?_⟩
  have := (h hw).out
  rw [show aEntry fn #[a] = Fr N U0 [(0, a)] from by
    rw [aEntry_AA hn (by simpa using Nat.le_of_ble_eq_true hN)]; unfold Fr; congr 1; funext t
    rw [lkf_cons, lkf_nil]; rcases t with _ | t <;> simp [fset, U0]]
  exact this
theorem c_in2 (hf : E6.P.funcs[f]? = some fn) (hb : fn.body = some c) (hn : fn.ntmps = N) (hN : Nat.ble 2 N = true) {a b : Value} (h : WF g n → W ⟨fn, N, R⟩ [] c U0 [(0, a), (1, b)] g n 0) : C f #[a, b] g n R := by
  refine C.wf fun hw => ⟨acall hf hb ?_⟩
  have := (h hw).out
  rw [show aEntry fn #[a, b] = Fr N U0 [(0, a), (1, b)] from by
    rw [aEntry_AA hn (by simpa using Nat.le_of_ble_eq_true hN)]; unfold Fr; congr 1; funext t
    rw [lkf_cons, lkf_cons, lkf_nil]; rcases t with _ | _ | t <;> simp [fset, U0]]
  exact this
theorem c_in3 (hf : E6.P.funcs[f]? = some fn) (hb : fn.body = some c) (hn : fn.ntmps = N) (hN : Nat.ble 3 N = true) {a b d : Value} (h : WF g n → W ⟨fn, N, R⟩ [] c U0 [(0, a), (1, b), (2, d)] g n 0) : C f #[a, b, d] g n R := by
  refine C.wf fun hw => ⟨acall hf hb ?_⟩
  have := (h hw).out
  rw [show aEntry fn #[a, b, d] = Fr N U0 [(0, a), (1, b), (2, d)] from by
    rw [aEntry_AA hn (by simpa using Nat.le_of_ble_eq_true hN)]; unfold Fr; congr 1; funext t
    rw [lkf_cons, lkf_cons, lkf_cons, lkf_nil]; rcases t with _ | _ | _ | t <;> simp [fset, U0]]
  exact this
theorem c_in4 (hf : E6.P.funcs[f]? = some fn) (hb : fn.body = some c) (hn : fn.ntmps = N) (hN : Nat.ble 4 N = true) {a b d e : Value} (h : WF g n → W ⟨fn, N, R⟩ [] c U0 [(0, a), (1, b), (2, d), (3, e)] g n 0) : C f #[a, b, d, e] g n R := by
  refine C.wf fun hw => ⟨acall hf hb ?_⟩
  have := (h hw).out
  rw [show aEntry fn #[a, b, d, e] = Fr N U0 [(0, a), (1, b), (2, d), (3, e)] from by
    rw [aEntry_AA hn (by simpa using Nat.le_of_ble_eq_true hN)]; unfold Fr; congr 1; funext t
    rw [lkf_cons, lkf_cons, lkf_cons, lkf_cons, lkf_nil]; rcases t with _ | _ | _ | _ | t <;> simp [fset, U0]]
  exact this
end

end Go.Proofs.YtfchjhfccnodpaaGreat
end

section
namespace Go.Proofs.YtfchjhfccnodpaaGreat
set_option linter.unusedSimpArgs false
set_option linter.unusedVariables false
set_option maxRecDepth 100000


structure RN (X : Cx) (k : List Fm) (ops : Array Oper) (m₀ j₀ i : Nat) (os : List Oper) (f : Nat → Value) (s : Sls) (g : Gm) (m j : Nat) : Prop where
  out : (∀ x o, os[x]? = some o → ops[i + x]? = some o) → runL E6 ops (m₀ + j₀) (List.range' i os.length) (Fr X.N f s) ⟨g, m + j⟩ (post X k .normal)

structure RD (X : Cx) (k : List Fm) (ops : Array Oper) (m₀ j₀ : Nat) (L : List (Nat × List Nat)) (D : List Rec) (f : Nat → Value) (s : Sls) (g : Gm) (m j : Nat) : Prop where
  out : ∀ (dep : Dep) (pre : List Nat) (D' : List Rec), planOkB ops dep pre L = true → Slim ops pre D D' → runD E6 ops (m₀ + j₀) dep (L.map (·.1)) D' (Fr X.N f s) ⟨g, m + j⟩ (post X k .normal)

structure ST (N : Nat) (f : Nat → Value) (s : Sls) (g : Gm) (n nm : Nat) (o : Oper) (k : Sls → Gm → List Nat → List Nat → Prop) : Prop where
  out : stepG E6 (Fr N f s) ⟨g, n⟩ nm o fun a σ t w => ∃ s' g', a = Fr N f s' ∧ σ = ⟨g', n⟩ ∧ k s' g' t w

def nth : List Oper → Nat → Option Oper
  | [], _ => none
  | o :: _, 0 => some o
  | _ :: r, i + 1 => nth r i
theorem nth_eq : ∀ (l : List Oper) (i : Nat), nth l i = l[i]?
  | [], i => by simp [nth]
  | o :: r, 0 => by simp [nth]
  | o :: r, i + 1 => by simp only [nth, List.getElem?_cons_succ]; exact nth_eq r i
theorem nth_ok {ops : Array Oper} {i : Nat} {o : Oper} (h : nth ops.toList i = some o) : ops[i]? = some o := by
  rw [nth_eq] at h; simpa using h
def gdL (l : List Oper) (j : Nat) : Option Tmp := match nth l j with
  | some o => o.dst
  | none => none
theorem gdL_ok {ops : Array Oper} {j : Nat} {d : Tmp} (h : gdL ops.toList j = some d) : gdst ops j = some d := by
  unfold gdL at h
  split at h
  · rename_i o ho
    unfold gdst
    rw [nth_ok ho]; exact h
  · cases h

inductive GT (N : Nat) (ops : Array Oper) (s : Sls) : Option (Nat × Bool) → Prop where
  | no : GT N ops s none
  | yes {j d : Nat} {b t : Bool} : gdL ops.toList j = some d → ov N s (.tmp d) = some (.bool t) → t = b → GT N ops s (some (j, b))

section
variable {X : Cx} {k : List Fm} {f : Nat → Value} {s : Sls} {g : Gm} {m j m₀ j₀ i : Nat} {ops : Array Oper}

theorem GT.ok {N : Nat} {gd : Option (Nat × Bool)} {o : Oper} (h : GT N ops s gd) (hg : o.guard = gd) : Region.wanted o (yielded ops (Fr N f s).tmps) = true := by
  cases h with
  | no => simp [Region.wanted, hg]
  | yes h1 h2 h3 =>
    rw [guard_yield hg (gdL_ok h1) (ov_ok h2) rfl, h3]
    simp

theorem GT.ok' {N : Nat} {dst : Option Tmp} {op : Op} {ty : TypeId} {pos : String} {af : Array Edge} {gd : Option (Nat × Bool)} (h : GT N ops s gd) : Region.wanted ⟨dst, op, ty, pos, af, gd⟩ (yielded ops (Fr N f s).tmps) = true := h.ok rfl

theorem bump_mk (g : Gm) (m j c : Nat) : (Heap.mk g (m + j)).bump c = ⟨g, m + (j + c)⟩ := by simp [Heap.bump, Nat.add_assoc]

theorem w_reg {id : Nat} {j' : Nat} (c : Nat) (hc : Nat.beq ops.size c = true) (hj : j + c = j') (h : RN X k ops m j 0 ops.toList f s g m j') : W X k (.region id ops false) f s g m j := by
  have hc := Nat.eq_of_beq_eq_true hc
  subst hc
  subst hj
  refine ⟨awp_region envOk6 ?_⟩
  have := h.out (fun x o hx => by simpa using hx)
  rw [Array.length_toList, ← List.range_eq_range'] at this
  rw [bump_mk]
  exact this

theorem w_drw {id : Nat} {j' : Nat} (t : List Nat × List (List Nat)) (pl : List (Nat × List Nat)) (c : Nat) (hp : drawPlanB ops t pl = true) (hc : Nat.beq ops.size c = true) (hj : j + c = j') (h : RD X k ops m j pl [] f s g m j') : W X k (.region id ops true) f s g m j := by
  have hc := Nat.eq_of_beq_eq_true hc
  subst hc
  subst hj
  simp only [drawPlanB, Bool.and_eq_true, beq_iff_eq] at hp
  obtain ⟨⟨h1, h2⟩, h3⟩ := hp
  refine ⟨awp_draw envOk6 mixed6 (drawOkB_sound h1) ?_⟩
  rw [← h3, bump_mk]
  exact h.out _ [] [] h2 (fun d hd => by cases hd)

theorem n_nil (h : Z X k f s g m j) : RN X k ops m₀ j₀ i [] f s g m j := ⟨fun _ => h.out⟩
theorem d_nil {D : List Rec} (h : Z X k f s g m j) : RD X k ops m₀ j₀ [] D f s g m j := ⟨fun _ _ _ _ _ => h.out⟩

theorem rn_here {o : Oper} {os : List Oper} (h : ∀ x p, (o :: os)[x]? = some p → ops[i + x]? = some p) : ops[i]? = some o := by
  have := h 0 o rfl
  simpa using this
theorem rn_rest {o : Oper} {os : List Oper} (h : ∀ x p, (o :: os)[x]? = some p → ops[i + x]? = some p) : ∀ x p, os[x]? = some p → ops[i + 1 + x]? = some p := fun x p hx => by
  have := h (x + 1) p (by simpa using hx)
  rwa [show i + (x + 1) = i + 1 + x by omega] at this

section
variable {dst : Option Tmp} {op : Op} {ty : TypeId} {pos : String} {af : Array Edge} {gd : Option (Nat × Bool)} {os : List Oper} {q : Nat}

theorem n_op (hg : GT X.N ops s gd) (hq : j₀ + i = q) (h : ST X.N f s g (m + j) (m₀ + q) ⟨dst, op, ty, pos, af, gd⟩ fun s g _ _ => RN X k ops m₀ j₀ (i + 1) os f s g m j) :
    RN X k ops m₀ j₀ i (⟨dst, op, ty, pos, af, gd⟩ :: os) f s g m j := by
  subst hq
  refine ⟨fun hops => ?_⟩
  obtain ⟨p, eff, h1, h2, h3, s', g', h4, h5, h6⟩ := h.out
  rw [← Nat.add_assoc] at h2 h5
  rw [List.length_cons, List.range'_succ]
  refine runL_prim (rn_here hops) hg.ok' h1 h2 h3 ?_
  rw [h4, h5]
  exact h6.out (rn_rest hops)

theorem n_sk {jg d : Nat} {b t : Bool} {dd : Tmp} (hd : gdL ops.toList jg = some d) (hv : ov X.N s (.tmp d) = some (.bool t)) (hb : t = !b) (h : RN X k ops m₀ j₀ (i + 1) os f ((dd, undef) :: s) g m j) :
    RN X k ops m₀ j₀ i (⟨some dd, op, ty, pos, af, some (jg, b)⟩ :: os) f s g m j := by
  refine ⟨fun hops => ?_⟩
  rw [List.length_cons, List.range'_succ]
  have ho := rn_here hops
  simp only [runL, ho]
  rw [if_neg (by rw [guard_yield rfl (gdL_ok hd) (ov_ok hv) rfl, hb]; cases b <;> simp), Fr_put]
  exact h.out (rn_rest hops)
theorem n_sk0 {jg d : Nat} {b t : Bool} (hd : gdL ops.toList jg = some d) (hv : ov X.N s (.tmp d) = some (.bool t)) (hb : t = !b) (h : RN X k ops m₀ j₀ (i + 1) os f s g m j) :
    RN X k ops m₀ j₀ i (⟨none, op, ty, pos, af, some (jg, b)⟩ :: os) f s g m j := by
  refine ⟨fun hops => ?_⟩
  rw [List.length_cons, List.range'_succ]
  have ho := rn_here hops
  simp only [runL, ho]
  rw [if_neg (by rw [guard_yield rfl (gdL_ok hd) (ov_ok hv) rfl, hb]; cases b <;> simp), Fr_put0]
  exact h.out (rn_rest hops)

theorem n_call {fid : FuncId} {args : Array Operand} {ts : Array TypeId} {d : Tmp} {vs : List Value} (hg : GT X.N ops s gd) (hx : E6.X fid = none) (hb : E6.B fid = true) (ha : ovL X.N s args.toList = some vs)
    (h : C fid vs.toArray g (m + j) fun v g' n' => RN X k ops m₀ j₀ (i + 1) os f ((d, v) :: s) g' n' 0) :
    RN X k ops m₀ j₀ i (⟨some d, .call ⟨.value (.func fid), args, ts⟩, ty, pos, af, gd⟩ :: os) f s g m j := by
  refine ⟨fun hops => ?_⟩
  rw [List.length_cons, List.range'_succ]
  have hc : aop E6 (aeval (Fr X.N f s)) ⟨some d, .call ⟨.value (.func fid), args, ts⟩, ty, pos, af, gd⟩ = some (.call fid vs.toArray) := by
    simp only [aop, aCall, ovL_ok ha, Option.bind_some, aeval, hx, hb, if_true]
    simp
  have ho := rn_here hops
  simp only [runL, ho, if_pos hg.ok', hc]
  refine h.out.mono fun v τ hv => ?_
  rw [Fr_put]
  exact hv.out (rn_rest hops)

def catF : List Value → List Value → Option (List Value)
  | [], b => some b
  | x :: a, b => match catF a b with
    | some q => some (x :: q)
    | none => none
theorem catF_ok : ∀ {a b q : List Value}, catF a b = some q → a ++ b = q
  | [], b, q, h => by simpa [catF] using h
  | x :: a, b, q, h => by
    simp only [catF] at h
    split at h
    · rename_i r hr
      cases h
      rw [List.cons_append, catF_ok hr]
    · cases h

theorem n_callv {x : Operand} {fid : FuncId} {fs cs : Array Value} {args : Array Operand} {ts : Array TypeId} {d : Tmp} {vs us ws : List Value} (hg : GT X.N ops s gd) (hf : ov X.N s x = some (.func (.func fid) fs cs)) (hx : E6.X fid = none) (hb : E6.B fid = true) (ha : ovL X.N s args.toList = some vs)
    (hu : catF vs cs.toList = some us) (hw : catF fs.toList us = some ws) (h : C fid ws.toArray g (m + j) fun v g' n' => RN X k ops m₀ j₀ (i + 1) os f ((d, v) :: s) g' n' 0) :
    RN X k ops m₀ j₀ i (⟨some d, .call ⟨.value x, args, ts⟩, ty, pos, af, gd⟩ :: os) f s g m j := by
  have hw : fs.toList ++ vs ++ cs.toList = ws := by rw [List.append_assoc, catF_ok hu, catF_ok hw]
  subst hw
  refine ⟨fun hops => ?_⟩
  rw [List.length_cons, List.range'_succ]
  have hc : aop E6 (aeval (Fr X.N f s)) ⟨some d, .call ⟨.value x, args, ts⟩, ty, pos, af, gd⟩ = some (.call fid (fs.toList ++ vs ++ cs.toList).toArray) := by
    simp only [aop, aCall, ovL_ok ha, Option.bind_some, ov_ok hf, hx, hb, if_true]
    congr 2
    simp
  have ho := rn_here hops
  simp only [runL, ho, if_pos hg.ok', hc]
  refine h.out.mono fun v τ hv => ?_
  rw [Fr_put]
  exact hv.out (rn_rest hops)

variable {lo : List Nat} {L : List (Nat × List Nat)} {D : List Rec}

theorem d_op (ho : nth ops.toList i = some ⟨dst, op, ty, pos, af, gd⟩) (ht : touches ⟨dst, op, ty, pos, af, gd⟩ = false) (hg : GT X.N ops s gd) (hq : j₀ + i = q)
    (h : ST X.N f s g (m + j) (m₀ + q) ⟨dst, op, ty, pos, af, gd⟩ fun s g t w => (t = [] ∧ w = []) ∧ RD X k ops m₀ j₀ L D f s g m j) : RD X k ops m₀ j₀ ((i, lo) :: L) D f s g m j := by
  subst hq
  replace ho := nth_ok ho
  refine ⟨fun dep pre D' hpl hS => ?_⟩
  obtain ⟨hp, hpl2⟩ := plan_lo hpl
  obtain ⟨p, eff, h1, h2, h3, s', g', h4, h5, ⟨h6, h7⟩, h8⟩ := h.out
  rw [← Nat.add_assoc] at h2 h5 h6 h7
  have hk : touchT ⟨dst, op, ty, pos, af, gd⟩ i lo D (tchOf p eff (m₀ + j₀ + i)) (wrtOf eff (m₀ + j₀ + i)) fun D => RD X k ops m₀ j₀ L D f s' g' m j := by
    unfold touchT cases2
    rw [ht]
    exact ⟨⟨h6, h7⟩, h8⟩
  obtain ⟨h9, D₁, h10, h11⟩ := touch_ok ho hS hp (touchT_ok hk)
  simp only [List.map_cons, runD, ho, if_pos hg.ok', aop_evOf, h1, h2]
  refine ⟨h3, h9, ?_⟩
  rw [h4, h5]
  exact h10.out dep (i :: pre) _ hpl2 h11

theorem d_al (ho : nth ops.toList i = some ⟨dst, op, ty, pos, af, gd⟩) (ht : touches ⟨dst, op, ty, pos, af, gd⟩ = true) (hk2 : kindOf ⟨dst, op, ty, pos, af, gd⟩ = 2) (hg : GT X.N ops s gd) (hq : j₀ + i = q)
    (h : ST X.N f s g (m + j) (m₀ + q) ⟨dst, op, ty, pos, af, gd⟩ fun s g t w => RD X k ops m₀ j₀ L (⟨i, t, w, true⟩ :: D) f s g m j) : RD X k ops m₀ j₀ ((i, lo) :: L) D f s g m j := by
  subst hq
  replace ho := nth_ok ho
  refine ⟨fun dep pre D' hpl hS => ?_⟩
  obtain ⟨hp, hpl2⟩ := plan_lo hpl
  obtain ⟨p, eff, h1, h2, h3, s', g', h4, h5, h8⟩ := h.out
  rw [← Nat.add_assoc] at h2 h5 h8
  have hk : touchT ⟨dst, op, ty, pos, af, gd⟩ i lo D (tchOf p eff (m₀ + j₀ + i)) (wrtOf eff (m₀ + j₀ + i)) fun D => RD X k ops m₀ j₀ L D f s' g' m j := by
    unfold touchT cases2
    rw [ht]
    refine ⟨?_, ?_⟩
    · rw [if_pos hk2]; trivial
    · rw [hk2]; exact h8
  obtain ⟨h9, D₁, h10, h11⟩ := touch_ok ho hS hp (touchT_ok hk)
  simp only [List.map_cons, runD, ho, if_pos hg.ok', aop_evOf, h1, h2]
  refine ⟨h3, h9, ?_⟩
  rw [h4, h5]
  exact h10.out dep (i :: pre) _ hpl2 h11

theorem d_tc (ho : nth ops.toList i = some ⟨dst, op, ty, pos, af, gd⟩) (ht : touches ⟨dst, op, ty, pos, af, gd⟩ = true) (hk2 : Nat.beq (kindOf ⟨dst, op, ty, pos, af, gd⟩) 2 = false) (hg : GT X.N ops s gd) (hq : j₀ + i = q)
    (h : ST X.N f s g (m + j) (m₀ + q) ⟨dst, op, ty, pos, af, gd⟩ fun s g t w => clashS lo t w D ∧ RD X k ops m₀ j₀ L (⟨i, t, w, false⟩ :: D) f s g m j) : RD X k ops m₀ j₀ ((i, lo) :: L) D f s g m j := by
  subst hq
  replace ho := nth_ok ho
  refine ⟨fun dep pre D' hpl hS => ?_⟩
  obtain ⟨hp, hpl2⟩ := plan_lo hpl
  obtain ⟨p, eff, h1, h2, h3, s', g', h4, h5, h7, h8⟩ := h.out
  rw [← Nat.add_assoc] at h2 h5 h7 h8
  have hk : touchT ⟨dst, op, ty, pos, af, gd⟩ i lo D (tchOf p eff (m₀ + j₀ + i)) (wrtOf eff (m₀ + j₀ + i)) fun D => RD X k ops m₀ j₀ L D f s' g' m j := by
    have hne : kindOf ⟨dst, op, ty, pos, af, gd⟩ ≠ 2 := fun e => by rw [e] at hk2; cases hk2
    unfold touchT cases2
    rw [ht]
    refine ⟨?_, ?_⟩
    · rw [if_neg hne]; exact h7
    · rw [beq_eq_false_iff_ne.2 hne]; exact h8
  obtain ⟨h9, D₁, h10, h11⟩ := touch_ok ho hS hp (touchT_ok hk)
  simp only [List.map_cons, runD, ho, if_pos hg.ok', aop_evOf, h1, h2]
  refine ⟨h3, h9, ?_⟩
  rw [h4, h5]
  exact h10.out dep (i :: pre) _ hpl2 h11

theorem d_sk {jg d : Nat} {b t : Bool} {dd : Tmp} (ho : nth ops.toList i = some ⟨some dd, op, ty, pos, af, some (jg, b)⟩) (hd : gdL ops.toList jg = some d) (hv : ov X.N s (.tmp d) = some (.bool t)) (hb : t = !b) (h : RD X k ops m₀ j₀ L D f ((dd, undef) :: s) g m j) :
    RD X k ops m₀ j₀ ((i, lo) :: L) D f s g m j := by
  replace ho := nth_ok ho
  refine ⟨fun dep pre D' hpl hS => ?_⟩
  obtain ⟨hp, hpl2⟩ := plan_lo hpl
  simp only [List.map_cons, runD, ho]
  rw [if_neg (by rw [guard_yield rfl (gdL_ok hd) (ov_ok hv) rfl, hb]; cases b <;> simp), Fr_put]
  exact h.out dep (i :: pre) _ hpl2 hS.grow

theorem d_call {fid : FuncId} {args : Array Operand} {ts : Array TypeId} {d : Tmp} {vs : List Value} (ho : nth ops.toList i = some ⟨some d, .call ⟨.value (.func fid), args, ts⟩, ty, pos, af, gd⟩) (hg : GT X.N ops s gd) (hx : E6.X fid = none) (hb : E6.B fid = true) (ha : ovL X.N s args.toList = some vs) (hf : callS lo D)
    (h : C fid vs.toArray g (m + j) fun v g' n' => keptS lo ⟨g, 0⟩ ⟨g', 0⟩ D ∧ RD X k ops m₀ j₀ L D f ((d, v) :: s) g' n' 0) : RD X k ops m₀ j₀ ((i, lo) :: L) D f s g m j := by
  replace ho := nth_ok ho
  refine ⟨fun dep pre D' hpl hS => ?_⟩
  obtain ⟨hp, hpl2⟩ := plan_lo hpl
  have hc : aop E6 (aeval (Fr X.N f s)) ⟨some d, .call ⟨.value (.func fid), args, ts⟩, ty, pos, af, gd⟩ = some (.call fid vs.toArray) := by
    simp only [aop, aCall, ovL_ok ha, Option.bind_some, aeval, hx, hb, if_true]
    simp
  have hkept : ∀ {σ τ : Heap} {D : List Rec}, keptS lo ⟨σ.get, 0⟩ ⟨τ.get, 0⟩ D → keptS lo σ τ D := by
    intro σ τ D
    induction D with
    | nil => exact id
    | cons d D ih =>
      intro h
      refine ⟨?_, ih h.2⟩
      have sa : ∀ l, sameAt ⟨σ.get, 0⟩ ⟨τ.get, 0⟩ l → sameAt σ τ l := by
        intro l
        induction l with
        | nil => exact id
        | cons x l ih => intro h; exact ⟨h.1, ih h.2⟩
      have h1 : cases2 (memN d.i lo) (cases2 d.alloc True (sameAt ⟨σ.get, 0⟩ ⟨τ.get, 0⟩ d.tch)) True := h.1
      show cases2 (memN d.i lo) (cases2 d.alloc True (sameAt σ τ d.tch)) True
      cases hm : memN d.i lo with
      | false => trivial
      | true =>
        rw [hm] at h1
        cases ha : d.alloc with
        | true => trivial
        | false => rw [ha] at h1; exact sa _ h1
  simp only [List.map_cons, runD, ho, if_pos hg.ok', aop_evOf, hc]
  refine ⟨call_of hS hp hf, h.out.mono fun v τ hv => ⟨kept_of hS hp (hkept hv.1), ?_⟩⟩
  rw [Fr_put]
  exact hv.2.out dep (i :: pre) _ hpl2 hS.grow

theorem clash_nil {t w : List Nat} : ∀ {D : List Rec}, clashS [] t w D
  | [] => trivial
  | d :: D => ⟨trivial, clash_nil⟩
theorem call_nil : ∀ {D : List Rec}, callS [] D
  | [] => trivial
  | d :: D => ⟨trivial, call_nil⟩
theorem kept_nil {σ τ : Heap} : ∀ {D : List Rec}, keptS [] σ τ D
  | [] => trivial
  | d :: D => ⟨trivial, kept_nil⟩
def allRd : List Rec → Bool
  | [] => true
  | d :: D => match d.wrt with
    | [] => allRd D
    | _ :: _ => false
theorem clash_rd {t : List Nat} : ∀ {D : List Rec}, allRd D = true → clashS lo t [] D
  | [], _ => trivial
  | d :: D, h => by
    simp only [allRd] at h
    split at h
    · rename_i hd
      refine ⟨?_, clash_rd h⟩
      unfold cases2
      split
      · rw [hd]; exact ⟨trivial, trivial⟩
      · trivial
    · cases h
theorem call_rd : ∀ {D : List Rec}, allRd D = true → callS lo D
  | [], _ => trivial
  | d :: D, h => by
    simp only [allRd] at h
    split at h
    · rename_i hd
      refine ⟨?_, call_rd h⟩
      unfold cases2
      split
      · exact .inr hd
      · trivial
    · cases h

end
end


theorem st_val {N : Nat} {f : Nat → Value} {s : Sls} {g : Gm} {n nm : Nat} {o : Oper} {k : Sls → Gm → List Nat → List Nat → Prop} {d : Tmp} {v : Value} (hd : o.dst = some d) (h : aop E6 (aeval (Fr N f s)) o = some (.prim (.ofVal v)))
    (hk : k ((d, v) :: s) g [] []) : ST N f s g n nm o k :=
  ⟨stepG_val h ⟨_, _, by rw [hd, Fr_put], rfl, hk⟩⟩

section
variable {N : Nat} {f : Nat → Value} {s : Sls} {g : Gm} {n nm : Nat} {k : Sls → Gm → List Nat → List Nat → Prop} {d : Tmp} {ty : TypeId} {pos : String} {af : Array Edge} {gd : Option (Nat × Bool)}

theorem s_mv {x : Operand} {v : Value} (hx : ov N s x = some v) (hk : k ((d, v) :: s) g [] []) : ST N f s g n nm ⟨some d, .move x, ty, pos, af, gd⟩ k :=
  st_val rfl (by simp only [aop, ov_ok hx, Option.map_some]) hk
theorem s_as {x : Operand} {v : Value} (hx : ov N s x = some v) (hk : k ((d, v) :: s) g [] []) : ST N f s g n nm ⟨some d, .assign x, ty, pos, af, gd⟩ k :=
  st_val rfl (by simp only [aop, ov_ok hx, Option.map_some]) hk
theorem s_pt {c x y : Operand} {t : Bool} {v : Value} (hc : ov N s c = some (.bool t)) (ht : t = true) (hx : ov N s x = some v) (hk : k ((d, v) :: s) g [] []) : ST N f s g n nm ⟨some d, .pick c x y, ty, pos, af, gd⟩ k := by
  subst ht
  exact st_val rfl (by simp only [aop, ov_ok hc, ov_ok hx, Option.bind_some, if_true, Option.map_some]) hk
theorem s_pf {c x y : Operand} {t : Bool} {v : Value} (hc : ov N s c = some (.bool t)) (ht : t = false) (hx : ov N s y = some v) (hk : k ((d, v) :: s) g [] []) : ST N f s g n nm ⟨some d, .pick c x y, ty, pos, af, gd⟩ k := by
  subst ht
  exact st_val rfl (by simp only [aop, ov_ok hc, ov_ok hx, Option.bind_some, Bool.false_eq_true, if_false, Option.map_some]) hk
theorem s_nil {x : Operand} {l o : Nat} (hx : ov N s x = some (.pointer (some ⟨l, o, none⟩))) (hk : k ((d, .pointer (some ⟨l, o, none⟩)) :: s) g [] []) : ST N f s g n nm ⟨some d, .nilCheck x, ty, pos, af, gd⟩ k :=
  st_val rfl (by simp only [aop, aNil, ov_ok hx, Option.bind_some, Option.map_some]) hk

def zeroL (P : Program) (t : TypeId) : Option (List Value) := (zeroP P t).map (·.cells.toList)

theorem s_al {t : TypeId} {z : List Value} (hz : zeroL E6.P t = some z) (hk : k ((d, .pointer (some ⟨nm, 0, none⟩)) :: s) (gset g nm (.cells z 0 false)) [nm] [nm]) : ST N f s g n nm ⟨some d, .alloc t, ty, pos, af, gd⟩ k := by
  obtain ⟨v, h1, rfl⟩ := Option.map_eq_some_iff.1 hz
  exact ⟨Prim.newCells v.cells.toList 0, ⟨.pointer (some ⟨nm, 0, none⟩), none, some (.cells v.cells.toList 0 false)⟩, by simp only [aop, h1, Option.map_some], rfl, rfl, _, _, Fr_put _ _ _ _ _, rfl, hk⟩
theorem s_box {t : TypeId} {x : Operand} {v : Value} (hx : ov N s x = some v) (hv : v.cells = #[v]) (hk : k ((d, .pointer (some ⟨nm, 0, none⟩)) :: s) (gset g nm (.cells [v] 0 false)) [nm] [nm]) : ST N f s g n nm ⟨some d, .box t x, ty, pos, af, gd⟩ k :=
  ⟨Prim.newCells v.cells.toList 0, ⟨.pointer (some ⟨nm, 0, none⟩), none, some (.cells v.cells.toList 0 false)⟩, by simp only [aop, ov_ok hx, Option.map_some], rfl, rfl, _, _, Fr_put _ _ _ _ _, by rw [hv]; rfl, hk⟩
theorem s_boxa {t : TypeId} {x : Operand} {c : List Value} (hx : ov N s x = some (.agg c.toArray)) (hk : k ((d, .pointer (some ⟨nm, 0, none⟩)) :: s) (gset g nm (.cells c 0 false)) [nm] [nm]) : ST N f s g n nm ⟨some d, .box t x, ty, pos, af, gd⟩ k :=
  ⟨Prim.newCells (Value.agg c.toArray).cells.toList 0, ⟨.pointer (some ⟨nm, 0, none⟩), none, some (.cells (Value.agg c.toArray).cells.toList 0 false)⟩, by simp only [aop, ov_ok hx, Option.map_some], rfl, rfl, _, _, Fr_put _ _ _ _ _, rfl, hk⟩

theorem st_load {t : TypeId} {x : Operand} {l o : Nat} {c : List Value} {sz : Nat} {ro : Bool} {v : Value} (hx : ov N s x = some (.pointer (some ⟨l, o, none⟩))) (hg : g l = some (.cells c sz ro)) (hv : partO E6.P t c o = some v)
    (hk : k ((d, v) :: s) g [l] []) : ST N f s g n nm ⟨some d, .load t x, ty, pos, af, gd⟩ k := by
  refine ⟨loadP E6.P t l o, ⟨v, none, none⟩, by simp only [aop, aLoad_eq (ov_ok hx), Option.map_some], ?_, rfl, _, _, Fr_put _ _ _ _ _, rfl, hk⟩
  simp only [loadP, Prim.run, getAll, hg, Option.bind_some, Option.map_some, hv]
theorem s_ld {t : TypeId} {x : Operand} {l o : Nat} {c : List Value} {sz : Nat} {ro : Bool} {v : Value} (hx : ov N s x = some (.pointer (some ⟨l, o, none⟩))) (hg : g l = some (.cells c sz ro)) (ha : aggO E6.P t = some false) (hv : c[o]? = some v)
    (hk : k ((d, v) :: s) g [l] []) : ST N f s g n nm ⟨some d, .load t x, ty, pos, af, gd⟩ k :=
  st_load hx hg (by simp only [partO, ha, Option.bind_some]; exact hv) hk
theorem s_lda {t : TypeId} {x : Operand} {l o z : Nat} {c c' : List Value} {sz : Nat} {ro : Bool} (hx : ov N s x = some (.pointer (some ⟨l, o, none⟩))) (hg : g l = some (.cells c sz ro)) (ha : aggO E6.P t = some true) (hz : szO E6.P t = some z) (hl : o + z ≤ c.length)
    (hv : (c.drop o).take z = c') (hk : k ((d, .agg c'.toArray) :: s) g [l] []) : ST N f s g n nm ⟨some d, .load t x, ty, pos, af, gd⟩ k := by
  subst hv
  exact st_load hx hg (by simp only [partO, ha, hz, Option.bind_some, if_pos hl]) hk

def upL : List Value → Nat → Value → Option (List Value)
  | [], _, _ => none
  | x :: r, 0, v => some (v :: r)
  | x :: r, o + 1, v => match upL r o v with
    | some q => some (x :: q)
    | none => none
theorem upL_ok : ∀ {c : List Value} {o : Nat} {v : Value} {c' : List Value}, upL c o v = some c' → o + 1 ≤ c.length ∧ splice c o [v] = c'
  | [], _, _, _, h => by simp [upL] at h
  | x :: r, 0, v, c', h => by simp [upL] at h; subst h; exact ⟨by simp, by simp [splice]⟩
  | x :: r, o + 1, v, c', h => by
    simp only [upL] at h
    split at h
    · rename_i q hq
      cases h
      obtain ⟨h1, h2⟩ := upL_ok hq
      refine ⟨by simp; omega, ?_⟩
      rw [← h2]
      simp [splice, Nat.add_right_comm]
    · cases h

theorem st_store {dst : Option Tmp} {t : TypeId} {x y : Operand} {l o z : Nat} {c : List Value} {sz : Nat} {v : Value} {vs : List Value} (hx : ov N s x = some (.pointer (some ⟨l, o, none⟩))) (hy : ov N s y = some v) (hc : v.cells = vs.toArray) (h1 : plainL oneCell vs = true) (hz : szO E6.P t = some z) (hz2 : vs.length = z)
    (hg : g l = some (.cells c sz false)) (hl : o + z ≤ c.length) (hd : dst = none) (hk : k s (gset g l (.cells (splice c o vs) sz false)) [l] [l]) : ST N f s g n nm ⟨dst, .store t x y, ty, pos, af, gd⟩ k := by
  subst hd
  refine ⟨storeP v z l o, ⟨undef, some (l, some (.cells (splice c o vs) sz false)), none⟩, ?_, ?_, by simp [wrOk, storeP], _, _, Fr_put0 _ _ _ _, rfl, hk⟩
  · simp only [aop]
    rw [aStore_eq (ov_ok hx) (ov_ok hy) hz (by rw [hc]; simpa using hz2) (by rw [hc]; simpa using h1)]; rfl
  · simp only [storeP, Prim.run, getAll, hg, Option.bind_some, Option.map_some, if_pos hl, hc]
theorem s_st {t : TypeId} {x y : Operand} {l o : Nat} {c c' : List Value} {sz : Nat} {v : Value} (hx : ov N s x = some (.pointer (some ⟨l, o, none⟩))) (hy : ov N s y = some v) (hz : szO E6.P t = some 1) (hg : g l = some (.cells c sz false)) (hc : v.cells = #[v]) (h1 : oneCell v = true)
    (hu : upL c o v = some c') (hk : k s (gset g l (.cells c' sz false)) [l] [l]) : ST N f s g n nm ⟨none, .store t x y, ty, pos, af, gd⟩ k := by
  obtain ⟨h2, rfl⟩ := upL_ok hu
  exact st_store (vs := [v]) hx hy hc (by simp [plainL, h1]) hz rfl hg h2 rfl hk
theorem s_stg {t : TypeId} {x y : Operand} {l o : Nat} {c : List Value} {sz : Nat} {v : Value} (hx : ov N s x = some (.pointer (some ⟨l, o, none⟩))) (hy : ov N s y = some v) (hz : szO E6.P t = some 1) (hg : g l = some (.cells c sz false)) (hc : v.cells = #[v]) (h1 : oneCell v = true)
    (hl : o + 1 ≤ c.length) (hk : k s (gset g l (.cells (splice c o [v]) sz false)) [l] [l]) : ST N f s g n nm ⟨none, .store t x y, ty, pos, af, gd⟩ k :=
  st_store (vs := [v]) hx hy hc (by simp [plainL, h1]) hz rfl hg hl rfl hk
theorem s_stw {t : TypeId} {x y : Operand} {l z : Nat} {c vs : List Value} {sz : Nat} (hx : ov N s x = some (.pointer (some ⟨l, 0, none⟩))) (hy : ov N s y = some (.agg vs.toArray)) (hz : szO E6.P t = some z) (hz2 : vs.length = z) (hg : g l = some (.cells c sz false)) (hl : c.length = z) (h1 : plainL oneCell vs = true)
    (hk : k s (gset g l (.cells vs sz false)) [l] [l]) : ST N f s g n nm ⟨none, .store t x y, ty, pos, af, gd⟩ k := by
  refine st_store (vs := vs) hx hy rfl h1 hz hz2 hg (by omega) rfl ?_
  rwa [show splice c 0 vs = vs by simp [splice, show c.length ≤ vs.length by omega]]
theorem s_sta {t : TypeId} {x y : Operand} {l o z : Nat} {c vs : List Value} {sz : Nat} (hx : ov N s x = some (.pointer (some ⟨l, o, none⟩))) (hy : ov N s y = some (.agg vs.toArray)) (hz : szO E6.P t = some z) (hz2 : vs.length = z) (hg : g l = some (.cells c sz false)) (hl : o + z ≤ c.length) (h1 : plainL oneCell vs = true)
    (hk : k s (gset g l (.cells (splice c o vs) sz false)) [l] [l]) : ST N f s g n nm ⟨none, .store t x y, ty, pos, af, gd⟩ k :=
  st_store (vs := vs) hx hy rfl h1 hz hz2 hg hl rfl hk


theorem st_fa {t : TypeId} {x : Operand} {fi l o z o' : Nat} (hx : ov N s x = some (.pointer (some ⟨l, o, none⟩))) (hf : fldO E6.P t fi = some z) (ho : o + z = o') (hk : k ((d, .pointer (some ⟨l, o', none⟩)) :: s) g [] []) :
    ST N f s g n nm ⟨some d, .fieldAddr t x fi, ty, pos, af, gd⟩ k := by
  subst ho
  unfold fldO at hf
  split at hf
  case h_2 => cases hf
  rename_i fields hu
  simp only [Option.bind_eq_some_iff] at hf
  obtain ⟨fd, e1, zz, e2, e3⟩ := hf
  split at e3
  · cases e3
  rename_i hz
  cases e3
  exact st_val rfl (by simp only [aop, aFieldAddr, hu, e1, ov_ok hx, e2, Option.bind_some, if_neg hz, Option.map_some]) hk
theorem s_fa0 {t : TypeId} {x : Operand} {fi l z : Nat} (hx : ov N s x = some (.pointer (some ⟨l, 0, none⟩))) (hf : fldO E6.P t fi = some z) (hk : k ((d, .pointer (some ⟨l, z, none⟩)) :: s) g [] []) :
    ST N f s g n nm ⟨some d, .fieldAddr t x fi, ty, pos, af, gd⟩ k := st_fa hx hf (Nat.zero_add z) hk
theorem s_fa {t : TypeId} {x : Operand} {fi l o z : Nat} (hx : ov N s x = some (.pointer (some ⟨l, o, none⟩))) (hf : fldO E6.P t fi = some z) (hk : k ((d, .pointer (some ⟨l, o + z, none⟩)) :: s) g [] []) :
    ST N f s g n nm ⟨some d, .fieldAddr t x fi, ty, pos, af, gd⟩ k := st_fa hx hf rfl hk
theorem s_fld {t t' : TypeId} {x : Operand} {fi o : Nat} {c : List Value} {v : Value} (hx : ov N s x = some (.agg c.toArray)) (hf : fldT E6.P t fi = some (t', o)) (ha : aggO E6.P t' = some false) (hv : c[o]? = some v) (hk : k ((d, v) :: s) g [] []) :
    ST N f s g n nm ⟨some d, .field t x fi, ty, pos, af, gd⟩ k := by
  unfold fldT at hf
  split at hf
  case h_2 => cases hf
  rename_i fields hu
  obtain ⟨fd, e1, e2⟩ := Option.map_eq_some_iff.1 hf
  cases e2
  exact st_val rfl (by simp only [aop, aField, hu, e1, ov_ok hx, Option.bind_some, partO, ha, List.toList_toArray, hv, Option.map_some]) hk
theorem s_ia {t : TypeId} {x ix : Operand} {kd : IntKind} {i l o m c z : Nat} (hx : ov N s x = some (.slice (some ⟨l, o, none⟩) m c)) (hi : ov N s ix = some (.int kd (i : Int))) (he : elemS E6.P t = some z) (hlt : i < m) (hk : k ((d, .pointer (some ⟨l, o + i * z, none⟩)) :: s) g [] []) :
    ST N f s g n nm ⟨some d, .indexAddr t x ix, ty, pos, af, gd⟩ k := by
  unfold elemS at he
  split at he
  case h_2 => cases he
  rename_i e hu
  refine st_val rfl (v := .pointer (some ⟨l, o + i * z, none⟩)) ?_ hk
  simp only [aop, aIndexAddr, ov_ok hx, ov_ok hi, hu, he, Option.bind_some]
  rw [if_pos ⟨by omega, by omega⟩, Int.toNat_natCast]
  rfl
theorem s_ia0 {t : TypeId} {x ix : Operand} {kd : IntKind} {l o m c z : Nat} (hx : ov N s x = some (.slice (some ⟨l, o, none⟩) m c)) (hi : ov N s ix = some (.int kd 0)) (he : elemS E6.P t = some z) (hlt : 0 < m) (hk : k ((d, .pointer (some ⟨l, o, none⟩)) :: s) g [] []) :
    ST N f s g n nm ⟨some d, .indexAddr t x ix, ty, pos, af, gd⟩ k := by
  have := s_ia (f := f) (g := g) (n := n) (nm := nm) (k := k) (d := d) (ty := ty) (pos := pos) (af := af) (gd := gd) (i := 0) hx hi he hlt
  simp only [Nat.zero_mul, Nat.add_zero] at this
  exact this hk
theorem s_ext {x : Operand} {i : Nat} {vs : List Value} {v : Value} (hx : ov N s x = some (.tuple vs.toArray)) (hv : vs[i]? = some v) (hk : k ((d, v) :: s) g [] []) : ST N f s g n nm ⟨some d, .extract x i, ty, pos, af, gd⟩ k :=
  st_val rfl (by simp only [aop, aExtract, ov_ok hx, Option.bind_some, List.getElem?_toArray, hv, Option.map_some]) hk


theorem s_bin {op : BinOp} {t t2 : TypeId} {x y : Operand} {u v r : Value} (hx : ov N s x = some u) (hy : ov N s y = some v) (h : binS E6.P op t u v = some r) (hk : k ((d, r) :: s) g [] []) : ST N f s g n nm ⟨some d, .binOp op t x y t2, ty, pos, af, gd⟩ k :=
  st_val rfl (by simp only [aop, binV_ok (ov_ok hx) (ov_ok hy) (binS_ok h), Option.map_some]) hk
theorem s_not {t : TypeId} {x : Operand} {b : Bool} (hx : ov N s x = some (.bool b)) (hk : k ((d, .bool (!b)) :: s) g [] []) : ST N f s g n nm ⟨some d, .unOp .not t x, ty, pos, af, gd⟩ k := by
  refine st_val (v := .bool (!b)) rfl ?_ hk
  simp only [aop, plainEv, ov_ok hx, Option.bind_some]
  rw [if_pos (show plainV (.bool b) = true from rfl)]
  rfl
theorem s_len {t : TypeId} {x : Operand} {v : Value} {m : Nat} {dd : TypeDesc} (hx : ov N s x = some v) (hl : lenV v = some (m : Int)) (hu : E6.P.underlying t = some dd) (hd : lenD dd v = true) (hk : k ((d, .int .i64 (m : Int)) :: s) g [] []) :
    ST N f s g n nm ⟨some d, .call ⟨.builtin .len, #[x], #[t]⟩, ty, pos, af, gd⟩ k := by
  refine st_val rfl ?_ hk
  simp only [aop, aCall, List.toList_toArray, evList, ov_ok hx, Option.bind_some, Option.map_some, aBuiltin]
  unfold lenD at hd
  split at hd
  · simp only [lenV, Option.some.injEq] at hl
    simp only [aLen, hu, Option.map_some, hl]
  · simp only [lenV, Option.some.injEq] at hl
    simp only [aLen, hu, Option.map_some, hl]
  · cases hd
theorem s_min {x y : Operand} {ts : Array TypeId} {a b c : Int} (hx : ov N s x = some (.int .i64 a)) (hy : ov N s y = some (.int .i64 b)) (hc : min a b = c) (hk : k ((d, .int .i64 c) :: s) g [] []) :
    ST N f s g n nm ⟨some d, .call ⟨.builtin .min, #[x, y], ts⟩, ty, pos, af, gd⟩ k := by
  subst hc
  rw [show min a b = (if b < a then b else a) by rw [Int.min_def]; split <;> split <;> omega] at hk
  refine st_val rfl ?_ hk
  simp only [aop, aCall, List.toList_toArray, evList, ov_ok hx, ov_ok hy, Option.bind_some, Option.map_some, aBuiltin]
  rw [if_pos (show plainL plainV [.int .i64 a, .int .i64 b] = true from rfl)]
  rfl
theorem s_max {x y : Operand} {ts : Array TypeId} {a b c : Int} (hx : ov N s x = some (.int .i64 a)) (hy : ov N s y = some (.int .i64 b)) (hc : max a b = c) (hk : k ((d, .int .i64 c) :: s) g [] []) :
    ST N f s g n nm ⟨some d, .call ⟨.builtin .max, #[x, y], ts⟩, ty, pos, af, gd⟩ k := by
  subst hc
  rw [show max a b = (if b > a then b else a) by rw [Int.max_def]; split <;> split <;> omega] at hk
  refine st_val rfl ?_ hk
  simp only [aop, aCall, List.toList_toArray, evList, ov_ok hx, ov_ok hy, Option.bind_some, Option.map_some, aBuiltin]
  rw [if_pos (show plainL plainV [.int .i64 a, .int .i64 b] = true from rfl)]
  rfl

theorem bi_add {P : Program} {t : TypeId} {a b c : Int} (h : a + b = c) (h1 : -9223372036854775808 ≤ c) (h2 : c ≤ 9223372036854775807) : binS P .add t (.int .i64 a) (.int .i64 b) = some (.int .i64 c) := by
  subst h
  simp only [binS, if_true, intV, wrap_id h1 h2]
theorem bi_sub {P : Program} {t : TypeId} {a b c : Int} (h : a - b = c) (h1 : -9223372036854775808 ≤ c) (h2 : c ≤ 9223372036854775807) : binS P .sub t (.int .i64 a) (.int .i64 b) = some (.int .i64 c) := by
  subst h
  simp only [binS, if_true, intV, wrap_id h1 h2]
theorem bi_inc {P : Program} {t : TypeId} {a : Nat} (h : a < 9223372036854775807) : binS P .add t (.int .i64 (a : Int)) (.int .i64 1) = some (.int .i64 ((a + 1 : Nat) : Int)) :=
  bi_add (by omega) (by omega) (by omega)
theorem bi_dec {P : Program} {t : TypeId} {a : Nat} (h : 0 < a) (h2 : a < 9223372036854775807) : binS P .sub t (.int .i64 (a : Int)) (.int .i64 1) = some (.int .i64 ((a - 1 : Nat) : Int)) :=
  bi_sub (by omega) (by omega) (by omega)
theorem bi_d {P : Program} {op : BinOp} {t : TypeId} {dd : TypeDesc} {u v r : Value} (hu : P.underlying t = some dd) (h : binD dd op u v = some r) : binS P op t u v = some r := by
  unfold binS
  unfold binD at h
  split at h
  · exact h
  · exact h
  all_goals simp only [hu, Option.bind_some, binD]; exact h


def ovP (N : Nat) (s : Sls) : List (Nat × Operand) → Option (List (Nat × Value))
  | [] => some []
  | (i, x) :: r => match ov N s x with
    | some v => match ovP N s r with
      | some vs => some ((i, v) :: vs)
      | none => none
    | none => none
theorem ovP_ok {N : Nat} {f : Nat → Value} {s : Sls} : ∀ {xs : List (Nat × Operand)} {vs : List (Nat × Value)}, ovP N s xs = some vs → evParts (aeval (Fr N f s)) xs = some vs
  | [], vs, h => by simpa [ovP, evParts] using h
  | (i, x) :: r, vs, h => by
    simp only [ovP] at h
    split at h
    · rename_i v hv
      split at h
      · rename_i ws hw
        cases h
        simp only [evParts, ov_ok hv, Option.bind_some, ovP_ok hw, Option.map_some]
      · cases h
    · cases h

def upLs : List Value → Nat → List Value → Option (List Value)
  | c, _, [] => some c
  | c, o, v :: vs => match upL c o v with
    | some c' => upLs c' (o + 1) vs
    | none => none
theorem upLs_ok : ∀ {vs c : List Value} {o : Nat} {c' : List Value}, upLs c o vs = some c' → o ≤ c.length → o + vs.length ≤ c.length ∧ splice c o vs = c'
  | [], c, o, c', h, hl => by simp [upLs] at h; subst h; exact ⟨by simpa using hl, by simp [splice]⟩
  | v :: vs, c, o, c', h, hl => by
    simp only [upLs] at h
    split at h
    · rename_i d hd
      obtain ⟨h1, h2⟩ := upL_ok hd
      have hlen : d.length = c.length := by rw [← h2]; simp [splice]; omega
      obtain ⟨h3, h4⟩ := upLs_ok h (by omega)
      refine ⟨by simp; omega, ?_⟩
      rw [← h4]
      apply List.ext_getElem?
      intro x
      rw [splice_get (by simp; omega), splice_get (by omega), ← h2, splice_get (by simpa using h1)]
      simp only [List.length_cons, List.length_nil]
      rcases Nat.lt_trichotomy x o with hx | hx | hx
      · rw [if_neg (by omega), if_neg (by omega), if_neg (by omega)]
      · subst hx
        rw [if_pos (by omega), if_neg (by omega), if_pos (by omega)]
        simp
      · by_cases hy : x < o + 1 + vs.length
        · rw [if_pos (by omega), if_pos (by omega), show x - o = (x - (o + 1)) + 1 by omega, List.getElem?_cons_succ]
        · rw [if_neg (by omega), if_neg (by omega), if_neg (by omega)]
    · cases h

def fillF (pl : List (Nat × Nat)) : List Value → List (Nat × Value) → Option (List Value)
  | cs, [] => some cs
  | cs, (i, v) :: r => match pl[i]? with
    | some (o, z) => match Nat.beq v.cells.toList.length z with
      | true => match upLs cs o v.cells.toList with
        | some cs' => fillF pl cs' r
        | none => none
      | false => none
    | none => none
theorem fillF_ok {pl : List (Nat × Nat)} : ∀ {vs : List (Nat × Value)} {cs r : List Value}, (∀ q ∈ pl, q.1 + q.2 ≤ cs.length) → fillF pl cs vs = some r → fillL pl cs vs = some r
  | [], cs, r, _, h => by simpa [fillF, fillL] using h
  | (i, v) :: vs, cs, r, hp, h => by
    simp only [fillF] at h
    split at h
    case h_2 => cases h
    rename_i o z hi
    split at h
    case h_2 => cases h
    rename_i hz
    split at h
    case h_2 => cases h
    rename_i cs' hu
    have hq := hp _ (List.mem_of_getElem? hi)
    simp only at hq
    have hz := Nat.eq_of_beq_eq_true hz
    obtain ⟨h1, h2⟩ := upLs_ok hu (by omega)
    have hz2 : v.cells.size = z := by simpa using hz
    simp only [fillL, hi, Option.bind_some]
    rw [if_pos ⟨hz2, by omega⟩, h2]
    refine fillF_ok (fun q hqm => ?_) h
    rw [← h2, splice_length (by omega)]
    exact hp q hqm

theorem s_bld {t : TypeId} {ps : Array (Nat × Operand)} {pl : List (Nat × Nat)} {z cs : List Value} {vs : List (Nat × Value)} (hp : placesL E6.P t = some pl) (hz : zeroL E6.P t = some z) (hv : ovP N s ps.toList = some vs) (hpl : (pl.all fun q => Nat.ble (q.1 + q.2) z.length) = true) (hf : fillF pl z vs = some cs)
    (hk : k ((d, .agg cs.toArray) :: s) g [] []) : ST N f s g n nm ⟨some d, .build t ps, ty, pos, af, gd⟩ k := by
  obtain ⟨zv, h1, rfl⟩ := Option.map_eq_some_iff.1 hz
  have hf' := fillF_ok (fun q hq => Nat.le_of_ble_eq_true (List.all_eq_true.1 hpl q hq)) hf
  unfold placesL at hp
  split at hp
  case h_2 => cases hp
  rename_i fields hu
  obtain ⟨q, e1, rfl⟩ := Option.map_eq_some_iff.1 hp
  have hpo : placesO E6.P t = some (q[·]?) := by
    unfold placesO
    rw [hu]
    simp only [Option.bind_some, e1, Option.map_some]
  have hfill : Instr.fill (q[·]?) zv.cells vs = some cs.toArray := fill_L (f := (q[·]?)) (pl := q.toList) (fun i x hx => by simpa using hx) vs _ zv.cells cs rfl hf'
  refine st_val rfl (v := .agg cs.toArray) ?_ hk
  simp only [aop, aBuild, h1, hpo, ovP_ok hv, Option.bind_some]
  rw [hfill]; rfl

theorem s_mf {fn : Fn} {g' : FuncId} {fs cs : Array Operand} {x y : List Value} (hg : fnId fn = some g') (hx : ovL N s fs.toList = some x) (hy : ovL N s cs.toList = some y) (hk : k ((d, .func (.func g') x.toArray y.toArray) :: s) g [] []) :
    ST N f s g n nm ⟨some d, .makeFunc fn fs cs, ty, pos, af, gd⟩ k := by
  unfold fnId at hg
  split at hg
  case h_2 => cases hg
  cases hg
  exact st_val rfl (by simp only [aop, aMakeFunc, ovL_ok hx, ovL_ok hy, Option.bind_some, Option.map_some]) hk

theorem s_bs {t c : Nat} {ps : Array (Nat × Operand)} {e : Nat} {z cs : List Value} {vs : List (Nat × Value)} (he : elemS E6.P t = some e) (hz : elemZ E6.P t = some z) (hv : ovP N s ps.toList = some vs)
    (hok : (Nat.blt 0 e && Nat.ble (c * e) 16777216 && Nat.beq z.length e && plainL plainV z && (plc e 0 c).all fun q => Nat.ble (q.1 + q.2) (rep z c).length) = true) (hf : fillF (plc e 0 c) (rep z c) vs = some cs)
    (hk : k ((d, .slice (some ⟨nm, 0, none⟩) c c) :: s) (gset g nm (.cells cs e false)) [nm] [nm]) : ST N f s g n nm ⟨some d, .buildSlice t c ps, ty, pos, af, gd⟩ k := by
  simp only [Bool.and_eq_true] at hok
  obtain ⟨⟨⟨⟨c1, c2⟩, c3⟩, c4⟩, c5⟩ := hok
  have c1 : 0 < e := by simpa [Nat.blt_eq] using c1
  have c2 := Nat.le_of_ble_eq_true c2
  have c3 := Nat.eq_of_beq_eq_true c3
  have hf' := fillF_ok (fun q hq => Nat.le_of_ble_eq_true (List.all_eq_true.1 c5 q hq)) hf
  have hs := stepN_ok (E := E6) (a := Fr N f s) (σ := ⟨g, n⟩) (nm := nm) (o := ⟨some d, .buildSlice t c ps, ty, pos, af, gd⟩) (k := fun a σ t w => ∃ s' g', a = Fr N f s' ∧ σ = ⟨g', n⟩ ∧ k s' g' t w) (by
    simp only [stepN, he, hz, ovP_ok hv, hf', obind]
    exact ⟨⟨c1, c2, c3, c4⟩, _, _, Fr_put _ _ _ _ _, rfl, hk⟩)
  exact ⟨hs⟩

end


section
variable {X : Cx} {k : List Fm} {f : Nat → Value} {s : Sls} {g : Gm} {m j m₀ j₀ i : Nat} {ops : Array Oper} {dst : Option Tmp} {op : Op} {ty : TypeId} {pos : String} {af : Array Edge} {os : List Oper} {d : Tmp} {x : Operand} {v : Value}
theorem Na {x y : Code} (h : W X (.sq y :: k) x f s g m j) : W X k (.seq x y) f s g m j := w_seq h
theorem Nb {id : Nat} {c : Code} (h : W X (.bl id :: k) c f s g m j) : W X k (.block id c) f s g m j := w_blk h
theorem Nc {c : Code} (h : W X k c f s g m j) : Z X (.sq c :: k) f s g m j := z_seq h
theorem Nd {id : Nat} (h : Z X k f s g m j) : Z X (.bl id :: k) f s g m j := z_blk h
theorem Ne (h : Z X k f s g m j) : W X k .skip f s g m j := w_skip h
theorem Nf (h : Z X [] f s g m j) : W X k .ret f s g m j := w_ret h
theorem gS {g : Gm} {n : Nat} {o : AObj} : gset g n o n = some o := gs_same g n o
theorem gN {g : Gm} {l n : Nat} {o : AObj} {r : Option AObj} (h : l ≠ n) (k : g l = r) : gset g n o l = r := (gs_ne h o).trans k
theorem nO (h : ST X.N f s g (m + j) (m₀ + (j₀ + i)) ⟨dst, op, ty, pos, af, none⟩ fun s g _ _ => RN X k ops m₀ j₀ (i + 1) os f s g m j) : RN X k ops m₀ j₀ i (⟨dst, op, ty, pos, af, none⟩ :: os) f s g m j := n_op .no rfl h
theorem nY {jg e : Nat} {b t : Bool} (h1 : gdL ops.toList jg = some e) (h2 : ov X.N s (.tmp e) = some (.bool t)) (h3 : t = b) (h : ST X.N f s g (m + j) (m₀ + (j₀ + i)) ⟨dst, op, ty, pos, af, some (jg, b)⟩ fun s g _ _ => RN X k ops m₀ j₀ (i + 1) os f s g m j) : RN X k ops m₀ j₀ i (⟨dst, op, ty, pos, af, some (jg, b)⟩ :: os) f s g m j := n_op (.yes h1 h2 h3) rfl h
theorem nG {jg e : Nat} {b t : Bool} (h1 : gdL ops.toList jg = some e) (h2 : ov X.N s (.tmp e) = some (.bool t)) (h3 : t = b) (hx : ov X.N s x = some v) (h : RN X k ops m₀ j₀ (i + 1) os f ((d, v) :: s) g m j) : RN X k ops m₀ j₀ i (⟨some d, .move x, ty, pos, af, some (jg, b)⟩ :: os) f s g m j := nY h1 h2 h3 (s_mv hx h)
theorem nM (hx : ov X.N s x = some v) (h : RN X k ops m₀ j₀ (i + 1) os f ((d, v) :: s) g m j) : RN X k ops m₀ j₀ i (⟨some d, .move x, ty, pos, af, none⟩ :: os) f s g m j := nO (s_mv hx h)
theorem nA (hx : ov X.N s x = some v) (h : RN X k ops m₀ j₀ (i + 1) os f ((d, v) :: s) g m j) : RN X k ops m₀ j₀ i (⟨some d, .assign x, ty, pos, af, none⟩ :: os) f s g m j := nO (s_as hx h)
theorem nN {l o : Nat} (hx : ov X.N s x = some (.pointer (some ⟨l, o, none⟩))) (h : RN X k ops m₀ j₀ (i + 1) os f ((d, .pointer (some ⟨l, o, none⟩)) :: s) g m j) : RN X k ops m₀ j₀ i (⟨some d, .nilCheck x, ty, pos, af, none⟩ :: os) f s g m j := nO (s_nil hx h)
variable {lo : List Nat} {L : List (Nat × List Nat)} {D : List Rec}
theorem dO (ho : nth ops.toList i = some ⟨dst, op, ty, pos, af, none⟩) (ht : touches ⟨dst, op, ty, pos, af, none⟩ = false)
    (h : ST X.N f s g (m + j) (m₀ + (j₀ + i)) ⟨dst, op, ty, pos, af, none⟩ fun s g t w => (t = [] ∧ w = []) ∧ RD X k ops m₀ j₀ L D f s g m j) : RD X k ops m₀ j₀ ((i, lo) :: L) D f s g m j := d_op ho ht .no rfl h
theorem dM (ho : nth ops.toList i = some ⟨some d, .move x, ty, pos, af, none⟩) (hx : ov X.N s x = some v) (h : RD X k ops m₀ j₀ L D f ((d, v) :: s) g m j) : RD X k ops m₀ j₀ ((i, lo) :: L) D f s g m j := dO ho rfl (s_mv hx ⟨⟨rfl, rfl⟩, h⟩)
theorem dT (ho : nth ops.toList i = some ⟨dst, op, ty, pos, af, none⟩) (ht : touches ⟨dst, op, ty, pos, af, none⟩ = true) (hk2 : Nat.beq (kindOf ⟨dst, op, ty, pos, af, none⟩) 2 = false)
    (h : ST X.N f s g (m + j) (m₀ + (j₀ + i)) ⟨dst, op, ty, pos, af, none⟩ fun s g t w => clashS lo t w D ∧ RD X k ops m₀ j₀ L (⟨i, t, w, false⟩ :: D) f s g m j) : RD X k ops m₀ j₀ ((i, lo) :: L) D f s g m j := d_tc ho ht hk2 .no rfl h
end

section
variable {N : Nat} {f : Nat → Value} {s : Sls} {g : Gm} {n nm : Nat} {k : Sls → Gm → List Nat → List Nat → Prop} {d : Tmp} {ty : TypeId} {pos : String} {af : Array Edge} {gd : Option (Nat × Bool)}
theorem sL {t : TypeId} {x : Operand} {l o : Nat} {c : List Value} {sz : Nat} {ro : Bool} {v : Value} (hx : ov N s x = some (.pointer (some ⟨l, o, none⟩))) (ha : aggO E6.P t = some false) (hk : k ((d, v) :: s) g [l] [])
    (hg : g l = some (.cells c sz ro) := by repeat first | exact gS | assumption | refine gN (by omega) ?_) (hv : c[o]? = some v := by first | exact rfl | assumption) : ST N f s g n nm ⟨some d, .load t x, ty, pos, af, gd⟩ k := s_ld hx hg ha hv hk
theorem sLa {t : TypeId} {x : Operand} {l o z : Nat} {c c' : List Value} {sz : Nat} {ro : Bool} (hx : ov N s x = some (.pointer (some ⟨l, o, none⟩))) (ha : aggO E6.P t = some true) (hz : szO E6.P t = some z) (hk : k ((d, .agg c'.toArray) :: s) g [l] [])
    (hg : g l = some (.cells c sz ro) := by repeat first | exact gS | assumption | refine gN (by omega) ?_) (hl : o + z ≤ c.length := by first | exact Nat.le_of_ble_eq_true rfl | assumption | omega) (hv : (c.drop o).take z = c' := by first | assumption | exact rfl) : ST N f s g n nm ⟨some d, .load t x, ty, pos, af, gd⟩ k := s_lda hx hg ha hz hl hv hk
theorem sS {t : TypeId} {x y : Operand} {l o : Nat} {c c' : List Value} {sz : Nat} {v : Value} (hx : ov N s x = some (.pointer (some ⟨l, o, none⟩))) (hy : ov N s y = some v) (hz : szO E6.P t = some 1) (hc : v.cells = #[v]) (h1 : oneCell v = true) (hk : k s (gset g l (.cells c' sz false)) [l] [l])
    (hg : g l = some (.cells c sz false) := by repeat first | exact gS | assumption | refine gN (by omega) ?_) (hu : upL c o v = some c' := by exact rfl) : ST N f s g n nm ⟨none, .store t x y, ty, pos, af, gd⟩ k := s_st hx hy hz hg hc h1 hu hk
theorem sSg {t : TypeId} {x y : Operand} {l o : Nat} {c : List Value} {sz : Nat} {v : Value} (hx : ov N s x = some (.pointer (some ⟨l, o, none⟩))) (hy : ov N s y = some v) (hz : szO E6.P t = some 1) (hc : v.cells = #[v]) (h1 : oneCell v = true) (hk : k s (gset g l (.cells (splice c o [v]) sz false)) [l] [l])
    (hg : g l = some (.cells c sz false) := by repeat first | exact gS | assumption | refine gN (by omega) ?_) (hl : o + 1 ≤ c.length := by first | assumption | omega) : ST N f s g n nm ⟨none, .store t x y, ty, pos, af, gd⟩ k := s_stg hx hy hz hg hc h1 hl hk
theorem sSw {t : TypeId} {x y : Operand} {l z : Nat} {c vs : List Value} {sz : Nat} (hx : ov N s x = some (.pointer (some ⟨l, 0, none⟩))) (hy : ov N s y = some (.agg vs.toArray)) (hz : szO E6.P t = some z) (hz2 : vs.length = z) (h1 : plainL oneCell vs = true) (hk : k s (gset g l (.cells vs sz false)) [l] [l])
    (hg : g l = some (.cells c sz false) := by repeat first | exact gS | assumption | refine gN (by omega) ?_) (hl : c.length = z := by exact rfl) : ST N f s g n nm ⟨none, .store t x y, ty, pos, af, gd⟩ k := s_stw hx hy hz hz2 hg hl h1 hk
theorem sSa {t : TypeId} {x y : Operand} {l o z : Nat} {c vs : List Value} {sz : Nat} (hx : ov N s x = some (.pointer (some ⟨l, o, none⟩))) (hy : ov N s y = some (.agg vs.toArray)) (hz : szO E6.P t = some z) (hz2 : vs.length = z) (h1 : plainL oneCell vs = true) (hk : k s (gset g l (.cells (splice c o vs) sz false)) [l] [l])
    (hg : g l = some (.cells c sz false) := by repeat first | exact gS | assumption | refine gN (by omega) ?_) (hl : o + z ≤ c.length := by first | exact Nat.le_of_ble_eq_true rfl | assumption | omega) : ST N f s g n nm ⟨none, .store t x y, ty, pos, af, gd⟩ k := s_sta hx hy hz hz2 hg hl h1 hk
end

def skN (jg d : Nat) (b : Bool) : Nat → Sls → List Oper → Option (Sls × List Oper)
  | 0, s, os => some (s, os)
  | _ + 1, _, [] => none
  | c + 1, s, o :: os => match o.dst, o.guard with
    | some dd, some (j, b') => match Nat.beq j jg, Nat.beq dd d, b', b with
      | true, false, true, true => skN jg d b c ((dd, undef) :: s) os
      | true, false, false, false => skN jg d b c ((dd, undef) :: s) os
      | _, _, _, _ => none
    | _, _ => none
theorem ov_skip {N d dd : Nat} {s : Sls} {v : Value} (hv : ov N s (.tmp d) = some v) (hne : Nat.beq dd d = false) : ov N ((dd, undef) :: s) (.tmp d) = some v := by
  have e : ov N ((dd, undef) :: s) (.tmp d) = ov N s (.tmp d) := by
    show (match Nat.blt d N with | true => (match Nat.beq dd d with | true => some undef | false => look s d) | false => none) = _
    rw [hne]; rfl
  rw [e, hv]
theorem nSkR {X : Cx} {k : List Fm} {f : Nat → Value} {g : Gm} {m j m₀ j₀ jg d : Nat} {ops : Array Oper} {b t : Bool} (hd : gdL ops.toList jg = some d) (hb : t = !b) : ∀ (c : Nat) {i : Nat} {s s' : Sls} {os os' : List Oper}, ov X.N s (.tmp d) = some (.bool t) → skN jg d b c s os = some (s', os') → RN X k ops m₀ j₀ (i + c) os' f s' g m j → RN X k ops m₀ j₀ i os f s g m j
  | 0, i, s, s', os, os', _, hs, h => by cases hs; exact h
  | c + 1, i, s, s', [], os', _, hs, _ => by cases hs
  | c + 1, i, s, s', ⟨dst, op, ty, pos, af, gd⟩ :: os, os', hv, hs, h => by
    unfold skN at hs
    split at hs
    · rename_i dd jj b' e1 e2
      simp only at e1 e2
      subst e1 e2
      split at hs
      · rename_i h1 h2
        have := Nat.eq_of_beq_eq_true h1
        subst this
        exact n_sk hd hv hb (nSkR hd hb c (ov_skip hv h2) hs (by rw [show i + 1 + c = i + (c + 1) by omega]; exact h))
      · rename_i h1 h2
        have := Nat.eq_of_beq_eq_true h1
        subst this
        exact n_sk hd hv hb (nSkR hd hb c (ov_skip hv h2) hs (by rw [show i + 1 + c = i + (c + 1) by omega]; exact h))
      · cases hs
    · cases hs
theorem nSk {X : Cx} {k : List Fm} {f : Nat → Value} {g : Gm} {m j m₀ j₀ i jg d dd : Nat} {ops : Array Oper} {b t : Bool} {op : Op} {ty : TypeId} {pos : String} {af : Array Edge} {s s' : Sls} {os os' : List Oper} (hd : gdL ops.toList jg = some d) (hv : ov X.N s (.tmp d) = some (.bool t)) (hb : t = !b) (hne : Nat.beq dd d = false) (c : Nat) (hs : skN jg d b c ((dd, undef) :: s) os = some (s', os'))
    (h : RN X k ops m₀ j₀ (i + 1 + c) os' f s' g m j) : RN X k ops m₀ j₀ i (⟨some dd, op, ty, pos, af, some (jg, b)⟩ :: os) f s g m j := n_sk hd hv hb (nSkR hd hb c (ov_skip hv hne) hs h)

end Go.Proofs.YtfchjhfccnodpaaGreat
end

section
open Go.Proofs
namespace Go.Proofs.YtfchjhfccnodpaaGreat
set_option linter.unusedSimpArgs false
set_option linter.unusedVariables false
set_option maxRecDepth 100000
set_option maxHeartbeats 4000000

def U : Nat → Value := fun _ => undef

theorem entry0 {fn : Func} {n : Nat} (hn : fn.ntmps = n) : aEntry fn #[] = AA n U [] := by
  rw [aEntry_AA hn (by simp)]
  congr 1
theorem entry1 {fn : Func} {n : Nat} (hn : fn.ntmps = n) (h : 1 ≤ n) (a : Value) : aEntry fn #[a] = AA n (fset U 0 a) [] := by
  rw [aEntry_AA hn (by simpa using h)]
  congr 1; funext t
  rcases t with _ | t <;> simp [fset, U]
theorem entry2 {fn : Func} {n : Nat} (hn : fn.ntmps = n) (h : 2 ≤ n) (a b : Value) : aEntry fn #[a, b] = AA n (fset (fset U 0 a) 1 b) [] := by
  rw [aEntry_AA hn (by simpa using h)]
  congr 1; funext t
  rcases t with _ | _ | t <;> simp [fset, U]
theorem entry3 {fn : Func} {n : Nat} (hn : fn.ntmps = n) (h : 3 ≤ n) (a b c : Value) : aEntry fn #[a, b, c] = AA n (fset (fset (fset U 0 a) 1 b) 2 c) [] := by
  rw [aEntry_AA hn (by simpa using h)]
  congr 1; funext t
  rcases t with _ | _ | _ | t <;> simp [fset, U]
theorem entry4 {fn : Func} {n : Nat} (hn : fn.ntmps = n) (h : 4 ≤ n) (a b c d : Value) : aEntry fn #[a, b, c, d] = AA n (fset (fset (fset (fset U 0 a) 1 b) 2 c) 3 d) [] := by
  rw [aEntry_AA hn (by simpa using h)]
  congr 1; funext t
  rcases t with _ | _ | _ | _ | t <;> simp [fset, U]

theorem res1 {P : Program} {fn : Func} {n t : Nat} {f : Nat → Value} {σ : Heap} (hr : fn.results = #[.tmp t]) (ht : t < n) : aRes P fn (AA n f []) σ = some (f t) := by
  unfold aRes
  rw [hr]
  simp only [aResL, aRes1, AA, mkT_getD ht, Option.bind_some, Option.map_some, aOne]
theorem res2 {P : Program} {fn : Func} {n t u : Nat} {f : Nat → Value} {σ : Heap} (hr : fn.results = #[.tmp t, .tmp u]) (ht : t < n) (hu : u < n) : aRes P fn (AA n f []) σ = some (.tuple #[f t, f u]) := by
  unfold aRes
  rw [hr]
  simp only [aResL, aRes1, AA, mkT_getD ht, mkT_getD hu, Option.bind_some, Option.map_some, aOne]
theorem res0 {P : Program} {fn : Func} {n : Nat} {f : Nat → Value} {σ : Heap} (hr : fn.results = #[]) : aRes P fn (AA n f []) σ = some (.tuple #[]) := by
  unfold aRes
  rw [hr]
  rfl
theorem resC {P : Program} {fn : Func} {n t T s o l : Nat} {f : Nat → Value} {σ : Heap} {c : List Value} {sz : Nat} {ro : Bool} (hr : fn.results = #[.cell t T]) (ht : t < n) (hf : f t = .pointer (some ⟨l, o, none⟩)) (hg : σ.get l = some (.cells c sz ro))
    (ha : aggO P T = some true) (hs : szO P T = some s) (hl : o + s ≤ c.length) : aRes P fn (AA n f []) σ = some (.agg ((c.drop o).take s).toArray) := by
  unfold aRes
  rw [hr]
  simp only [aResL, aRes1, AA, mkT_getD ht, hf, hg, partO, ha, hs, Option.bind_some, if_pos hl, Option.map_some, aOne]
theorem resC1 {P : Program} {fn : Func} {n t T s o l u : Nat} {f : Nat → Value} {σ : Heap} {c : List Value} {sz : Nat} {ro : Bool} (hr : fn.results = #[.cell t T, .tmp u]) (ht : t < n) (hu : u < n) (hf : f t = .pointer (some ⟨l, o, none⟩)) (hg : σ.get l = some (.cells c sz ro))
    (ha : aggO P T = some true) (hs : szO P T = some s) (hl : o + s ≤ c.length) : aRes P fn (AA n f []) σ = some (.tuple #[.agg ((c.drop o).take s).toArray, f u]) := by
  unfold aRes
  rw [hr]
  simp only [aResL, aRes1, AA, mkT_getD ht, mkT_getD hu, hf, hg, partO, ha, hs, Option.bind_some, if_pos hl, Option.map_some, aOne]

def BytesNew (b : Nat) (g : Gm) (v : Value) (bs : List UInt8) : Prop := SlOwn g 1 v bs.length (u8c bs) ∧ ∀ l, vname v = some l → b ≤ l

theorem BytesNew.at {b : Nat} {g : Gm} {v : Value} {bs : List UInt8} (h : BytesNew b g v bs) : BytesAt g v bs := h.1.slc

theorem BytesAt.keep0 {σ τ : Heap} {v : Value} {bs : List UInt8} (h : BytesAt σ.get v bs) (hk : Keep0 σ τ) (hw : σ.WF) : BytesAt τ.get v bs := h.keep hk hw
theorem SlC.keep0 {σ τ : Heap} {k n : Nat} {v : Value} {cs : List Value} (h : SlC σ.get k v n cs) (hk : Keep0 σ τ) (hw : σ.WF) : SlC τ.get k v n cs := h.keep hk hw (.inr fun _ _ k => k)
theorem SlOwn.keep0 {σ τ : Heap} {k n : Nat} {v : Value} {cs : List Value} (h : SlOwn σ.get k v n cs) (hk : Keep0 σ τ) (hw : σ.WF) : SlOwn τ.get k v n cs := h.keep hk hw (.inr fun _ _ k => k)

theorem SlC.at {g : Gm} {k n i : Nat} {v : Value} {cs : List Value} (h : SlC g k v n cs) (hi : i < n) : ∃ l o c cl ro, v = .slice (some ⟨l, o, none⟩) n c ∧ g l = some (.cells cl k ro) ∧ o + (i * k + k) ≤ cl.length ∧ (cl.drop (o + i * k)).take k = (cs.drop (i * k)).take k := by
  obtain ⟨l, o, c, cl, ro, h1, h2, h3, h4, h5⟩ := h.pos (by omega)
  have hm : i * k + k ≤ n * k := by rw [← Nat.succ_mul]; exact Nat.mul_le_mul_right _ hi
  exact ⟨l, o, c, cl, ro, h1, h3, by omega, take_part h5 hm⟩

theorem SlOwn.at {g : Gm} {k n i : Nat} {v : Value} {cs : List Value} (h : SlOwn g k v n cs) (hi : i < n) : ∃ l o c cl, v = .slice (some ⟨l, o, none⟩) n c ∧ n ≤ c ∧ g l = some (.cells cl k false) ∧ o + (i * k + k) ≤ cl.length ∧ o + c * k ≤ cl.length ∧ (cl.drop (o + i * k)).take k = (cs.drop (i * k)).take k ∧ (cl.drop o).take (n * k) = cs := by
  obtain ⟨h1, ⟨rfl, rfl⟩ | ⟨l, o, c, cl, rfl, h3, h4, h5, h6⟩⟩ := h
  · omega
  · have hm : i * k + k ≤ n * k := by rw [← Nat.succ_mul]; exact Nat.mul_le_mul_right _ hi
    have := Nat.mul_le_mul_right k h3
    exact ⟨l, o, c, cl, rfl, h3, h4, by omega, h5, take_part h6 hm, h6⟩

theorem splice_in {cl src : List Value} {o m j : Nat} (h : o + m ≤ cl.length) (hj : j + src.length ≤ m) : ((splice cl (o + j) src).drop o).take m = splice ((cl.drop o).take m) j src := by
  apply List.ext_getElem?
  intro x
  have hs : ((cl.drop o).take m).length = m := by rw [List.length_take, List.length_drop]; omega
  rw [splice_get (by omega), List.getElem?_take, List.getElem?_drop, splice_get (by omega)]
  by_cases hx : x < m
  · rw [if_pos hx, List.getElem?_take, if_pos hx, List.getElem?_drop]
    by_cases h1 : j ≤ x ∧ x < j + src.length
    · rw [if_pos (by omega), if_pos (by omega), show o + x - (o + j) = x - j by omega]
    · rw [if_neg (by omega), if_neg (by omega)]
  · rw [if_neg hx, if_neg (by omega), List.getElem?_eq_none (by omega)]


def AppT (P : Program) (t u k b : Nat) : Prop := ∃ e z, P.underlying t = some (.slice e) ∧ szO P e = some k ∧ bytesO P e = some b ∧ zeroP P e = some z ∧ z.cells.size = k ∧ 0 < k ∧ 0 < b ∧ isSeqT (P.underlying u) = true

def Src (g : Gm) (k : Nat) (w : Value) (m : Nat) (ds : List Value) : Prop := ∃ rs get objs, srcOf k w = some (rs, get, m) ∧ getAll g rs = some objs ∧ get objs = some ds ∧ ds.length = m * k

theorem SlC.src {g : Gm} {k n : Nat} {v : Value} {cs : List Value} (h : SlC g k v n cs) : Src g k v n cs := by
  obtain ⟨rs, get, objs, h1, h2, h3⟩ := src_slc h
  exact ⟨rs, get, objs, h1, h2, h3, h.1⟩
theorem Src.string (g : Gm) (s : ByteArray) : Src g 1 (.string s) s.size (u8c s.data.toList) :=
  ⟨[], fun _ => some (u8c s.data.toList), [], by unfold srcOf; exact if_pos rfl, rfl, rfl, by rw [u8c_length, Array.length_toList, Nat.mul_one]; rfl⟩

structure Grown (σ τ : Heap) (nm : Nat) (v v' : Value) : Prop where
  same : ∀ l, l ≠ nm → vname v ≠ some l → τ.get l = σ.get l
  nxt : τ.nxt = σ.nxt
  name : vname v' = none ∨ vname v' = vname v ∨ vname v' = some nm

theorem grow_app {P : Program} {t u k b : Nat} (hT : AppT P t u k b) {σ : Heap} {nm n m : Nat} {v x : Value} {cs ds : List Value} (hv : SlOwn σ.get k v n cs) (hs : Src σ.get k x m ds) (hone : plainL oneCell ds = true) (hfit : (n + m) * b ≤ 2 ^ 46) :
    ∃ p eff, aAppend P t u v x = some p ∧ p.run σ nm = some eff ∧ wrOk p eff = true ∧ SlOwn (σ.app nm eff).get k eff.val (n + m) (cs ++ ds) ∧ Grown σ (σ.app nm eff) nm v eff.val := by
  obtain ⟨e, z, h1, h2, h3, h4, h5, h6, h7, h8⟩ := hT
  obtain ⟨rs, get, objs, k1, k2, k3, k4⟩ := hs
  obtain ⟨p, eff, q1, q2, q3, q4, q5, q6, q7⟩ := grow_ok h1 h2 h3 h4 h5 h6 h7 h8 hv k1 k2 k3 k4 hone hfit (nm := nm)
  exact ⟨p, eff, q1, q2, q3, q4, q5, q6, q7⟩

theorem at_append {E : Env} {ops : Array Oper} {base i : Nat} {dst : Option Tmp} {ty : TypeId} {pos : String} {af : Array Edge} {gd : Option (Nat × Bool)} {x y : Operand} {t u k b : Nat} {os : List Oper} {a : Act} {σ : Heap} {K : Act → Heap → Prop} {n m : Nat} {v w : Value} {cs ds : List Value}
    (hT : AppT E.P t u k b) (hx : aeval a x = some v) (hy : aeval a y = some w) (hv : SlOwn σ.get k v n cs) (hs : Src σ.get k w m ds) (hone : plainL oneCell ds = true) (hfit : (n + m) * b ≤ 2 ^ 46)
    (h : ∀ v' τ, SlOwn τ.get k v' (n + m) (cs ++ ds) → Grown σ τ (base + i) v v' → runN E ops base (i + 1) os (a.put dst v') τ K) : At E ops base i ⟨dst, .call ⟨.builtin .append, #[x, y], #[t, u]⟩, ty, pos, af, gd⟩ os a σ K := by
  obtain ⟨p, eff, h1, h2, h3, h4, h5⟩ := grow_app hT hv hs hone hfit (nm := base + i)
  refine at_prim (p := p) (eff := eff) ?_ h2 h3 (h _ _ h4 h5)
  simp only [aop, aCall, List.toList_toArray, evList, hx, hy, Option.bind_some, Option.map_some, aBuiltin, h1]

theorem ats_append {E : Env} {ops : Array Oper} {base i : Nat} {lo : List Nat} {L : List (Nat × List Nat)} {D : List Rec} {dst : Option Tmp} {ty : TypeId} {pos : String} {af : Array Edge} {gd : Option (Nat × Bool)} {x y : Operand} {t u k b : Nat} {a : Act} {σ : Heap} {K : Act → Heap → Prop} {n m : Nat} {v w : Value} {cs ds : List Value}
    (hT : AppT E.P t u k b) (hx : aeval a x = some v) (hy : aeval a y = some w) (hv : SlOwn σ.get k v n cs) (hs : Src σ.get k w m ds) (hone : plainL oneCell ds = true) (hfit : (n + m) * b ≤ 2 ^ 46)
    (h : ∀ v' τ tch wrt, SlOwn τ.get k v' (n + m) (cs ++ ds) → Grown σ τ (base + i) v v' → clashS lo tch wrt D ∧ runT E ops base L (⟨i, tch, wrt, false⟩ :: D) (a.put dst v') τ K) : AtS E ops base i lo L D ⟨dst, .call ⟨.builtin .append, #[x, y], #[t, u]⟩, ty, pos, af, gd⟩ a σ K := by
  obtain ⟨p, eff, h1, h2, h3, h4, h5⟩ := grow_app hT hv hs hone hfit (nm := base + i)
  refine ats_prim (p := p) (eff := eff) ?_ h2 h3 ?_
  · simp only [aop, aCall, List.toList_toArray, evList, hx, hy, Option.bind_some, Option.map_some, aBuiltin, h1]
  · obtain ⟨k1, k2⟩ := h _ _ (tchOf p eff (base + i)) (wrtOf eff (base + i)) h4 h5
    exact ⟨by simp only [kindOf]; exact k1, k2⟩

theorem app43 : AppT E6.P 43 43 1 1 := ⟨5, _, un_43, sz_5, by_5, zp_5, rfl, by decide, by decide, by rw [un_43]; rfl⟩


theorem X_6 : E6.X 6 = none := rfl
theorem B_6 : E6.B 6 = true := rfl
theorem X_7 : E6.X 7 = none := rfl
theorem B_7 : E6.B 7 = true := rfl
theorem X_8 : E6.X 8 = none := rfl
theorem B_8 : E6.B 8 = true := rfl
theorem X_9 : E6.X 9 = none := rfl
theorem B_9 : E6.B 9 = true := rfl
theorem X_10 : E6.X 10 = none := rfl
theorem B_10 : E6.B 10 = true := rfl
theorem X_11 : E6.X 11 = none := rfl
theorem B_11 : E6.B 11 = true := rfl
theorem X_12 : E6.X 12 = none := rfl
theorem B_12 : E6.B 12 = true := rfl
theorem X_13 : E6.X 13 = none := rfl
theorem B_13 : E6.B 13 = true := rfl
theorem X_14 : E6.X 14 = none := rfl
theorem B_14 : E6.B 14 = true := rfl
theorem X_15 : E6.X 15 = none := rfl
theorem B_15 : E6.B 15 = true := rfl
theorem X_16 : E6.X 16 = none := rfl
theorem B_16 : E6.B 16 = true := rfl
theorem X_17 : E6.X 17 = none := rfl
theorem B_17 : E6.B 17 = true := rfl
theorem X_18 : E6.X 18 = none := rfl
theorem B_18 : E6.B 18 = true := rfl
theorem X_19 : E6.X 19 = none := rfl
theorem B_19 : E6.B 19 = true := rfl
theorem X_20 : E6.X 20 = none := rfl
theorem B_20 : E6.B 20 = true := rfl
theorem X_21 : E6.X 21 = none := rfl
theorem B_21 : E6.B 21 = true := rfl
theorem X_22 : E6.X 22 = none := rfl
theorem B_22 : E6.B 22 = true := rfl
theorem X_23 : E6.X 23 = none := rfl
theorem B_23 : E6.B 23 = true := rfl
theorem X_24 : E6.X 24 = none := rfl
theorem B_24 : E6.B 24 = true := rfl
theorem X_25 : E6.X 25 = none := rfl
theorem B_25 : E6.B 25 = true := rfl
theorem X_26 : E6.X 26 = none := rfl
theorem B_26 : E6.B 26 = true := rfl
theorem X_27 : E6.X 27 = none := rfl
theorem B_27 : E6.B 27 = true := rfl
theorem X_28 : E6.X 28 = none := rfl
theorem B_28 : E6.B 28 = true := rfl
theorem X_29 : E6.X 29 = none := rfl
theorem B_29 : E6.B 29 = true := rfl
theorem X_43 : E6.X 43 = none := rfl
theorem B_43 : E6.B 43 = true := rfl
theorem X_62 : E6.X 62 = none := rfl
theorem B_62 : E6.B 62 = true := rfl
theorem X_63 : E6.X 63 = none := rfl
theorem B_63 : E6.B 63 = true := rfl
theorem X_64 : E6.X 64 = none := rfl
theorem B_64 : E6.B 64 = true := rfl
theorem X_65 : E6.X 65 = none := rfl
theorem B_65 : E6.B 65 = true := rfl
theorem X_72 : E6.X 72 = none := rfl
theorem B_72 : E6.B 72 = true := rfl
theorem X_73 : E6.X 73 = none := rfl
theorem B_73 : E6.B 73 = true := rfl
theorem X_74 : E6.X 74 = none := rfl
theorem B_74 : E6.B 74 = true := rfl
theorem X_77 : E6.X 77 = none := rfl
theorem B_77 : E6.B 77 = true := rfl
theorem X_78 : E6.X 78 = none := rfl
theorem B_78 : E6.B 78 = true := rfl
theorem X_79 : E6.X 79 = none := rfl
theorem B_79 : E6.B 79 = true := rfl
theorem X_80 : E6.X 80 = none := rfl
theorem B_80 : E6.B 80 = true := rfl
theorem X_81 : E6.X 81 = none := rfl
theorem B_81 : E6.B 81 = true := rfl
theorem X_82 : E6.X 82 = none := rfl
theorem B_82 : E6.B 82 = true := rfl
theorem X_83 : E6.X 83 = none := rfl
theorem B_83 : E6.B 83 = true := rfl
theorem X_84 : E6.X 84 = none := rfl
theorem B_84 : E6.B 84 = true := rfl
theorem X_85 : E6.X 85 = none := rfl
theorem B_85 : E6.B 85 = true := rfl
theorem X_86 : E6.X 86 = none := rfl
theorem B_86 : E6.B 86 = true := rfl
theorem X_87 : E6.X 87 = none := rfl
theorem B_87 : E6.B 87 = true := rfl
theorem X_88 : E6.X 88 = none := rfl
theorem B_88 : E6.B 88 = true := rfl
theorem X_89 : E6.X 89 = none := rfl
theorem B_89 : E6.B 89 = true := rfl
theorem X_90 : E6.X 90 = none := rfl
theorem B_90 : E6.B 90 = true := rfl
theorem X_91 : E6.X 91 = none := rfl
theorem B_91 : E6.B 91 = true := rfl
theorem X_92 : E6.X 92 = none := rfl
theorem B_92 : E6.B 92 = true := rfl
theorem X_93 : E6.X 93 = none := rfl
theorem B_93 : E6.B 93 = true := rfl
theorem X_94 : E6.X 94 = none := rfl
theorem B_94 : E6.B 94 = true := rfl
theorem X_95 : E6.X 95 = none := rfl
theorem B_95 : E6.B 95 = true := rfl
theorem X_96 : E6.X 96 = none := rfl
theorem B_96 : E6.B 96 = true := rfl
theorem X_97 : E6.X 97 = none := rfl
theorem B_97 : E6.B 97 = true := rfl
theorem X_98 : E6.X 98 = none := rfl
theorem B_98 : E6.B 98 = true := rfl
theorem X_99 : E6.X 99 = none := rfl
theorem B_99 : E6.B 99 = true := rfl
theorem X_117 : E6.X 117 = none := rfl
theorem B_117 : E6.B 117 = true := rfl
theorem X_123 : E6.X 123 = none := rfl
theorem B_123 : E6.B 123 = true := rfl
theorem X_125 : E6.X 125 = none := rfl
theorem B_125 : E6.B 125 = true := rfl
theorem X_126 : E6.X 126 = none := rfl
theorem B_126 : E6.B 126 = true := rfl
theorem X_127 : E6.X 127 = none := rfl
theorem B_127 : E6.B 127 = true := rfl
theorem X_128 : E6.X 128 = none := rfl
theorem B_128 : E6.B 128 = true := rfl
theorem X_129 : E6.X 129 = none := rfl
theorem B_129 : E6.B 129 = true := rfl
theorem X_130 : E6.X 130 = none := rfl
theorem B_130 : E6.B 130 = true := rfl
theorem X_131 : E6.X 131 = none := rfl
theorem B_131 : E6.B 131 = true := rfl
theorem X_132 : E6.X 132 = none := rfl
theorem B_132 : E6.B 132 = true := rfl
theorem X_133 : E6.X 133 = none := rfl
theorem B_133 : E6.B 133 = true := rfl
theorem X_134 : E6.X 134 = none := rfl
theorem B_134 : E6.B 134 = true := rfl
theorem X_142 : E6.X 142 = none := rfl
theorem B_142 : E6.B 142 = true := rfl
theorem X_143 : E6.X 143 = none := rfl
theorem B_143 : E6.B 143 = true := rfl
theorem X_146 : E6.X 146 = none := rfl
theorem B_146 : E6.B 146 = true := rfl
theorem X_147 : E6.X 147 = none := rfl
theorem B_147 : E6.B 147 = true := rfl
theorem X_148 : E6.X 148 = none := rfl
theorem B_148 : E6.B 148 = true := rfl
theorem X_149 : E6.X 149 = none := rfl
theorem B_149 : E6.B 149 = true := rfl
theorem X_150 : E6.X 150 = none := rfl
theorem B_150 : E6.B 150 = true := rfl
theorem X_151 : E6.X 151 = none := rfl
theorem B_151 : E6.B 151 = true := rfl
theorem X_152 : E6.X 152 = none := rfl
theorem B_152 : E6.B 152 = true := rfl
theorem X_153 : E6.X 153 = none := rfl
theorem B_153 : E6.B 153 = true := rfl
theorem X_154 : E6.X 154 = none := rfl
theorem B_154 : E6.B 154 = true := rfl
theorem X_155 : E6.X 155 = none := rfl
theorem B_155 : E6.B 155 = true := rfl
theorem X_156 : E6.X 156 = none := rfl
theorem B_156 : E6.B 156 = true := rfl
theorem X_157 : E6.X 157 = none := rfl
theorem B_157 : E6.B 157 = true := rfl
theorem X_158 : E6.X 158 = none := rfl
theorem B_158 : E6.B 158 = true := rfl
theorem X_159 : E6.X 159 = none := rfl
theorem B_159 : E6.B 159 = true := rfl
theorem X_160 : E6.X 160 = none := rfl
theorem B_160 : E6.B 160 = true := rfl
theorem X_161 : E6.X 161 = none := rfl
theorem B_161 : E6.B 161 = true := rfl
theorem X_218 : E6.X 218 = none := rfl
theorem B_218 : E6.B 218 = true := rfl
theorem X_219 : E6.X 219 = none := rfl
theorem B_219 : E6.B 219 = true := rfl
theorem X_228 : E6.X 228 = none := rfl
theorem B_228 : E6.B 228 = true := rfl
theorem X_229 : E6.X 229 = none := rfl
theorem B_229 : E6.B 229 = true := rfl
theorem X_255 : E6.X 255 = none := rfl
theorem B_255 : E6.B 255 = true := rfl
theorem X_256 : E6.X 256 = none := rfl
theorem B_256 : E6.B 256 = true := rfl
theorem X_314 : E6.X 314 = none := rfl
theorem B_314 : E6.B 314 = true := rfl
theorem X_321 : E6.X 321 = none := rfl
theorem B_321 : E6.B 321 = true := rfl
theorem X_322 : E6.X 322 = none := rfl
theorem B_322 : E6.B 322 = true := rfl
theorem X_324 : E6.X 324 = none := rfl
theorem B_324 : E6.B 324 = true := rfl
theorem X_325 : E6.X 325 = none := rfl
theorem B_325 : E6.B 325 = true := rfl
theorem X_326 : E6.X 326 = none := rfl
theorem B_326 : E6.B 326 = true := rfl
theorem X_384 : E6.X 384 = none := rfl
theorem B_384 : E6.B 384 = true := rfl
theorem X_389 : E6.X 389 = none := rfl
theorem B_389 : E6.B 389 = true := rfl
theorem X_390 : E6.X 390 = none := rfl
theorem B_390 : E6.B 390 = true := rfl
theorem X_391 : E6.X 391 = none := rfl
theorem B_391 : E6.B 391 = true := rfl
theorem X_392 : E6.X 392 = none := rfl
theorem B_392 : E6.B 392 = true := rfl
theorem X_393 : E6.X 393 = none := rfl
theorem B_393 : E6.B 393 = true := rfl
theorem X_422 : E6.X 422 = none := rfl
theorem B_422 : E6.B 422 = true := rfl
theorem X_423 : E6.X 423 = none := rfl
theorem B_423 : E6.B 423 = true := rfl
theorem X_425 : E6.X 425 = none := rfl
theorem B_425 : E6.B 425 = true := rfl
theorem X_426 : E6.X 426 = none := rfl
theorem B_426 : E6.B 426 = true := rfl
theorem X_427 : E6.X 427 = none := rfl
theorem B_427 : E6.B 427 = true := rfl
theorem X_437 : E6.X 437 = none := rfl
theorem B_437 : E6.B 437 = true := rfl
theorem X_438 : E6.X 438 = none := rfl
theorem B_438 : E6.B 438 = true := rfl
theorem X_439 : E6.X 439 = none := rfl
theorem B_439 : E6.B 439 = true := rfl
theorem X_441 : E6.X 441 = none := rfl
theorem B_441 : E6.B 441 = true := rfl
attribute [push_cast] X_23 B_23 X_24 B_24 X_25 B_25 X_26 B_26 X_27 B_27 X_28 B_28 X_29 B_29 X_43 B_43 X_62 B_62 X_63 B_63 X_64 B_64 X_65 B_65 X_72 B_72 X_73 B_73 X_74 B_74 X_77 B_77 X_78 B_78 X_79 B_79 X_80 B_80 X_81 B_81 X_82 B_82 X_83 B_83 X_84 B_84 X_85 B_85 X_86 B_86 X_87 B_87 X_88 B_88 X_89 B_89 X_90 B_90 X_91 B_91 X_92 B_92 X_93 B_93 X_94 B_94 X_95 B_95 X_96 B_96 X_97 B_97 X_98 B_98 X_99 B_99 X_117 B_117 X_132 B_132 X_133 B_133

section
variable {ops : Array Oper} {base i : Nat} {os : List Oper} {o : Oper} {a : Act} {σ : Heap} {K : Act → Heap → Prop}

theorem at_fun (f : FuncId) (args : Array Value) (hc : aop E6 (aeval a) o = some (.call f args)) (h : σ.WF → ACall E6.P f args σ fun v τ => runN E6 ops base (i + 1) os (a.put o.dst v) τ K) : At E6 ops base i o os a σ K := at_call hc (ACall.wf h)

theorem ats_fun {lo : List Nat} {L : List (Nat × List Nat)} {D : List Rec} (f : FuncId) (args : Array Value) (hc : aop E6 (aeval a) o = some (.call f args)) (hf : callS lo D)
    (h : σ.WF → ACall E6.P f args σ fun v τ => keptS lo σ τ D ∧ runT E6 ops base L D (a.put o.dst v) τ K) : AtS E6 ops base i lo L D o a σ K := ats_call hc hf (ACall.wf h)
end

theorem ACall.use {P : Program} {f : FuncId} {args : Array Value} {σ : Heap} {R R' : Value → Heap → Prop} (h : ACall P f args σ R) (k : ∀ v τ, τ.WF → R v τ → R' v τ) : ACall P f args σ R' :=
  h.strong.mono fun v τ ⟨h1, h2, _⟩ => k v τ h2 h1


theorem Keeps.grown {F : Nat → Prop} {σ τ υ : Heap} {nm : Nat} {v v' : Value} (h : Keeps F σ τ) (hg : Grown τ υ nm v v') (hn : σ.nxt ≤ nm) (hv : ∀ l, vname v = some l → σ.nxt ≤ l ∨ (F l ∧ ∀ o, σ.get l = some o → stable o = false)) : Keeps F σ υ := by
  refine ⟨by rw [hg.nxt]; exact h.1, fun x o hx ho hf => ?_⟩
  by_cases e : vname v = some x
  · rcases hv x e with h1 | ⟨h1, h2⟩
    · omega
    · have := hf h1
      rw [h2 _ ho] at this; cases this
  · rw [hg.same x (by omega) e]
    exact h.2 x o hx ho hf

end Go.Proofs.YtfchjhfccnodpaaGreat
end
