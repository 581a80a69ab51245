/-
  STEPPING, ONCE MORE: more kinds of operations by themselves; where a call or a greater operation stands the walk stops. No condition.
-/
import Derived.Test.YtehmailaabjdjaaGreatRunQ
namespace Go.Proofs.YtehmailaabjdjaaGreat
set_option linter.unusedSimpArgs false
set_option linter.unusedVariables false

def unV (op : UnOp) (v : Value) : Option Value :=
 match op, v with
 | .not, .bool b => some (.bool !b)
 | _, _ => none

def placesL (P : Program) (t : TypeId) : Option (List (Nat × Nat)) :=
 match P.underlying t with
 | some (.struct fields) => (pureRun P (fields.mapM fun f => do pure (f.offset, ← sizeOf f.type))).map (·.toList)
 | _ => none

def fillL (pl : List (Nat × Nat)) : List Value → List (Nat × Value) → Option (List Value)
 | cs, [] => some cs
 | cs, (i, v) :: r => (pl[i]?).bind fun q => if v.cells.size = q.2 ∧ q.1 + q.2 ≤ cs.length then fillL pl (splice cs q.1 v.cells.toList) r else none

theorem foldl_splice : ∀ (vs : List Value) (cs : Array Value) (o j : Nat), o + j + vs.length ≤ cs.size → ((vs.zipIdx j).foldl (fun (cs : Array Value) (x : Value × Nat) => cs.setIfInBounds (o + x.2) x.1) cs).toList = splice cs.toList (o + j) vs
 | [], cs, o, j, h => by simp [splice]
 | v :: vs, cs, o, j, h => by
  simp only [List.length_cons] at h
  rw [List.zipIdx_cons, List.foldl_cons, foldl_splice vs _ o (j + 1) (by simp; omega)]
  simp only [splice, Array.toList_setIfInBounds, List.length_cons]
  rw [show o + (j + 1) = o + j + 1 by omega, show o + j + 1 + vs.length = o + j + (vs.length + 1) by omega]
  have h1 : o + j < cs.toList.length := by simp; omega
  rw [List.take_succ_eq_append_getElem (by simpa using h1), List.getElem_set_self, List.take_set_of_le (by omega), List.drop_set_of_lt (by omega)]
  simp

theorem fill_L {f : Nat → Option (Nat × Nat)} {pl : List (Nat × Nat)} (hf : ∀ i q, pl[i]? = some q → f i = some q) : ∀ (vs : List (Nat × Value)) (cs : List Value) (a : Array Value) (r : List Value), a.toList = cs → fillL pl cs vs = some r → Instr.fill f a vs = some r.toArray
 | [], cs, a, r, ha, h => by
  simp only [fillL, Option.some.injEq] at h
  subst h; subst ha; simp [Instr.fill]
 | (i, v) :: vs, cs, a, r, ha, h => by
  simp only [fillL, Option.bind_eq_some_iff] at h
  obtain ⟨⟨o, s⟩, h1, h2⟩ := h
  split at h2
  case isFalse => cases h2
  rename_i hc
  simp only at hc
  have hs : a.size = cs.length := by rw [← ha]; simp
  simp only [Instr.fill, hf i _ h1]
  rw [if_neg (by simp only [Bool.or_eq_true, decide_eq_true_eq, bne_iff_ne, ne_eq]; omega)]
  refine fill_L hf vs _ _ r ?_ h2
  have := foldl_splice v.cells.toList a o 0 (by simp; omega)
  rw [Nat.add_zero, ha] at this
  rw [← this]
  rw [← Array.foldl_toList, Array.toList_zipIdx]

def lenV : Value → Option Int
 | .slice _ n _ => some n
 | .string s => some s.size
 | _ => none
def fnId : Fn → Option FuncId
 | .func f => some f
 | _ => none

def elemZ (P : Program) (t : TypeId) : Option (List Value) :=
 match P.underlying t with
 | some (.slice e) => (zeroP P e).map (·.cells.toList)
 | _ => none

def rep (z : List Value) : Nat → List Value
 | 0 => []
 | n + 1 => z ++ rep z n
def plc (s : Nat) : Nat → Nat → List (Nat × Nat)
 | _, 0 => []
 | o, n + 1 => (o, s) :: plc s (o + s) n

def binD (d : TypeDesc) (op : BinOp) (u v : Value) : Option Value :=
 match u, v with
 | .int k a, .int k' b => if k = k' then intV op k a b else none
 | .string x, .string y => strV op x y
 | .bool x, .bool y => match op, d with
  | .eql, .bool => some (.bool (x == y))
  | .neq, .bool => some (.bool !(x == y))
  | _, _ => none
 | .pointer none, .pointer none => match op, d with
  | .eql, .pointer _ => some (.bool true)
  | .neq, .pointer _ => some (.bool false)
  | _, _ => none
 | .pointer (some _), .pointer none => match op, d with
  | .eql, .pointer _ => some (.bool false)
  | .neq, .pointer _ => some (.bool true)
  | _, _ => none
 | .slice none _ _, .slice none _ _ => match op, d with
  | .eql, .slice _ => some (.bool true)
  | .neq, .slice _ => some (.bool false)
  | _, _ => none
 | .slice (some _) _ _, .slice none _ _ => match op, d with
  | .eql, .slice _ => some (.bool false)
  | .neq, .slice _ => some (.bool true)
  | _, _ => none
 | _, _ => none

theorem binD_ok {P : Program} {t : TypeId} {d : TypeDesc} {op : BinOp} {u v r : Value} (hu : P.underlying t = some d) (h : binD d op u v = some r) : binV P op t u v = some r := by
 unfold binD at h
 unfold binV
 split at h <;> simp only [hu] at h ⊢
 ·exact h
 ·exact h
 all_goals first
  | (cases h; done)
  | (split at h <;> first | (cases h; done) | exact h)

def binS (P : Program) (op : BinOp) (t : TypeId) (u v : Value) : Option Value :=
 match u, v with
 | .int k a, .int k' b => if k = k' then intV op k a b else none
 | .string x, .string y => strV op x y
 | u, v => (P.underlying t).bind fun d => binD d op u v

theorem binS_ok {P : Program} {op : BinOp} {t : TypeId} {u v r : Value} (h : binS P op t u v = some r) : binV P op t u v = some r := by
 unfold binS at h
 split at h
 ·exact h
 ·exact h
 ·obtain ⟨d, h1, h2⟩ := Option.bind_eq_some_iff.1 h
  exact binD_ok h1 h2

def lenD (d : TypeDesc) (v : Value) : Bool :=
 match d, v with
 | .string, .string _ => true
 | .slice _, .slice _ _ _ => true
 | _, _ => false

def stepN (E : Env) (a : Act) (σ : Heap) (nm : Nat) (o : Oper) (k : KK) : Prop :=
 match o.op with
 | .binOp op t x y _ => obind (aeval a x) fun u => obind (aeval a y) fun v => obind (binS E.P op t u v) fun r => k (a.put o.dst r) σ [] []
 | .indexAddr t x ix => obind (elemS E.P t) fun s => obind (aeval a ix) fun i => obind (asI i) fun i => obind (aeval a x) fun v => obind (asSl v) fun q =>
   cbind (0 ≤ i ∧ i < q.2.2.1) (k (a.put o.dst (.pointer (some ⟨q.1, q.2.1 + i.toNat * s, none⟩))) σ [] [])
 | .unOp op _ x => obind (aeval a x) fun v => obind (unV op v) fun r => k (a.put o.dst r) σ [] []
 | .build t ps => obind (placesL E.P t) fun pl => obind (zeroP E.P t) fun z => obind (evParts (aeval a) ps.toList) fun vs => obind (fillL pl z.cells.toList vs) fun cs => k (a.put o.dst (.agg cs.toArray)) σ [] []
 | .makeFunc fn fs cs => obind (fnId fn) fun g => obind (evList (aeval a) fs.toList) fun x => obind (evList (aeval a) cs.toList) fun y => k (a.put o.dst (.func (.func g) x.toArray y.toArray)) σ [] []
 | .buildSlice t n ps => obind (elemS E.P t) fun s => obind (elemZ E.P t) fun z => obind (evParts (aeval a) ps.toList) fun vs => obind (fillL (plc s 0 n) (rep z n) vs) fun cs =>
   cbind (0 < s ∧ n * s ≤ 16777216 ∧ z.length = s ∧ plainL plainV z = true) (k (a.put o.dst (.slice (some ⟨nm, 0, none⟩) n n)) (σ.upd nm (some (.cells cs s false))) [nm] [nm])
 | .call c => match c.callee with
  | .builtin .len => obind c.args[0]? fun x => obind c.argTypes[0]? fun t => obind (aeval a x) fun v => obind (lenV v) fun n => obind (E.P.underlying t) fun d => cbind (c.args.size = 1 ∧ c.argTypes.size = 1 ∧ lenD d v = true) (k (a.put o.dst (.int .i64 n)) σ [] [])
  | .builtin .min => obind c.args[0]? fun x => obind c.args[1]? fun y => obind (aeval a x) fun u => obind (aeval a y) fun v => obind (asI u) fun m => obind (asI v) fun n => cbind (c.args.size = 2 ∧ u = .int .i64 m ∧ v = .int .i64 n) (k (a.put o.dst (.int .i64 (min m n))) σ [] [])
  | .builtin .max => obind c.args[0]? fun x => obind c.args[1]? fun y => obind (aeval a x) fun u => obind (aeval a y) fun v => obind (asI u) fun m => obind (asI v) fun n => cbind (c.args.size = 2 ∧ u = .int .i64 m ∧ v = .int .i64 n) (k (a.put o.dst (.int .i64 (max m n))) σ [] [])
  | _ => False
 | _ => stepK E a σ nm o k

theorem rep_get (z : List Value) : ∀ (n i : Nat), i < n * z.length → (rep z n)[i]? = z[i % z.length]?
 | 0, i, h => by simp at h
 | n + 1, i, h => by
  simp only [rep]
  by_cases hi : i < z.length
  ·rw [List.getElem?_append_left hi, Nat.mod_eq_of_lt hi]
  ·rw [List.getElem?_append_right (by omega), rep_get z n (i - z.length) (by rw [Nat.add_mul] at h; omega), ← Nat.mod_eq_sub_mod (by omega)]
theorem rep_len (z : List Value) : ∀ n, (rep z n).length = n * z.length
 | 0 => by simp [rep]
 | n + 1 => by simp only [rep, List.length_append, rep_len z n, Nat.add_mul]; omega
theorem plc_get (s : Nat) : ∀ (n o i : Nat) (q : Nat × Nat), (plc s o n)[i]? = some q → q = (o + i * s, s)
 | 0, o, i, q, h => by simp [plc] at h
 | n + 1, o, 0, q, h => by simp only [plc, List.getElem?_cons_zero, Option.some.injEq] at h; rw [← h]; simp
 | n + 1, o, i + 1, q, h => by
  simp only [plc, List.getElem?_cons_succ] at h
  rw [plc_get s n (o + s) i q h, Nat.add_mul]
  congr 1; omega

theorem arr1 {α : Type} {a : Array α} {x : α} (h : a[0]? = some x) (hs : a.size = 1) : a.toList = [x] := by
 obtain ⟨l⟩ := a
 simp at h hs
 match l, hs with
 | [y], _ => simp at h; simp [h]
theorem arr2 {α : Type} {a : Array α} {x y : α} (h : a[0]? = some x) (h' : a[1]? = some y) (hs : a.size = 2) : a.toList = [x, y] := by
 obtain ⟨l⟩ := a
 simp at h h' hs
 match l, hs with
 | [u, v], _ => simp at h h'; simp [h, h']

theorem stepN_ok {E : Env} {a : Act} {σ : Heap} {nm : Nat} {o : Oper} {k : KK} (h : stepN E a σ nm o k) : stepG E a σ nm o k := by
 obtain ⟨dst, op, ty, pos, af, g⟩ := o
 unfold stepN at h
 cases op <;> simp only at h <;> first | exact stepK_ok h | skip
 case binOp op t x y yt =>
  replace h := obind_spec h; obtain ⟨u, h1, h⟩ := h
  replace h := obind_spec h; obtain ⟨v, h2, h⟩ := h
  replace h := obind_spec h; obtain ⟨r, h4, h⟩ := h
  exact stepG_val (v := r) (by simp only [aop, binV_ok h1 h2 (binS_ok h4), Option.map_some]) h
 case indexAddr t x ix =>
  replace h := obind_spec h; obtain ⟨s, hs, h⟩ := h
  replace h := obind_spec h; obtain ⟨iv, h1, h⟩ := h
  replace h := obind_spec h; obtain ⟨i, h2, h⟩ := h
  replace h := obind_spec h; obtain ⟨v, h3, h⟩ := h
  replace h := obind_spec h; obtain ⟨q, h4, h⟩ := h
  obtain ⟨hc, h⟩ := h
  obtain ⟨k', rfl⟩ := asI_spec h2
  have := asSl_spec h4; subst this
  unfold elemS at hs
  split at hs
  case h_2 => cases hs
  rename_i e hu
  exact stepG_val (v := _) (by simp only [aop, aIndexAddr, h1, h3, hu, hs, Option.bind_some, if_pos hc, Option.map_some]) h
 case unOp op t x =>
  replace h := obind_spec h; obtain ⟨v, h1, h⟩ := h
  replace h := obind_spec h; obtain ⟨r, h2, h⟩ := h
  unfold unV at h2
  split at h2
  case h_2 => cases h2
  cases h2
  rename_i b
  refine stepG_val (v := .bool !b) ?_ h
  simp only [aop, plainEv, h1, Option.bind_some]
  rw [if_pos (show plainV (.bool b) = true from rfl)]
  simp only [Option.bind_some]
  rfl
 case build t ps =>
  replace h := obind_spec h; obtain ⟨pl, h1, h⟩ := h
  replace h := obind_spec h; obtain ⟨z, h2, h⟩ := h
  replace h := obind_spec h; obtain ⟨vs, h3, h⟩ := h
  replace h := obind_spec h; obtain ⟨cs, h4, h⟩ := h
  unfold placesL at h1
  split at h1
  case h_2 => cases h1
  rename_i fields hu
  obtain ⟨q, e1, rfl⟩ := Option.map_eq_some_iff.1 h1
  refine stepG_val (v := .agg cs.toArray) ?_ h
  have hp : placesO E.P t = some (q[·]?) := by
   unfold placesO
   rw [hu]
   simp only [Option.bind_some, e1, Option.map_some]
  have hfill : Instr.fill (q[·]?) z.cells vs = some cs.toArray := fill_L (f := (q[·]?)) (pl := q.toList) (fun i x hx => by simpa using hx) vs _ z.cells cs rfl h4
  simp only [aop, aBuild, h2, hp, h3, Option.bind_some]
  rw [hfill]; rfl
 case buildSlice t n ps =>
  replace h := obind_spec h; obtain ⟨s, h1, h⟩ := h
  replace h := obind_spec h; obtain ⟨z, h2, h⟩ := h
  replace h := obind_spec h; obtain ⟨vs, h3, h⟩ := h
  replace h := obind_spec h; obtain ⟨cs, h4, h⟩ := h
  obtain ⟨⟨c1, c2, c3, c4⟩, h⟩ := h
  unfold elemS at h1
  split at h1
  case h_2 => cases h1
  rename_i e hu
  unfold elemZ at h2
  rw [hu] at h2
  simp only at h2
  obtain ⟨zz, e1, rfl⟩ := Option.map_eq_some_iff.1 h2
  have hzs : zz.cells.size = s := by simpa using c3
  have hrow : ((Array.range (n * s)).map (zz.cells[· % zz.cells.size]!)).toList = rep zz.cells.toList n := by
   apply List.ext_getElem?
   intro i
   rw [Array.toList_map, List.getElem?_map, Array.toList_range]
   by_cases hi : i < n * s
   ·rw [List.getElem?_range hi, rep_get _ _ _ (by simpa [hzs] using hi)]
    have hlt : i % zz.cells.size < zz.cells.size := Nat.mod_lt _ (by omega)
    simp only [Option.map_some, Array.length_toList, Array.getElem?_toList]
    rw [Array.getElem?_eq_getElem hlt, getElem!_pos zz.cells _ hlt]
   ·rw [List.getElem?_eq_none (by simpa using hi), List.getElem?_eq_none (by rw [rep_len]; simpa [hzs] using hi)]; rfl
  have hfill : Instr.fill (fun i => some (i * s, s)) ((Array.range (n * s)).map (zz.cells[· % zz.cells.size]!)) vs = some cs.toArray :=
   fill_L (pl := plc s 0 n) (fun i x hx => by rw [plc_get s n 0 i x hx]; simp) vs _ _ cs hrow h4
  refine ⟨Prim.newSlice cs s n, ⟨.slice (some ⟨nm, 0, none⟩) n n, none, some (.cells cs s false)⟩, ?_, rfl, rfl, h⟩
  have hc : (decide (n * s ≤ 2 ^ 24) && decide (0 < s) && decide (zz.cells.size = s) && plainL plainV zz.cells.toList) = true := by simp [c1, hzs, c4]; omega
  simp only [aop, aBuildSlice, hu, h1, e1, h3, Option.bind_some]
  rw [if_pos hc, hfill]
  simp
 case makeFunc fn fs cs =>
  replace h := obind_spec h; obtain ⟨g', h1, h⟩ := h
  replace h := obind_spec h; obtain ⟨x, h2, h⟩ := h
  replace h := obind_spec h; obtain ⟨y, h3, h⟩ := h
  unfold fnId at h1
  split at h1
  case h_2 => cases h1
  cases h1
  exact stepG_val (v := _) (by simp only [aop, aMakeFunc, h2, h3, Option.bind_some, Option.map_some]) h
 case call c =>
  obtain ⟨callee, args, ts⟩ := c
  split at h
  ·rename_i hb
   simp only at hb; subst hb
   replace h := obind_spec h; obtain ⟨x, h1, h⟩ := h
   replace h := obind_spec h; obtain ⟨t, h2, h⟩ := h
   replace h := obind_spec h; obtain ⟨v, h3, h⟩ := h
   replace h := obind_spec h; obtain ⟨n, h4, h⟩ := h
   replace h := obind_spec h; obtain ⟨d, hu, h⟩ := h
   obtain ⟨⟨c1, c2, c3⟩, h⟩ := h
   refine stepG_val (v := .int .i64 n) ?_ h
   simp only at h1 h2 c1 c2
   simp only [aop, aCall, arr1 h1 c1, evList, h3, Option.bind_some, Option.map_some, aBuiltin, arr1 h2 c2]
   unfold lenD at c3
   split at c3
   ·rename_i s
    simp only [lenV, Option.some.injEq] at h4
    subst h4
    simp only [aLen, hu, Option.map_some]
   ·rename_i e p m c'
    simp only [lenV, Option.some.injEq] at h4
    subst h4
    simp only [aLen, hu, Option.map_some]
   ·cases c3
  ·rename_i hb
   simp only at hb; subst hb
   replace h := obind_spec h; obtain ⟨x, h1, h⟩ := h
   replace h := obind_spec h; obtain ⟨y, h2, h⟩ := h
   replace h := obind_spec h; obtain ⟨u, h3, h⟩ := h
   replace h := obind_spec h; obtain ⟨v, h4, h⟩ := h
   replace h := obind_spec h; obtain ⟨m, h5, h⟩ := h
   replace h := obind_spec h; obtain ⟨n, h6, h⟩ := h
   obtain ⟨⟨c1, rfl, rfl⟩, h⟩ := h
   rw [show min m n = (if n < m then n else m) by rw [Int.min_def]; split <;> split <;> omega] at h
   refine stepG_val (v := .int .i64 (if n < m then n else m)) ?_ h
   simp only at h1 h2 c1
   simp only [aop, aCall, arr2 h1 h2 c1, evList, h3, h4, Option.bind_some, Option.map_some, aBuiltin]
   rw [if_pos (show plainL plainV [.int .i64 m, .int .i64 n] = true from rfl)]
   rfl
  ·rename_i hb
   simp only at hb; subst hb
   replace h := obind_spec h; obtain ⟨x, h1, h⟩ := h
   replace h := obind_spec h; obtain ⟨y, h2, h⟩ := h
   replace h := obind_spec h; obtain ⟨u, h3, h⟩ := h
   replace h := obind_spec h; obtain ⟨v, h4, h⟩ := h
   replace h := obind_spec h; obtain ⟨m, h5, h⟩ := h
   replace h := obind_spec h; obtain ⟨n, h6, h⟩ := h
   obtain ⟨⟨c1, rfl, rfl⟩, h⟩ := h
   rw [show max m n = (if n > m then n else m) by rw [Int.max_def]; split <;> split <;> omega] at h
   refine stepG_val (v := .int .i64 (if n > m then n else m)) ?_ h
   simp only at h1 h2 c1
   simp only [aop, aCall, arr2 h1 h2 c1, evList, h3, h4, Option.bind_some, Option.map_some, aBuiltin]
   rw [if_pos (show plainL plainV [.int .i64 m, .int .i64 n] = true from rfl)]
   rfl
  ·exact h.elim

def easy (o : Oper) : Bool :=
 match o.op with
 | .move _ => true
 | .assign _ => true
 | .pick _ _ _ => true
 | .alloc _ => true
 | .box _ _ => true
 | .load _ _ => true
 | .store _ _ _ => true
 | .nilCheck _ => true
 | .binOp _ _ _ _ _ => true
 | .fieldAddr _ _ _ => true
 | .field _ _ _ => true
 | .indexAddr _ _ _ => true
 | .extract _ _ => true
 | .unOp _ _ _ => true
 | .build _ _ => true
 | .makeFunc _ _ _ => true
 | .buildSlice _ _ _ => true
 | .call c => match c.callee with
  | .builtin .len => true
  | .builtin .min => true
  | .builtin .max => true
  | _ => false
 | _ => false

def At (E : Env) (ops : Array Oper) (base i : Nat) (o : Oper) (os : List Oper) (a : Act) (σ : Heap) (K : Act → Heap → Prop) : Prop :=
 ops[i]? = some o → Region.wanted o (yielded ops a.tmps) = true → (∀ j p, os[j]? = some p → ops[i + 1 + j]? = some p) → runL E ops base (i :: List.range' (i + 1) os.length) a σ K

theorem cases2_t (x y : Prop) : cases2 true x y = x := rfl
theorem cases2_f (x y : Prop) : cases2 false x y = y := rfl
@[congr] theorem cases2_congr {b b' : Bool} (h : b = b') (x y : Prop) : cases2 b x y = cases2 b' x y := by rw [h]
def gbind (g : Option (Nat × Bool)) (x : Prop) (y : Nat → Bool → Prop) : Prop :=
 match g with
 | none => x
 | some q => y q.1 q.2
@[congr] theorem gbind_congr {g g' : Option (Nat × Bool)} (h : g = g') (x : Prop) (y : Nat → Bool → Prop) : gbind g x y = gbind g' x y := by rw [h]

def runN (E : Env) (ops : Array Oper) (base : Nat) : Nat → List Oper → Act → Heap → (Act → Heap → Prop) → Prop
 | _, [], a, σ, K => K a σ
 | i, o :: os, a, σ, K =>
  gbind o.guard (cases2 (easy o) (stepN E a σ (base + i) o fun a σ _ _ => runN E ops base (i + 1) os a σ K) (At E ops base i o os a σ K))
   fun j b => obind (gdst ops j) fun d => obind (aeval a (.tmp d)) fun v => obind (asB v) fun t =>
    tbind (t == b) (cases2 (easy o) (stepN E a σ (base + i) o fun a σ _ _ => runN E ops base (i + 1) os a σ K) (At E ops base i o os a σ K)) (runN E ops base (i + 1) os (a.put o.dst undef) σ K)

theorem guard_yield {ops : Array Oper} {a : Act} {o : Oper} {j d : Nat} {b t : Bool} {v : Value} (hg : o.guard = some (j, b)) (h1 : gdst ops j = some d) (h2 : aeval a (.tmp d) = some v) (h3 : asB v = some t) :
  Region.wanted o (yielded ops a.tmps) = (t == b) := by
 have hv := asB_spec h3
 subst hv
 simp only [Region.wanted, hg, yielded]
 unfold gdst at h1
 rw [h1]
 simp only [aeval, Option.some.injEq] at h2
 simp only [Option.bind_some]
 rw [Array.getD_eq_getD_getElem?] at h2
 cases hd : a.tmps[d]? with
 | none => rw [hd] at h2; simp [undef] at h2
 | some u =>
  rw [hd] at h2
  simp only [Option.getD_some] at h2
  subst h2
  cases t <;> cases b <;> rfl

theorem runN_ok {E : Env} {ops : Array Oper} {base : Nat} {K : Act → Heap → Prop} : ∀ (os : List Oper) (i : Nat) (a : Act) (σ : Heap), (∀ j o, os[j]? = some o → ops[i + j]? = some o) → runN E ops base i os a σ K →
  runL E ops base (List.range' i os.length) a σ K
 | [], i, a, σ, _, h => h
 | o :: os, i, a, σ, hops, h => by
  have ho : ops[i]? = some o := hops 0 o rfl
  have hrest : ∀ j p, os[j]? = some p → ops[i + 1 + j]? = some p := fun j p hj => by
   have := hops (j + 1) p (by simpa using hj)
   rwa [show i + (j + 1) = i + 1 + j by omega] at this
  have step : Region.wanted o (yielded ops a.tmps) = true → (cases2 (easy o) (stepN E a σ (base + i) o fun a σ _ _ => runN E ops base (i + 1) os a σ K) (At E ops base i o os a σ K)) → runL E ops base (i :: List.range' (i + 1) os.length) a σ K := by
   intro hw hs
   unfold cases2 at hs
   split at hs
   ·obtain ⟨p, eff, h1, h2, h3, h4⟩ := stepN_ok hs
    exact runL_prim ho hw h1 h2 h3 (runN_ok os (i + 1) _ _ hrest h4)
   ·exact hs ho hw hrest
  show runL E ops base (i :: List.range' (i + 1) os.length) a σ K
  simp only [runN] at h
  unfold gbind at h
  split at h
  ·rename_i hg
   exact step (by simp [Region.wanted, hg]) h
  ·rename_i q hg
   obtain ⟨j, b⟩ := q
   replace h := obind_spec h; obtain ⟨d, h1, h⟩ := h
   replace h := obind_spec h; obtain ⟨v, h2, h⟩ := h
   replace h := obind_spec h; obtain ⟨t, h3, h⟩ := h
   have hy := guard_yield hg h1 h2 h3
   cases hb : (t == b) with
   | true => exact step (by rw [hy, hb]) (h.1 hb)
   | false =>
    simp only [runL, ho]
    rw [if_neg (by rw [hy, hb]; simp)]
    exact runN_ok os (i + 1) _ σ hrest (h.2 hb)

theorem awp_region_n {E : Env} (hE : EnvOk E) {id : Nat} {ops : Array Oper} {Q : AQ} {a : Act} {σ : Heap}
  (h : ∀ K : Act → Heap → Prop, (∀ a σ, Q .normal a σ → K a σ) → runN E ops σ.nxt 0 ops.toList a (σ.bump ops.size) K) : AWP E.P (.region id ops false) Q a σ := by
 refine awp_region hE ?_
 have h1 := runN_ok (E := E) (ops := ops) (base := σ.nxt) ops.toList 0 a (σ.bump ops.size) (fun j o hj => by simpa using hj) (h (Q .normal) fun _ _ h => h)
 rwa [Array.length_toList, ← List.range_eq_range'] at h1

section
variable {E : Env} {ops : Array Oper} {base i : Nat} {o : Oper} {os : List Oper} {a : Act} {σ : Heap} {K : Act → Heap → Prop}

theorem at_prim {p : Prim} {eff : Eff} (h1 : aop E (aeval a) o = some (.prim p)) (h2 : p.run σ (base + i) = some eff) (h3 : wrOk p eff = true) (h : runN E ops base (i + 1) os (a.put o.dst eff.val) (σ.app (base + i) eff) K) :
  At E ops base i o os a σ K := by
 intro ho hw hr
 exact runL_prim ho hw h1 h2 h3 (runN_ok os (i + 1) _ _ hr h)

end

def AtS (E : Env) (ops : Array Oper) (base i : Nat) (lo : List Nat) (L : List (Nat × List Nat)) (D : List Rec) (o : Oper) (a : Act) (σ : Heap) (K : Act → Heap → Prop) : Prop :=
 ∀ (dep : Dep) (pre : List Nat) (D' : List Rec), ops[i]? = some o → Region.wanted o (yielded ops a.tmps) = true → planOkB ops dep pre ((i, lo) :: L) = true → Slim ops pre D D' → runD E ops base dep (i :: L.map (·.1)) D' a σ K

def touchT (o : Oper) (i : Nat) (lo : List Nat) (D : List Rec) (tch wrt : List Nat) (k : List Rec → Prop) : Prop :=
 cases2 (touches o) (cbind (if kindOf o = 2 then True else clashS lo tch wrt D) (k (⟨i, tch, wrt, kindOf o == 2⟩ :: D))) (cbind (tch = [] ∧ wrt = []) (k D))
theorem touchT_ok {o : Oper} {i : Nat} {lo : List Nat} {D : List Rec} {tch wrt : List Nat} {k : List Rec → Prop} (h : touchT o i lo D tch wrt k) : touchK o i lo D tch wrt k := by
 unfold touchT cases2 at h
 unfold touchK
 split at h
 ·rename_i ht; rw [ht]; exact h
 ·rename_i ht; rw [ht]; exact h

def runT (E : Env) (ops : Array Oper) (base : Nat) : List (Nat × List Nat) → List Rec → Act → Heap → (Act → Heap → Prop) → Prop
 | [], _, a, σ, K => K a σ
 | (i, lo) :: L, D, a, σ, K => obind ops[i]? fun o =>
  gbind o.guard (cases2 (easy o) (stepN E a σ (base + i) o fun a σ tch wrt => touchT o i lo D tch wrt fun D => runT E ops base L D a σ K) (AtS E ops base i lo L D o a σ K))
   fun j b => obind (gdst ops j) fun d => obind (aeval a (.tmp d)) fun v => obind (asB v) fun t =>
    tbind (t == b) (cases2 (easy o) (stepN E a σ (base + i) o fun a σ tch wrt => touchT o i lo D tch wrt fun D => runT E ops base L D a σ K) (AtS E ops base i lo L D o a σ K)) (runT E ops base L D (a.put o.dst undef) σ K)

theorem plan_lo {ops : Array Oper} {dep : Dep} {pre lo : List Nat} {i : Nat} {L : List (Nat × List Nat)} (h : planOkB ops dep pre ((i, lo) :: L) = true) :
  (∀ j ∈ pre, touchesAt ops j = true → dep i j = true ∨ memN j lo = true) ∧ planOkB ops dep (i :: pre) L = true := by
 simp only [planOkB, Bool.and_eq_true, List.all_eq_true] at h
 refine ⟨fun j hj ht => ?_, h.2⟩
 have := h.1 j hj
 rw [ht] at this
 simpa using this

section
variable {E : Env} {ops : Array Oper} {base i : Nat} {lo : List Nat} {L : List (Nat × List Nat)} {D : List Rec} {o : Oper} {a : Act} {σ : Heap} {K : Act → Heap → Prop}

end

theorem runN_nil {E : Env} {ops : Array Oper} {base i : Nat} {a : Act} {σ : Heap} {K : Act → Heap → Prop} : runN E ops base i [] a σ K = K a σ := id rfl
theorem runN_n {E : Env} {ops : Array Oper} {base i : Nat} {os : List Oper} {a : Act} {σ : Heap} {K : Act → Heap → Prop} {dst : Option Tmp} {op : Op} {ty : TypeId} {pos : String} {af : Array Edge} :
  runN E ops base i (⟨dst, op, ty, pos, af, none⟩ :: os) a σ K = cases2 (easy ⟨dst, op, ty, pos, af, none⟩) (stepN E a σ (base + i) ⟨dst, op, ty, pos, af, none⟩ fun a σ _ _ => runN E ops base (i + 1) os a σ K) (At E ops base i ⟨dst, op, ty, pos, af, none⟩ os a σ K) := id rfl
theorem runN_g {E : Env} {ops : Array Oper} {base i : Nat} {os : List Oper} {a : Act} {σ : Heap} {K : Act → Heap → Prop} {dst : Option Tmp} {op : Op} {ty : TypeId} {pos : String} {af : Array Edge} {j : Nat} {b : Bool} :
  runN E ops base i (⟨dst, op, ty, pos, af, some (j, b)⟩ :: os) a σ K = obind (gdst ops j) fun d => obind (aeval a (.tmp d)) fun v => obind (asB v) fun t =>
    tbind (t == b) (cases2 (easy ⟨dst, op, ty, pos, af, some (j, b)⟩) (stepN E a σ (base + i) ⟨dst, op, ty, pos, af, some (j, b)⟩ fun a σ _ _ => runN E ops base (i + 1) os a σ K) (At E ops base i ⟨dst, op, ty, pos, af, some (j, b)⟩ os a σ K))
     (runN E ops base (i + 1) os (a.put dst undef) σ K) := id rfl

def runU (E : Env) (ops : Array Oper) (base i : Nat) (lo : List Nat) (L : List (Nat × List Nat)) (D : List Rec) (o : Oper) (a : Act) (σ : Heap) (K : Act → Heap → Prop) : Prop :=
 gbind o.guard (cases2 (easy o) (stepN E a σ (base + i) o fun a σ tch wrt => touchT o i lo D tch wrt fun D => runT E ops base L D a σ K) (AtS E ops base i lo L D o a σ K))
   fun j b => obind (gdst ops j) fun d => obind (aeval a (.tmp d)) fun v => obind (asB v) fun t =>
    tbind (t == b) (cases2 (easy o) (stepN E a σ (base + i) o fun a σ tch wrt => touchT o i lo D tch wrt fun D => runT E ops base L D a σ K) (AtS E ops base i lo L D o a σ K)) (runT E ops base L D (a.put o.dst undef) σ K)

theorem runT_nil {E : Env} {ops : Array Oper} {base : Nat} {D : List Rec} {a : Act} {σ : Heap} {K : Act → Heap → Prop} : runT E ops base [] D a σ K = K a σ := id rfl
theorem runT_cons {E : Env} {ops : Array Oper} {base i : Nat} {lo : List Nat} {L : List (Nat × List Nat)} {D : List Rec} {a : Act} {σ : Heap} {K : Act → Heap → Prop} :
  runT E ops base ((i, lo) :: L) D a σ K = obind ops[i]? fun o => runU E ops base i lo L D o a σ K := id rfl
theorem runU_n {E : Env} {ops : Array Oper} {base i : Nat} {lo : List Nat} {L : List (Nat × List Nat)} {D : List Rec} {a : Act} {σ : Heap} {K : Act → Heap → Prop} {dst : Option Tmp} {op : Op} {ty : TypeId} {pos : String} {af : Array Edge} :
  runU E ops base i lo L D ⟨dst, op, ty, pos, af, none⟩ a σ K = cases2 (easy ⟨dst, op, ty, pos, af, none⟩) (stepN E a σ (base + i) ⟨dst, op, ty, pos, af, none⟩ fun a σ tch wrt => touchT ⟨dst, op, ty, pos, af, none⟩ i lo D tch wrt fun D => runT E ops base L D a σ K)
   (AtS E ops base i lo L D ⟨dst, op, ty, pos, af, none⟩ a σ K) := id rfl
theorem runU_g {E : Env} {ops : Array Oper} {base i : Nat} {lo : List Nat} {L : List (Nat × List Nat)} {D : List Rec} {a : Act} {σ : Heap} {K : Act → Heap → Prop} {dst : Option Tmp} {op : Op} {ty : TypeId} {pos : String} {af : Array Edge} {j : Nat} {b : Bool} :
  runU E ops base i lo L D ⟨dst, op, ty, pos, af, some (j, b)⟩ a σ K = obind (gdst ops j) fun d => obind (aeval a (.tmp d)) fun v => obind (asB v) fun t =>
    tbind (t == b) (cases2 (easy ⟨dst, op, ty, pos, af, some (j, b)⟩) (stepN E a σ (base + i) ⟨dst, op, ty, pos, af, some (j, b)⟩ fun a σ tch wrt => touchT ⟨dst, op, ty, pos, af, some (j, b)⟩ i lo D tch wrt fun D => runT E ops base L D a σ K)
     (AtS E ops base i lo L D ⟨dst, op, ty, pos, af, some (j, b)⟩ a σ K)) (runT E ops base L D (a.put dst undef) σ K) := id rfl

section
variable {dst : Option Tmp} {ty : TypeId} {pos : String} {af : Array Edge} {gd : Option (Nat × Bool)}
theorem easy_move (x : Operand) : easy ⟨dst, .move x, ty, pos, af, gd⟩ = true := id rfl
theorem tch_move (x : Operand) : touches ⟨dst, .move x, ty, pos, af, gd⟩ = false := id rfl
theorem easy_assign (x : Operand) : easy ⟨dst, .assign x, ty, pos, af, gd⟩ = true := id rfl
theorem tch_assign (x : Operand) : touches ⟨dst, .assign x, ty, pos, af, gd⟩ = false := id rfl
theorem easy_pick (c x y : Operand) : easy ⟨dst, .pick c x y, ty, pos, af, gd⟩ = true := id rfl
theorem tch_pick (c x y : Operand) : touches ⟨dst, .pick c x y, ty, pos, af, gd⟩ = false := id rfl
theorem easy_alloc (t : TypeId) : easy ⟨dst, .alloc t, ty, pos, af, gd⟩ = true := id rfl
theorem tch_alloc (t : TypeId) : touches ⟨dst, .alloc t, ty, pos, af, gd⟩ = true := id rfl
theorem easy_box (t : TypeId) (x : Operand) : easy ⟨dst, .box t x, ty, pos, af, gd⟩ = true := id rfl
theorem tch_box (t : TypeId) (x : Operand) : touches ⟨dst, .box t x, ty, pos, af, gd⟩ = true := id rfl
theorem easy_load (t : TypeId) (x : Operand) : easy ⟨dst, .load t x, ty, pos, af, gd⟩ = true := id rfl
theorem tch_load (t : TypeId) (x : Operand) : touches ⟨dst, .load t x, ty, pos, af, gd⟩ = true := id rfl
theorem easy_store (t : TypeId) (x y : Operand) : easy ⟨dst, .store t x y, ty, pos, af, gd⟩ = true := id rfl
theorem tch_store (t : TypeId) (x y : Operand) : touches ⟨dst, .store t x y, ty, pos, af, gd⟩ = true := id rfl
theorem easy_nilc (x : Operand) : easy ⟨dst, .nilCheck x, ty, pos, af, gd⟩ = true := id rfl
theorem tch_nilc (x : Operand) : touches ⟨dst, .nilCheck x, ty, pos, af, gd⟩ = false := id rfl
theorem easy_bin (b : BinOp) (t t' : TypeId) (x y : Operand) : easy ⟨dst, .binOp b t x y t', ty, pos, af, gd⟩ = true := id rfl
theorem tch_bin (b : BinOp) (t t' : TypeId) (x y : Operand) : touches ⟨dst, .binOp b t x y t', ty, pos, af, gd⟩ = false := id rfl
theorem easy_fa (t : TypeId) (x : Operand) (f : Nat) : easy ⟨dst, .fieldAddr t x f, ty, pos, af, gd⟩ = true := id rfl
theorem tch_fa (t : TypeId) (x : Operand) (f : Nat) : touches ⟨dst, .fieldAddr t x f, ty, pos, af, gd⟩ = false := id rfl
theorem easy_fld (t : TypeId) (x : Operand) (f : Nat) : easy ⟨dst, .field t x f, ty, pos, af, gd⟩ = true := id rfl
theorem tch_fld (t : TypeId) (x : Operand) (f : Nat) : touches ⟨dst, .field t x f, ty, pos, af, gd⟩ = false := id rfl
theorem easy_ia (t : TypeId) (x y : Operand) : easy ⟨dst, .indexAddr t x y, ty, pos, af, gd⟩ = true := id rfl
theorem tch_ia (t : TypeId) (x y : Operand) : touches ⟨dst, .indexAddr t x y, ty, pos, af, gd⟩ = false := id rfl
theorem easy_ext (x : Operand) (f : Nat) : easy ⟨dst, .extract x f, ty, pos, af, gd⟩ = true := id rfl
theorem tch_ext (x : Operand) (f : Nat) : touches ⟨dst, .extract x f, ty, pos, af, gd⟩ = false := id rfl
theorem easy_un (b : UnOp) (t : TypeId) (x : Operand) : easy ⟨dst, .unOp b t x, ty, pos, af, gd⟩ = true := id rfl
theorem tch_un (b : UnOp) (t : TypeId) (x : Operand) : touches ⟨dst, .unOp b t x, ty, pos, af, gd⟩ = false := id rfl
theorem easy_bld (t : TypeId) (p : Array (Nat × Operand)) : easy ⟨dst, .build t p, ty, pos, af, gd⟩ = true := id rfl
theorem tch_bld (t : TypeId) (p : Array (Nat × Operand)) : touches ⟨dst, .build t p, ty, pos, af, gd⟩ = false := id rfl
theorem easy_mf (f : Fn) (x y : Array Operand) : easy ⟨dst, .makeFunc f x y, ty, pos, af, gd⟩ = true := id rfl
theorem tch_mf (f : Fn) (x y : Array Operand) : touches ⟨dst, .makeFunc f x y, ty, pos, af, gd⟩ = false := id rfl
theorem easy_bs (t n : Nat) (p : Array (Nat × Operand)) : easy ⟨dst, .buildSlice t n p, ty, pos, af, gd⟩ = true := id rfl
theorem tch_bs (t n : Nat) (p : Array (Nat × Operand)) : touches ⟨dst, .buildSlice t n p, ty, pos, af, gd⟩ = true := id rfl
theorem easy_len (x : Array Operand) (t : Array TypeId) : easy ⟨dst, .call ⟨.builtin .len, x, t⟩, ty, pos, af, gd⟩ = true := id rfl
theorem tch_len (x : Array Operand) (t : Array TypeId) : touches ⟨dst, .call ⟨.builtin .len, x, t⟩, ty, pos, af, gd⟩ = true := id rfl
theorem easy_min (x : Array Operand) (t : Array TypeId) : easy ⟨dst, .call ⟨.builtin .min, x, t⟩, ty, pos, af, gd⟩ = true := id rfl
theorem tch_min (x : Array Operand) (t : Array TypeId) : touches ⟨dst, .call ⟨.builtin .min, x, t⟩, ty, pos, af, gd⟩ = false := id rfl
theorem easy_max (x : Array Operand) (t : Array TypeId) : easy ⟨dst, .call ⟨.builtin .max, x, t⟩, ty, pos, af, gd⟩ = true := id rfl
theorem tch_max (x : Array Operand) (t : Array TypeId) : touches ⟨dst, .call ⟨.builtin .max, x, t⟩, ty, pos, af, gd⟩ = false := id rfl
theorem easy_app (x : Array Operand) (t : Array TypeId) : easy ⟨dst, .call ⟨.builtin .append, x, t⟩, ty, pos, af, gd⟩ = false := id rfl
theorem tch_app (x : Array Operand) (t : Array TypeId) : touches ⟨dst, .call ⟨.builtin .append, x, t⟩, ty, pos, af, gd⟩ = true := id rfl
theorem easy_del (x : Array Operand) (t : Array TypeId) : easy ⟨dst, .call ⟨.builtin .delete, x, t⟩, ty, pos, af, gd⟩ = false := id rfl
theorem tch_del (x : Array Operand) (t : Array TypeId) : touches ⟨dst, .call ⟨.builtin .delete, x, t⟩, ty, pos, af, gd⟩ = true := id rfl
theorem easy_clr (x : Array Operand) (t : Array TypeId) : easy ⟨dst, .call ⟨.builtin .clear, x, t⟩, ty, pos, af, gd⟩ = false := id rfl
theorem tch_clr (x : Array Operand) (t : Array TypeId) : touches ⟨dst, .call ⟨.builtin .clear, x, t⟩, ty, pos, af, gd⟩ = true := id rfl
theorem easy_cpy (x : Array Operand) (t : Array TypeId) : easy ⟨dst, .call ⟨.builtin .copy, x, t⟩, ty, pos, af, gd⟩ = false := id rfl
theorem tch_cpy (x : Array Operand) (t : Array TypeId) : touches ⟨dst, .call ⟨.builtin .copy, x, t⟩, ty, pos, af, gd⟩ = true := id rfl
theorem easy_val (f : Operand) (x : Array Operand) (t : Array TypeId) : easy ⟨dst, .call ⟨.value f, x, t⟩, ty, pos, af, gd⟩ = false := id rfl
theorem tch_val (f : Operand) (x : Array Operand) (t : Array TypeId) : touches ⟨dst, .call ⟨.value f, x, t⟩, ty, pos, af, gd⟩ = true := id rfl
theorem easy_conv (s t : TypeId) (x : Operand) : easy ⟨dst, .convert s t x, ty, pos, af, gd⟩ = false := id rfl
theorem tch_conv (s t : TypeId) (x : Operand) : touches ⟨dst, .convert s t x, ty, pos, af, gd⟩ = true := id rfl
theorem easy_lk (t : TypeId) (x y : Operand) (b : Bool) : easy ⟨dst, .lookup t x y b, ty, pos, af, gd⟩ = false := id rfl
theorem tch_lk (t : TypeId) (x y : Operand) (b : Bool) : touches ⟨dst, .lookup t x y b, ty, pos, af, gd⟩ = true := id rfl
theorem easy_mu (t : TypeId) (x y z : Operand) : easy ⟨dst, .mapUpdate t x y z, ty, pos, af, gd⟩ = false := id rfl
theorem tch_mu (t : TypeId) (x y z : Operand) : touches ⟨dst, .mapUpdate t x y z, ty, pos, af, gd⟩ = true := id rfl
theorem easy_sl (t : TypeId) (x : Operand) (l h m : Option Operand) : easy ⟨dst, .slice t x l h m, ty, pos, af, gd⟩ = false := id rfl
theorem tch_sl (t : TypeId) (x : Operand) (l h m : Option Operand) : touches ⟨dst, .slice t x l h m, ty, pos, af, gd⟩ = true := id rfl
theorem easy_mm (t : TypeId) (r : Option Operand) : easy ⟨dst, .makeMap t r, ty, pos, af, gd⟩ = false := id rfl
theorem tch_mm (t : TypeId) (r : Option Operand) : touches ⟨dst, .makeMap t r, ty, pos, af, gd⟩ = true := id rfl
theorem easy_ms (t : TypeId) (x y : Operand) : easy ⟨dst, .makeSlice t x y, ty, pos, af, gd⟩ = false := id rfl
theorem tch_ms (t : TypeId) (x y : Operand) : touches ⟨dst, .makeSlice t x y, ty, pos, af, gd⟩ = true := id rfl
theorem easy_ix (t : TypeId) (x y : Operand) : easy ⟨dst, .index t x y, ty, pos, af, gd⟩ = false := id rfl
theorem tch_ix (t : TypeId) (x y : Operand) : touches ⟨dst, .index t x y, ty, pos, af, gd⟩ = true := id rfl
theorem easy_df (c : Call) : easy ⟨dst, .defer c, ty, pos, af, gd⟩ = false := id rfl
theorem tch_df (c : Call) : touches ⟨dst, .defer c, ty, pos, af, gd⟩ = true := id rfl
theorem easy_rg (t : TypeId) (x : Operand) : easy ⟨dst, .range t x, ty, pos, af, gd⟩ = false := id rfl
theorem tch_rg (t : TypeId) (x : Operand) : touches ⟨dst, .range t x, ty, pos, af, gd⟩ = true := id rfl
theorem easy_nx (x : Operand) (b : Bool) : easy ⟨dst, .next x b, ty, pos, af, gd⟩ = false := id rfl
theorem tch_nx (x : Operand) (b : Bool) : touches ⟨dst, .next x b, ty, pos, af, gd⟩ = true := id rfl
theorem easy_en (x : Operand) : easy ⟨dst, .entry x, ty, pos, af, gd⟩ = false := id rfl
theorem tch_en (x : Operand) : touches ⟨dst, .entry x, ty, pos, af, gd⟩ = true := id rfl
end

theorem asPtr_p (l o : Nat) : asPtr (.pointer (some ⟨l, o, none⟩)) = some (l, o) := id rfl
theorem asCells_c (c : List Value) (sz : Nat) (ro : Bool) : asCells (some (.cells c sz ro)) = some (c, sz, ro) := id rfl
theorem asB_b (b : Bool) : asB (.bool b) = some b := id rfl
theorem asI_i (k : IntKind) (i : Int) : asI (.int k i) = some i := id rfl
theorem asSl_s (l o n c : Nat) : asSl (.slice (some ⟨l, o, none⟩) n c) = some (l, o, n, c) := id rfl
theorem asAgg_a (a : Array Value) : asAgg (.agg a) = some a := id rfl
theorem asTup_t (a : Array Value) : asTup (.tuple a) = some a := id rfl
theorem unV_n (b : Bool) : unV .not (.bool b) = some (.bool !b) := id rfl
theorem lenV_s (a : Option Addr) (n c : Nat) : lenV (.slice a n c) = some (n : Int) := id rfl
theorem lenV_t (s : ByteArray) : lenV (.string s) = some (s.size : Int) := id rfl
theorem fnId_f (f : FuncId) : fnId (.func f) = some f := id rfl
theorem gdst_l (l : List Oper) (j : Nat) : gdst l.toArray j = (l[j]?).bind (·.dst) := by simp [gdst]
theorem ops_l {α : Type} {l : List α} {j : Nat} : l.toArray[j]? = l[j]? := by simp
theorem binS_i (P : Program) (op : BinOp) (t : TypeId) (a b : Int) : binS P op t (.int .i64 a) (.int .i64 b) = intV op .i64 a b := by simp [binS]
theorem binS_s (P : Program) (op : BinOp) (t : TypeId) (a b : ByteArray) : binS P op t (.string a) (.string b) = strV op a b := id rfl
theorem binS_b (P : Program) (op : BinOp) (t : TypeId) (a b : Bool) : binS P op t (.bool a) (.bool b) = (P.underlying t).bind fun d => binD d op (.bool a) (.bool b) := id rfl
theorem binS_p (P : Program) (op : BinOp) (t : TypeId) (a b : Option Addr) : binS P op t (.pointer a) (.pointer b) = (P.underlying t).bind fun d => binD d op (.pointer a) (.pointer b) := id rfl
theorem binS_l (P : Program) (op : BinOp) (t : TypeId) (a b : Option Addr) (n c n' c' : Nat) : binS P op t (.slice a n c) (.slice b n' c') = (P.underlying t).bind fun d => binD d op (.slice a n c) (.slice b n' c') := id rfl
theorem aev_bool (a : Act) (b : Bool) : aeval a (.const (.bool b)) = some (.bool b) := id rfl
theorem aev_int (a : Act) (k : IntKind) (i : Int) : aeval a (.const (.int k i)) = some (.int k i) := id rfl
theorem aev_string (a : Act) (s : ByteArray) : aeval a (.const (.string s)) = some (.string s) := id rfl
theorem aev_nilptr (a : Act) : aeval a (.const (.pointer none)) = some (.pointer none) := id rfl
theorem aev_nilslice (a : Act) (n c : Nat) : aeval a (.const (.slice none n c)) = some (.slice none n c) := id rfl
theorem aev_nilmap (a : Act) : aeval a (.const (.map none)) = some (.map none) := id rfl
theorem aev_func (a : Act) (f : FuncId) : aeval a (.func f) = some (.func (.func f) #[] #[]) := id rfl
theorem intV_add (k : IntKind) (a b : Int) : intV .add k a b = some (.int k (k.wrap (a + b))) := id rfl
theorem intV_sub (k : IntKind) (a b : Int) : intV .sub k a b = some (.int k (k.wrap (a - b))) := id rfl
theorem intV_mul (k : IntKind) (a b : Int) : intV .mul k a b = some (.int k (k.wrap (a * b))) := id rfl
theorem intV_eql (k : IntKind) (a b : Int) : intV .eql k a b = some (.bool (a == b)) := id rfl
theorem intV_neq (k : IntKind) (a b : Int) : intV .neq k a b = some (.bool (a != b)) := id rfl
theorem intV_lss (k : IntKind) (a b : Int) : intV .lss k a b = some (.bool (decide (a < b))) := id rfl
theorem intV_leq (k : IntKind) (a b : Int) : intV .leq k a b = some (.bool (decide (a ≤ b))) := id rfl
theorem intV_gtr (k : IntKind) (a b : Int) : intV .gtr k a b = some (.bool (decide (a > b))) := id rfl
theorem intV_geq (k : IntKind) (a b : Int) : intV .geq k a b = some (.bool (decide (a ≥ b))) := id rfl
theorem strV_eql (x y : ByteArray) : strV .eql x y = some (.bool (x.toList == y.toList)) := id rfl
theorem strV_neq (x y : ByteArray) : strV .neq x y = some (.bool !(x.toList == y.toList)) := id rfl
theorem strV_lss (x y : ByteArray) : strV .lss x y = some (.bool (Op.bytesLess x.toList y.toList)) := id rfl
theorem strV_gtr (x y : ByteArray) : strV .gtr x y = some (.bool !(Op.bytesLess x.toList y.toList || x.toList == y.toList)) := id rfl
theorem ge_zero {α : Type} (a : α) (l : List α) : (a :: l)[0]? = some a := id rfl
theorem ge_succ {α : Type} (a : α) (l : List α) (n : Nat) : (a :: l)[n + 1]? = l[n]? := by simp
theorem optbind_some {α β : Type} (v : α) (f : α → Option β) : (some v).bind f = f v := id rfl

attribute [irreducible] At AtS runN runT

end Go.Proofs.YtehmailaabjdjaaGreat
