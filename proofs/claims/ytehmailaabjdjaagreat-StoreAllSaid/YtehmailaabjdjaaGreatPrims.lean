/-
  THE OPERATIONS, SAID OF ABSTRACT HEAPS: what each reads, and what it makes of that. No condition.
-/
import Derived.Test.YtehmailaabjdjaaGreatSteps
namespace Go.Proofs.YtehmailaabjdjaaGreat
set_option linter.unusedSimpArgs false
set_option linter.unusedVariables false

def pureRun {α : Type} (P : Program) : Sem α → Option α
 | .pure a => some a
 | .program k => pureRun P (k P)
 | _ => none

theorem pureRun_run {α : Type} {P : Program} {s : Sem α} {a : α} (h : pureRun P s = some a) (w : World) : s.run P w = .ok a w := by
 induction s with
 | pure b => simp [pureRun] at h; subst h; rfl
 | program k ih => simp [pureRun] at h; simp only [Sem.run]; exact ih P h
 | _ => simp [pureRun] at h

structure Eff where
 val : Value
 wr : Option (Nat × Option AObj)
 new : Option AObj

def Heap.wr (σ : Heap) : Option (Nat × Option AObj) → Heap
 | some (l, o) => σ.upd l o
 | none => σ
def Heap.nw (σ : Heap) (nm : Nat) : Option AObj → Heap
 | some o => σ.upd nm (some o)
 | none => σ
def Heap.app (σ : Heap) (nm : Nat) (e : Eff) : Heap := (σ.wr e.wr).nw nm e.new

structure Prim where
 reads : List Nat
 act : Nat → List AObj → Option Eff

def Prim.ofVal (v : Value) : Prim := ⟨[], fun _ _ => some ⟨v, none, none⟩⟩
def Prim.newCells (c : List Value) (sz : Nat) : Prim := ⟨[], fun nm _ => some ⟨.pointer (some ⟨nm, 0, none⟩), none, some (.cells c sz false)⟩⟩
def Prim.newSlice (c : List Value) (sz n : Nat) : Prim := ⟨[], fun nm _ => some ⟨.slice (some ⟨nm, 0, none⟩) n n, none, some (.cells c sz false)⟩⟩

def getAll (g : Nat → Option AObj) : List Nat → Option (List AObj)
 | [] => some []
 | l :: r => (g l).bind fun o => (getAll g r).map (o :: ·)

def Prim.run (p : Prim) (σ : Heap) (nm : Nat) : Option Eff := (getAll σ.get p.reads).bind (p.act nm)

def aeval (a : Act) : Operand → Option Value
 | .tmp t => some (a.tmps.getD t undef)
 | .const v => if plainV v then some v else none
 | .func f => some (.func (.func f) #[] #[])
 | .global _ => none

abbrev Ev := Operand → Option Value

def szO (P : Program) (t : TypeId) : Option Nat := (P.info? t).map (·.size)
def bytesO (P : Program) (t : TypeId) : Option Nat := (P.info? t).map (·.bytes)
def zeroO (P : Program) (t : TypeId) : Option Value := (P.info? t).bind (·.zero)
def aggO (P : Program) (t : TypeId) : Option Bool := (P.underlying t).map fun | .struct _ => true | .array _ _ => true | _ => false
def zeroP (P : Program) (t : TypeId) : Option Value := (zeroO P t).bind fun z => if plainV z then some z else none

def partO (P : Program) (t : TypeId) (c : List Value) (o : Nat) : Option Value :=
 (aggO P t).bind fun
  | true => (szO P t).bind fun s => if o + s ≤ c.length then some (.agg ((c.drop o).take s).toArray) else none
  | false => c[o]?

def splice (c : List Value) (o : Nat) (vs : List Value) : List Value := c.take o ++ vs ++ c.drop (o + vs.length)

def oneCell : Value → Bool
 | .agg _ => false
 | .tuple _ => false
 | _ => true

def plainEv (ev : Ev) (x : Operand) : Option Value := (ev x).bind fun v => if plainV v then some v else none
def pureVal (P : Program) (s : Sem Value) : Option Prim := (pureRun P s).bind fun v => if plainV v then some (.ofVal v) else none

def nilCmp (P : Program) (t : TypeId) (a b : Value) : Bool :=
 match P.underlying t, a, b with
 | some (.pointer _), .pointer (some _), .pointer none => true
 | some (.slice _), .slice (some _) _ _, .slice none _ _ => true
 | some (.map _ _), .map (some _), .map none => true
 | some (.func _ _ _), .func _ _ _, .nilFunc => true
 | _, _, _ => false

def aBin (P : Program) (ev : Ev) (op : BinOp) (t : TypeId) (x y : Operand) : Option Prim :=
 (ev x).bind fun a => (ev y).bind fun b =>
  if plainV a && plainV b then pureVal P (do eqGuard op t x y a b; binOp op t a b)
  else if nilCmp P t a b then match op with
   | .eql => some (.ofVal (.bool false))
   | .neq => some (.ofVal (.bool true))
   | _ => none
  else none

def placesO (P : Program) (t : TypeId) : Option (Nat → Option (Nat × Nat)) :=
 (P.underlying t).bind fun
  | .struct fields => (pureRun P (fields.mapM fun f => do pure (f.offset, ← sizeOf f.type))).map fun ps => (ps[·]?)
  | .array _ elem => (szO P elem).map fun size => fun i => some (i * size, size)
  | _ => none

def evParts (ev : Ev) : List (Nat × Operand) → Option (List (Nat × Value))
 | [] => some []
 | (i, x) :: r => (ev x).bind fun v => (evParts ev r).map ((i, v) :: ·)
def evList (ev : Ev) : List Operand → Option (List Value)
 | [] => some []
 | x :: r => (ev x).bind fun v => (evList ev r).map (v :: ·)

def aBuild (P : Program) (ev : Ev) (t : TypeId) (parts : Array (Nat × Operand)) : Option Prim :=
 (zeroP P t).bind fun z => (placesO P t).bind fun pl => (evParts ev parts.toList).bind fun ps => (Instr.fill pl z.cells ps).map fun cs => .ofVal (.agg cs)

def aBuildSlice (P : Program) (ev : Ev) (t : TypeId) (len : Nat) (parts : Array (Nat × Operand)) : Option Prim :=
 match P.underlying t with
 | some (.slice elem) =>
  (szO P elem).bind fun size => (zeroP P elem).bind fun z => (evParts ev parts.toList).bind fun ps =>
   if len * size ≤ 2 ^ 24 && 0 < size && z.cells.size = size && plainL plainV z.cells.toList then
    (Instr.fill (fun i => some (i * size, size)) ((Array.range (len * size)).map (z.cells[· % z.cells.size]!)) ps).map fun cs => .newSlice cs.toList size len
   else none
 | _ => none

def aLoad (P : Program) (ev : Ev) (t : TypeId) (a : Operand) : Option Prim :=
 (ev a).bind fun
  | .pointer (some ⟨l, o, none⟩) => some ⟨[l], fun _ objs => match objs with
    | [.cells c _ _] => (partO P t c o).map fun v => ⟨v, none, none⟩
    | _ => none⟩
  | _ => none

def aStore (P : Program) (ev : Ev) (t : TypeId) (a x : Operand) : Option Prim :=
 (ev a).bind fun
  | .pointer (some ⟨l, o, none⟩) => (ev x).bind fun v => (szO P t).bind fun s =>
    if v.cells.size = s && plainL oneCell v.cells.toList then
     some ⟨[l], fun _ objs => match objs with
      | [.cells c sz false] => if o + s ≤ c.length then some ⟨undef, some (l, some (.cells (splice c o v.cells.toList) sz false)), none⟩ else none
      | _ => none⟩
    else none
  | _ => none

def aNil (ev : Ev) (x : Operand) : Option Prim :=
 (ev x).bind fun
  | .pointer (some a) => some (.ofVal (.pointer (some a)))
  | .func (.func f) a b => some (.ofVal (.func (.func f) a b))
  | _ => none

def bytesOf : List Value → ByteArray → Option ByteArray
 | [], acc => some acc
 | .int .u8 n :: r, acc => bytesOf r (acc.push (UInt8.ofNat n.toNat))
 | _ :: _, _ => none

def aConvert (P : Program) (ev : Ev) (src dst : TypeId) (x : Operand) : Option Prim :=
 (ev x).bind fun v => match P.underlying src, P.underlying dst, v with
  | some .string, some (.slice e), .string s =>
   match P.underlying e with
   | some (.int .u8) => some (.newSlice (s.data.toList.map fun b => .int .u8 b.toNat) 1 s.size)
   | _ => none
  | some (.slice e), some .string, .slice none _ _ =>
   match P.underlying e with
   | some (.int .u8) => some (.ofVal (.string .empty))
   | _ => none
  | some (.slice e), some .string, .slice (some ⟨_, _, some _⟩) 0 _ =>
   match P.underlying e with
   | some (.int .u8) => some (.ofVal (.string .empty))
   | _ => none
  | some (.slice e), some .string, .slice (some ⟨l, o, none⟩) n _ =>
   match P.underlying e with
   | some (.int .u8) => if n = 0 then some (.ofVal (.string .empty)) else some ⟨[l], fun _ objs => match objs with
     | [.cells c _ _] => if o + n ≤ c.length then
       (bytesOf ((c.drop o).take n) ByteArray.empty).map fun s => ⟨.string s, none, none⟩ else none
     | _ => none⟩
   | _ => none
  | some (.slice _), some (.slice e), .slice (some ⟨l, o, none⟩) n c =>
   match P.underlying e with
   | some (.int .u8) => if src == dst then some ⟨[l], fun _ objs => match objs with
     | [.cells cl sz false] => some ⟨.slice (some ⟨l, o, none⟩) n c, some (l, some (.cells cl sz false)), none⟩
     | _ => none⟩ else none
   | _ => none
  | some (.pointer t), some .unsafePointer, .pointer (some ⟨l, o, none⟩) => (szO P t).bind fun s =>
   if s = 0 then none else some ⟨[l], fun _ objs => match objs with
     | [.cells cl _ _] => if o < cl.length then some ⟨.pointer (some ⟨l, o, none⟩), none, none⟩ else none
     | _ => none⟩
  | _, _, v => if plainV v then pureVal P (convert src dst v) else none

def aMakeFunc (ev : Ev) (fn : Fn) (first captured : Array Operand) : Option Prim :=
 match fn with
 | .func f => (evList ev first.toList).bind fun a => (evList ev captured.toList).map fun b => .ofVal (.func (.func f) a.toArray b.toArray)
 | _ => none

def aMakeMap (P : Program) (ev : Ev) (t : TypeId) (r : Option Operand) : Option Prim :=
 match r with
 | none => some ⟨[], fun nm _ => some ⟨.map (some nm), none, some (.map [] 0)⟩⟩
 | some x => (ev x).bind fun
  | .int _ _ => match P.underlying t with
   | some (.map _ _) => some ⟨[], fun nm _ => some ⟨.map (some nm), none, some (.map [] 0)⟩⟩
   | _ => none
  | _ => none

def aMakeSlice (P : Program) (ev : Ev) (t : TypeId) (len cap : Operand) : Option Prim :=
 match P.underlying t with
 | some (.slice elem) =>
  (ev len).bind fun
   | .int _ l => (ev cap).bind fun
    | .int _ c => (szO P elem).bind fun size => (bytesO P elem).bind fun by_ => (zeroP P elem).bind fun z =>
     if 0 ≤ l && l ≤ c && c ≤ 2 ^ 40 && by_ * c ≤ 2 ^ 47 && 0 < size && z.cells.size = size && plainL plainV z.cells.toList then
      some ⟨[], fun nm _ => some ⟨.slice (some ⟨nm, 0, none⟩) l.toNat c.toNat, none, some (.cells ((Array.range (c.toNat * size)).map (z.cells[· % z.cells.size]!)).toList size false)⟩⟩
     else none
    | _ => none
   | _ => none
 | _ => none

def boundO (ev : Ev) (x : Option Operand) (dflt y : Nat) : Option Nat :=
 match x with
 | none => if dflt ≤ y then some dflt else none
 | some x => (ev x).bind fun
  | .int _ i => if 0 ≤ i ∧ i ≤ y then some i.toNat else none
  | _ => none

def aSlice (P : Program) (ev : Ev) (t : TypeId) (x : Operand) (lo hi mx : Option Operand) : Option Prim :=
 match P.underlying t with
 | some .string => (plainEv ev x).bind fun v => match lo, hi, mx with
   | none, none, none => pureVal P (Instr.slice t v none none none)
   | some a, none, none => (plainEv ev a).bind fun a => pureVal P (Instr.slice t v (some a) none none)
   | none, some b, none => (plainEv ev b).bind fun b => pureVal P (Instr.slice t v none (some b) none)
   | some a, some b, none => (plainEv ev a).bind fun a => (plainEv ev b).bind fun b => pureVal P (Instr.slice t v (some a) (some b) none)
   | _, _, _ => none
 | some (.slice elem) => (szO P elem).bind fun size => (ev x).bind fun
   | .slice none 0 0 => (boundO ev mx 0 0).bind fun m => (boundO ev hi 0 m).bind fun h => (boundO ev lo 0 h).bind fun _ => if mx.isSome && hi.isNone then none else some (.ofVal (.slice none 0 0))
   | .slice (some ⟨l, o, some s⟩) 0 0 => (boundO ev mx 0 0).bind fun m => (boundO ev hi 0 m).bind fun h => (boundO ev lo 0 h).bind fun _ => if mx.isSome && hi.isNone then none else some (.ofVal (.slice (some ⟨l, o, some s⟩) 0 0))
   | .slice (some ⟨l, o, none⟩) n c => match mx with
    | some _ => (boundO ev mx c c).bind fun m => if hi.isNone then none else (boundO ev hi n m).bind fun h => (boundO ev lo 0 h).bind fun a =>
      some (.ofVal (.slice (some ⟨l, if m = a then o else o + a * size, none⟩) (h - a) (m - a)))
    | none => (boundO ev hi n c).bind fun h => (boundO ev lo 0 h).bind fun a =>
      if a = 0 then some (.ofVal (.slice (some ⟨l, o, none⟩) h c)) else
      some ⟨[l], fun _ objs => match objs with
       | [.cells _ sz _] => if sz = size then some ⟨.slice (some ⟨l, o + a * size, none⟩) (h - a) (c - a), none, none⟩ else none
       | _ => none⟩
   | _ => none
 | some (.array n elem) => (szO P elem).bind fun size => (ev x).bind fun
   | .pointer (some ⟨l, o, none⟩) => if mx.isSome then none else (boundO ev hi n n).bind fun h => (boundO ev lo 0 h).bind fun a =>
     some (.ofVal (.slice (some ⟨l, if n = a then o else o + a * size, none⟩) (h - a) (n - a)))
   | _ => none
 | _ => none

def aFieldAddr (P : Program) (ev : Ev) (s : TypeId) (x : Operand) (f : Nat) : Option Prim :=
 match P.underlying s with
 | some (.struct fields) => (fields[f]?).bind fun fd => (ev x).bind fun
   | .pointer (some ⟨l, o, none⟩) => (szO P fd.type).bind fun z => if z = 0 then none else some (.ofVal (.pointer (some ⟨l, o + fd.offset, none⟩)))
   | _ => none
 | _ => none

def aField (P : Program) (ev : Ev) (s : TypeId) (x : Operand) (f : Nat) : Option Prim :=
 match P.underlying s with
 | some (.struct fields) => (fields[f]?).bind fun fd => (ev x).bind fun
   | .agg cs => (partO P fd.type cs.toList fd.offset).map .ofVal
   | _ => none
 | _ => none

def aIndexAddr (P : Program) (ev : Ev) (t : TypeId) (x ix : Operand) : Option Prim :=
 (ev ix).bind fun
  | .int _ i => match P.underlying t with
   | some (.slice elem) => (szO P elem).bind fun size => (ev x).bind fun
     | .slice (some ⟨l, o, none⟩) n _ => if 0 ≤ i ∧ i < n then some (.ofVal (.pointer (some ⟨l, o + i.toNat * size, none⟩))) else none
     | _ => none
   | some (.array n elem) => (szO P elem).bind fun size => (ev x).bind fun
     | .pointer (some ⟨l, o, none⟩) => if 0 ≤ i ∧ i < n then some (.ofVal (.pointer (some ⟨l, o + i.toNat * size, none⟩))) else none
     | _ => none
   | _ => none
  | _ => none

def aIndex (P : Program) (ev : Ev) (t : TypeId) (x ix : Operand) : Option Prim :=
 (ev ix).bind fun
  | .int k i => match P.underlying t with
   | some .string => (plainEv ev x).bind fun s => pureVal P (Instr.index t s (.int k i))
   | some (.array n elem) => (szO P elem).bind fun size => (ev x).bind fun
     | .agg cs => if 0 ≤ i ∧ i < n then (partO P elem cs.toList (i.toNat * size)).map .ofVal else none
     | _ => none
   | _ => none
  | _ => none

def aExtract (ev : Ev) (t : Operand) (i : Nat) : Option Prim :=
 (ev t).bind fun
  | .tuple vs => (vs[i]?).map .ofVal
  | _ => none

def keyKind (P : Program) (kt : TypeId) (k : Value) : Option TypeDesc :=
 (P.underlying kt).bind fun d => match d, k with
  | .string, .string _ => some d
  | .int _, .int _ _ => some d
  | _, _ => none

def lookupVal (found : Option (Nat × Value)) (z : Value) (ok : Bool) : Value :=
 match found with
 | some (_, v) => if ok then .tuple #[v, .bool true] else v
 | none => if ok then .tuple #[z, .bool false] else z

def aLookup (P : Program) (ev : Ev) (t : TypeId) (x ix : Operand) (ok : Bool) : Option Prim :=
 match P.underlying t with
 | some (.map kt et) => (plainEv ev ix).bind fun k => (keyKind P kt k).bind fun d => (zeroP P et).bind fun z => (ev x).bind fun
   | .map none => some (.ofVal (lookupVal none z ok))
   | .map (some m) => some ⟨[m], fun _ objs => match objs with
     | [.map es _] => (Instr.findNow d k es 0).map fun r => ⟨lookupVal r z ok, none, none⟩
     | _ => none⟩
   | _ => none
 | _ => none

def aMapUpdate (P : Program) (ev : Ev) (t : TypeId) (m key x : Operand) : Option Prim :=
 match P.underlying t with
 | some (.map kt _) => (plainEv ev key).bind fun k => (keyKind P kt k).bind fun d => (ev x).bind fun v => (ev m).bind fun
   | .map (some m) => some ⟨[m], fun _ objs => match objs with
     | [.map es clock] => (Instr.findNow d k es 0).map fun
       | some (i, _) => ⟨undef, some (m, some (.map (es.modify i fun e => { e with key := k, val := v }) clock)), none⟩
       | none => ⟨undef, some (m, some (.map (es ++ [{ key := k, val := v, born := clock }]) (clock + 1))), none⟩
     | _ => none⟩
   | _ => none
 | _ => none

def aDelete (P : Program) (t : TypeId) (mv k : Value) : Option Prim :=
 match P.underlying t with
 | some (.map kt _) => if plainV k then (keyKind P kt k).bind fun d => match mv with
   | .map none => some (.ofVal (.tuple #[]))
   | .map (some m) => some ⟨[m], fun _ objs => match objs with
     | [.map es clock] => (Instr.findNow d k es 0).map fun
       | some (i, _) => ⟨.tuple #[], some (m, some (.map (es.eraseIdx i) clock)), none⟩
       | none => ⟨.tuple #[], some (m, some (.map es clock)), none⟩
     | _ => none⟩
   | _ => none
  else none
 | _ => none

def aLen (P : Program) (t : TypeId) (x : Value) : Option Prim :=
 match P.underlying t, x with
 | some .string, .string s => some (.ofVal (.int .i64 s.size))
 | some (.array n _), _ => some (.ofVal (.int .i64 n))
 | some (.slice _), .slice _ n _ => some (.ofVal (.int .i64 n))
 | some (.map _ _), .map none => some (.ofVal (.int .i64 0))
 | some (.map _ _), .map (some m) => some ⟨[m], fun _ objs => match objs with
   | [.map es _] => some ⟨.int .i64 es.length, none, none⟩
   | _ => none⟩
 | _, _ => none

def srcOf (size : Nat) : Value → Option (List Nat × (List AObj → Option (List Value)) × Nat)
 | .slice none 0 _ => some ([], fun _ => some [], 0)
 | .slice (some ⟨_, _, some _⟩) 0 _ => some ([], fun _ => some [], 0)
 | .slice (some ⟨l, o, none⟩) n _ => if n = 0 then some ([], fun _ => some [], 0) else
   some ([l], fun objs => match objs with
    | [.cells c _ _] => if o + n * size ≤ c.length then some ((c.drop o).take (n * size)) else none
    | _ => none, n)
 | .string s => if size = 1 then some ([], fun _ => some (s.data.toList.map fun b => .int .u8 b.toNat), s.size) else none
 | _ => none

def isSeqT : Option TypeDesc → Bool
 | some (.slice _) => true
 | some .string => true
 | _ => false

def growFits (c need by_ : Nat) : Bool := if c = 0 then need * by_ ≤ 2 ^ 47 else need * by_ ≤ 2 ^ 46

def aAppend (P : Program) (t u : TypeId) (s x : Value) : Option Prim :=
 match P.underlying t with
 | some (.slice elem) => (szO P elem).bind fun size => (bytesO P elem).bind fun by_ => (zeroP P elem).bind fun z =>
  if !(0 < size && 0 < by_ && z.cells.size = size && isSeqT (P.underlying u)) then none else
  (srcOf size x).bind fun (rs, get, m) =>
   match s with
   | .slice none 0 0 =>
    if m = 0 then some (.ofVal (.slice none 0 0)) else
    if m * by_ ≤ 2 ^ 47 then some ⟨rs, fun nm objs => (get objs).map fun c => ⟨.slice (some ⟨nm, 0, none⟩) m m, none, some (.cells c size false)⟩⟩ else none
   | .slice (some ⟨l, o, none⟩) n c =>
    if n ≤ c then
     if m = 0 then some (.ofVal (.slice (some ⟨l, o, none⟩) n c)) else
     if n + m ≤ c then some ⟨l :: rs, fun _ objs => match objs with
      | .cells cl sz false :: rest => (get rest).bind fun src => if plainL oneCell src && o + (n + m) * size ≤ cl.length then
        some ⟨.slice (some ⟨l, o, none⟩) (n + m) c, some (l, some (.cells (splice cl (o + n * size) src) sz false)), none⟩ else none
      | _ => none⟩
     else some ⟨l :: rs, fun nm objs => match objs with
      | .cells cl sz ro :: rest => (get rest).bind fun src =>
       if sz = size && plainL oneCell src && o + n * size ≤ cl.length then
        if ro then
         if o + c * sz ≠ cl.length && growFits c (n + m) by_ then
          some ⟨.slice (some ⟨nm, 0, none⟩) (n + m) (n + m), none, some (.cells ((cl.drop o).take (n * size) ++ src) size false)⟩ else none
        else if (n + m) * by_ ≤ 2 ^ 46 then
         some ⟨.slice (some ⟨nm, 0, none⟩) (n + m) (n + m), some (l, none), some (.cells ((cl.drop o).take (n * size) ++ src) size false)⟩ else none
       else none
      | _ => none⟩
    else none
   | _ => none
 | _ => none

def aClear (P : Program) (t : TypeId) (x : Value) : Option Prim :=
 match P.underlying t with
 | some (.slice elem) => match x with
  | .slice none _ _ => some (.ofVal (.tuple #[]))
  | .slice (some ⟨l, o, none⟩) n _ => if n = 0 then some (.ofVal (.tuple #[])) else (szO P elem).bind fun size => (zeroP P elem).bind fun z =>
   if z.cells.size = size && plainL oneCell z.cells.toList && plainL plainV z.cells.toList then
    some ⟨[l], fun _ objs => match objs with
     | [.cells c sz false] => if o + n * size ≤ c.length then some ⟨.tuple #[], some (l, some (.cells (splice c o (Builtin.zeroCells z.cells n).toList) sz false)), none⟩ else none
     | _ => none⟩
   else none
  | _ => none
 | _ => none

def aBuiltin (P : Program) (b : Builtin) (ts : Array TypeId) (ty : TypeId) (args : List Value) : Option Prim :=
 match b, ts.toList, args with
 | .len, [t], [x] => aLen P t x
 | .append, [t, u], [s, x] => aAppend P t u s x
 | .delete, [t, _], [m, k] => aDelete P t m k
 | .clear, [t], [x] => aClear P t x
 | .min, _, args => if plainL plainV args then pureVal P (Builtin.min_ ts ty args.toArray) else none
 | .max, _, args => if plainL plainV args then pureVal P (Builtin.max_ ts ty args.toArray) else none
 | _, _, _ => none

inductive XKind where
 | add (k : IntKind)
 | load (k : IntKind)
 | store (k : IntKind)
 | cas (k : IntKind)
 | nop
 | mark

def aExtern (P : Program) (x : XKind) (args : List Value) : Option Prim :=
 match x, args with
 | .nop, _ => some (.ofVal (.tuple #[]))
 | .mark, [.pointer (some ⟨_, _, none⟩)] => some (.ofVal (.tuple #[]))
 | .load k, [.pointer (some ⟨l, o, none⟩)] => some ⟨[l], fun _ objs => match objs with
   | [.cells c _ _] => match c[o]? with
    | some (.int k' n) => if k = k' then some ⟨.int k' n, none, none⟩ else none
    | _ => none
   | _ => none⟩
 | .store k, [.pointer (some ⟨l, o, none⟩), .int k₂ v] => some ⟨[l], fun _ objs => match objs with
   | [.cells c sz false] => match c[o]? with
    | some (.int k' _) => if k = k' && k₂ = k then some ⟨.tuple #[], some (l, some (.cells (c.set o (.int k v)) sz false)), none⟩ else none
    | _ => none
   | _ => none⟩
 | .add k, [.pointer (some ⟨l, o, none⟩), .int k₂ d] => some ⟨[l], fun _ objs => match objs with
   | [.cells c sz false] => match c[o]? with
    | some (.int k' n) => if k = k' && k₂ = k then (pureRun P (Op.intArith .add k n d)).bind fun v => if plainV v && oneCell v then
      some ⟨v, some (l, some (.cells (c.set o v) sz false)), none⟩ else none else none
    | _ => none
   | _ => none⟩
 | .cas k, [.pointer (some ⟨l, o, none⟩), .int _ old, .int k₂ new] => some ⟨[l], fun _ objs => match objs with
   | [.cells c sz false] => match c[o]? with
    | some (.int k' n) => if k = k' && k₂ = k then
      some ⟨.bool (n == old), some (l, some (.cells (if n == old then c.set o (.int k new) else c) sz false)), none⟩ else none
    | _ => none
   | _ => none⟩
 | _, _ => none

inductive AOp where
 | prim (p : Prim)
 | call (f : FuncId) (args : Array Value)
 | defer (f : FuncId) (captured args : Array Value)

structure Env where
 P : Program
 X : FuncId → Option XKind
 B : FuncId → Bool

def aCall (E : Env) (ev : Ev) (c : Call) (ty : TypeId) : Option AOp :=
 (evList ev c.args.toList).bind fun args => match c.callee with
  | .builtin b => (aBuiltin E.P b c.argTypes ty args).map .prim
  | .value f => (ev f).bind fun
   | .func (.func g) first captured => match E.X g with
    | some x => (aExtern E.P x (first.toList ++ args ++ captured.toList)).map .prim
    | none => if E.B g then some (.call g (first ++ args.toArray ++ captured)) else none
   | _ => none
  | _ => none

def aDefer (E : Env) (ev : Ev) (c : Call) : Option AOp :=
 (evList ev c.args.toList).bind fun args => match c.callee with
  | .value f => (ev f).bind fun
   | .func (.func g) first captured => if E.B g then some (.defer g captured (first ++ args.toArray)) else none
   | _ => none
  | _ => none

def aop (E : Env) (ev : Ev) (o : Oper) : Option AOp :=
 match o.op with
 | .move x | .assign x => (ev x).map fun v => .prim (.ofVal v)
 | .pick c a b => (ev c).bind fun
  | .bool t => (if t then ev a else ev b).map fun v => .prim (.ofVal v)
  | _ => none
 | .alloc t => (zeroP E.P t).map fun z => .prim (.newCells z.cells.toList 0)
 | .box _ x => (ev x).map fun v => .prim (.newCells v.cells.toList 0)
 | .build t parts => (aBuild E.P ev t parts).map .prim
 | .buildSlice t len parts => (aBuildSlice E.P ev t len parts).map .prim
 | .load t a => (aLoad E.P ev t a).map .prim
 | .store t a x => (aStore E.P ev t a x).map .prim
 | .nilCheck x => (aNil ev x).map .prim
 | .binOp op t x y _ => (aBin E.P ev op t x y).map .prim
 | .unOp op _ x => (plainEv ev x).bind fun v => (pureVal E.P (Op.unary op v)).map .prim
 | .convert src dst x => (aConvert E.P ev src dst x).map .prim
 | .makeFunc fn first captured => (aMakeFunc ev fn first captured).map .prim
 | .makeMap t r => (aMakeMap E.P ev t r).map .prim
 | .makeSlice t l c => (aMakeSlice E.P ev t l c).map .prim
 | .slice t x lo hi mx => (aSlice E.P ev t x lo hi mx).map .prim
 | .fieldAddr s x f => (aFieldAddr E.P ev s x f).map .prim
 | .field s x f => (aField E.P ev s x f).map .prim
 | .indexAddr t x ix => (aIndexAddr E.P ev t x ix).map .prim
 | .index t x ix => (aIndex E.P ev t x ix).map .prim
 | .lookup t x ix ok => (aLookup E.P ev t x ix ok).map .prim
 | .mapUpdate t m k x => (aMapUpdate E.P ev t m k x).map .prim
 | .extract t i => (aExtract ev t i).map .prim
 | .call c => aCall E ev c o.type
 | .defer c => aDefer E ev c
 | _ => none

end Go.Proofs.YtehmailaabjdjaaGreat
