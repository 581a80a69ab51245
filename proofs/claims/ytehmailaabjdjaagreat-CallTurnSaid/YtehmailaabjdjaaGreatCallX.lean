/-
  CALLS IN BYTES, without a program: what Put writes of a call that may be; two such calls that are written alike are one. No condition. / More operations: shifts, |, int64 of a byte, guards side by side, parts of slices, great structs. No condition. / CALLS IN MEMORY; key, rev, cut, Equal, EqualFunc, Eq, bare, mayTxn, May, by contract. No condition. / call.May, by contract; what package wire writes. No condition.
-/
import Derived.WalkKit
import Derived.Test.YtehmailaabjdjaaGreatWkE
section
namespace Go.Proofs.YtehmailaabjdjaaGreat
set_option linter.unusedSimpArgs false
set_option linter.unusedVariables false

abbrev Bs := List UInt8

/-- A number in s bytes, the greatest first. -/
def be : Nat → Nat → Bs
  | 0, _ => []
  | s + 1, n => UInt8.ofNat (n / 256 ^ s) :: be s n
theorem be_length : ∀ s n, (be s n).length = s
  | 0, _ => rfl
  | s + 1, n => by simp [be, be_length s n]
def decN (a : Nat) (bs : Bs) : Nat := bs.foldl (fun n x => n * 256 + x.toNat) a
theorem dec_be : ∀ s n a, decN a (be s n) = a * 256 ^ s + n % 256 ^ s
  | 0, n, a => by simp [be, decN, Nat.mod_one]
  | s + 1, n, a => by
    show decN (a * 256 + (UInt8.ofNat (n / 256 ^ s)).toNat) (be s n) = _
    rw [dec_be s n]
    have h1 : (UInt8.ofNat (n / 256 ^ s)).toNat = n / 256 ^ s % 256 := by rw [UInt8.toNat_ofNat']
    rw [h1, Nat.pow_succ, Nat.mod_mul (a := 256 ^ s) (b := 256)]
    rw [Nat.add_mul, Nat.mul_assoc, Nat.mul_comm 256 (256 ^ s), Nat.mul_comm (n / 256 ^ s % 256)]
    omega
theorem be_inj {s a b : Nat} (ha : a < 256 ^ s) (hb : b < 256 ^ s) (h : be s a = be s b) : a = b := by
  have h1 := dec_be s a 0
  have h2 := dec_be s b 0
  rw [h] at h1
  rw [Nat.mod_eq_of_lt ha] at h1
  rw [Nat.mod_eq_of_lt hb] at h2
  omega
theorem be_pre {s a b : Nat} {x y : Bs} (ha : a < 256 ^ s) (hb : b < 256 ^ s) (h : be s a ++ x = be s b ++ y) : a = b ∧ x = y := by
  obtain ⟨h1, h2⟩ := List.append_inj h (by rw [be_length, be_length])
  exact ⟨be_inj ha hb h1, h2⟩

/-- Bytes behind their length. -/
def txt (s : Bs) : Bs := be 2 s.length ++ s
theorem txt_pre {s t x y : Bs} (hs : s.length < 65536) (ht : t.length < 65536) (h : txt s ++ x = txt t ++ y) : s = t ∧ x = y := by
  unfold txt at h
  rw [List.append_assoc, List.append_assoc] at h
  obtain ⟨h1, h2⟩ := be_pre (s := 2) (by omega) (by omega) h
  exact List.append_inj h2 h1

def bit (b : Bool) : Nat := match b with
  | true => 1
  | false => 0
theorem bit_inj {a b : Bool} (h : bit a = bit b) : a = b := by cases a <;> cases b <;> first | rfl | cases h
theorem bit_lt (a : Bool) : bit a < 256 ^ 1 := by cases a <;> decide

structure Gd where
  key : Bs
  rev : Int
  under : Bool
deriving DecidableEq
structure Wr where
  key : Bs
  val : Bs
  gone : Bool
deriving DecidableEq
structure Cal where
  from_ : Int
  id : Int
  kind : Int
  key : Bs
  rev : Int
  gs : List Gd
  ws : List Wr

def putG (x : Gd) : Bs := txt x.key ++ (be 8 x.rev.toNat ++ be 1 (bit x.under))
def putW (x : Wr) : Bs := txt x.key ++ (txt x.val ++ be 1 (bit x.gone))

def keyOk (k : Bs) : Prop := 1 ≤ k.length ∧ k.length ≤ 20
def revOk (n : Int) : Prop := 0 ≤ n ∧ n ≤ 1099511627776
def Gd.may (x : Gd) : Prop := keyOk x.key ∧ revOk x.rev
def Wr.may (x : Wr) : Prop := keyOk x.key ∧ x.val.length ≤ 4000
def txnOk (gs : List Gd) (ws : List Wr) : Prop := gs.length ≤ 20 ∧ ws.length ≤ 64 ∧ (∀ x ∈ gs, x.may) ∧ ∀ x ∈ ws, x.may

/-- A call with just what its kind names. -/
def Cal.bare (c : Cal) : Cal := ⟨c.from_, c.id, c.kind, if c.kind = 1 then c.key else [], if c.kind = 3 then c.rev else 0, if c.kind = 4 then c.gs else [], if c.kind = 4 then c.ws else []⟩
def Cal.may (c : Cal) : Prop := (0 ≤ c.from_ ∧ c.from_ ≤ 7 ∧ 1 ≤ c.id ∧ c.id ≤ 1099511627776 ∧ c = c.bare) ∧
  (c.kind = 1 ∧ keyOk c.key ∨ c.kind = 2 ∨ c.kind = 3 ∧ revOk c.rev ∨ c.kind = 4 ∧ txnOk c.gs c.ws)

def Cal.out (c : Cal) : Bs := be 1 c.kind.toNat ++ (be 1 c.from_.toNat ++ (be 8 c.id.toNat ++ (txt c.key ++ (be 8 c.rev.toNat ++ (be 1 c.gs.length ++ (c.gs.flatMap putG ++ (be 1 c.ws.length ++ c.ws.flatMap putW)))))))
open Classical in
noncomputable def Cal.put (c : Cal) : Bs := if c.may then c.out else []
def Cal.zero : Cal := ⟨0, 0, 0, [], 0, [], []⟩

theorem Cal.put_yes {c : Cal} (h : c.may) : c.put = c.out := if_pos h
theorem Cal.put_no {c : Cal} (h : ¬ c.may) : c.put = [] := if_neg h
theorem Cal.out_ne (c : Cal) : c.out ≠ [] := fun h => by
  have := congrArg List.length h
  simp [Cal.out, be_length] at this
theorem Cal.may_of_put {c : Cal} (h : c.put ≠ []) : c.may := by
  by_cases hc : c.may
  · exact hc
  · exact absurd (Cal.put_no hc) h

theorem flat_pre {α : Type} {f : α → Bs} {p : α → Prop} (hf : ∀ a b x y, p a → p b → f a ++ x = f b ++ y → a = b ∧ x = y) : ∀ {us bs : List α} {x y : Bs}, (∀ a ∈ us, p a) → (∀ b ∈ bs, p b) → us.length = bs.length → us.flatMap f ++ x = bs.flatMap f ++ y → us = bs ∧ x = y
  | [], [], x, y, _, _, _, h => ⟨rfl, h⟩
  | [], b :: bs, _, _, _, _, hl, _ => by cases hl
  | a :: us, [], _, _, _, _, hl, _ => by cases hl
  | a :: us, b :: bs, x, y, ha, hb, hl, h => by
    rw [List.flatMap_cons, List.flatMap_cons, List.append_assoc, List.append_assoc] at h
    obtain ⟨rfl, h2⟩ := hf _ _ _ _ (ha a (List.mem_cons_self ..)) (hb b (List.mem_cons_self ..)) h
    obtain ⟨rfl, h3⟩ := flat_pre hf (fun z hz => ha z (List.mem_cons_of_mem _ hz)) (fun z hz => hb z (List.mem_cons_of_mem _ hz)) (by simpa using hl) h2
    exact ⟨rfl, h3⟩

theorem putG_pre (a b : Gd) (x y : Bs) (ha : a.may) (hb : b.may) (h : putG a ++ x = putG b ++ y) : a = b ∧ x = y := by
  unfold putG at h
  simp only [List.append_assoc] at h
  obtain ⟨⟨_, a1⟩, a2, a3⟩ := ha
  obtain ⟨⟨_, b1⟩, b2, b3⟩ := hb
  obtain ⟨h1, i1⟩ := txt_pre (by omega) (by omega) h
  obtain ⟨h2, i2⟩ := be_pre (s := 8) (by omega) (by omega) i1
  obtain ⟨h3, i3⟩ := be_pre (s := 1) (bit_lt _) (bit_lt _) i2
  have h4 : a.rev = b.rev := by omega
  have h5 := bit_inj h3
  clear h h2 h3 i1 i2
  cases a; cases b
  simp only at h1 h4 h5
  subst h1 h4 h5
  exact ⟨rfl, i3⟩
theorem putW_pre (a b : Wr) (x y : Bs) (ha : a.may) (hb : b.may) (h : putW a ++ x = putW b ++ y) : a = b ∧ x = y := by
  unfold putW at h
  simp only [List.append_assoc] at h
  obtain ⟨⟨_, a1⟩, a2⟩ := ha
  obtain ⟨⟨_, b1⟩, b2⟩ := hb
  obtain ⟨h1, i1⟩ := txt_pre (by omega) (by omega) h
  obtain ⟨h2, i2⟩ := txt_pre (by omega) (by omega) i1
  obtain ⟨h3, i3⟩ := be_pre (s := 1) (bit_lt _) (bit_lt _) i2
  have h5 := bit_inj h3
  clear h h3 i1 i2
  cases a; cases b
  simp only at h1 h2 h5
  subst h1 h2 h5
  exact ⟨rfl, i3⟩

theorem Cal.ext' {a b : Cal} (h1 : a.from_ = b.from_) (h2 : a.id = b.id) (h3 : a.kind = b.kind) (h4 : a.key = b.key) (h5 : a.rev = b.rev) (h6 : a.gs = b.gs) (h7 : a.ws = b.ws) : a = b := by
  cases a; cases b; simp_all

/-- What may be is of some size. -/
theorem Cal.may.sizes {c : Cal} (h : c.may) : (0 ≤ c.kind ∧ c.kind < 256) ∧ c.key.length ≤ 20 ∧ revOk c.rev ∧ txnOk c.gs c.ws := by
  obtain ⟨⟨_, _, _, _, hb⟩, h⟩ := h
  have e1 : c.key = if c.kind = 1 then c.key else [] := congrArg Cal.key hb
  have e2 : c.rev = if c.kind = 3 then c.rev else 0 := congrArg Cal.rev hb
  have e3 : c.gs = if c.kind = 4 then c.gs else [] := congrArg Cal.gs hb
  have e4 : c.ws = if c.kind = 4 then c.ws else [] := congrArg Cal.ws hb
  have t0 : txnOk [] [] := ⟨by decide, by decide, (fun x h => nomatch h), (fun x h => nomatch h)⟩
  have r0 : revOk 0 := ⟨by decide, by decide⟩
  rcases h with ⟨hk, h⟩ | hk | ⟨hk, h⟩ | ⟨hk, h⟩
  · rw [if_neg (by omega)] at e2 e3 e4
    rw [e2, e3, e4]
    exact ⟨by omega, h.2, r0, t0⟩
  · rw [if_neg (by omega)] at e1 e2 e3 e4
    rw [e1, e2, e3, e4]
    exact ⟨by omega, by decide, r0, t0⟩
  · rw [if_neg (by omega)] at e1 e3 e4
    rw [e1, e3, e4]
    exact ⟨by omega, by decide, h, t0⟩
  · rw [if_neg (by omega)] at e1 e2
    rw [e1, e2]
    exact ⟨by omega, by decide, r0, h⟩

theorem Cal.put_inj {a b : Cal} (ha : a.may) (hb : b.may) (h : a.put = b.put) : a = b := by
  rw [Cal.put_yes ha, Cal.put_yes hb] at h
  obtain ⟨⟨a1, a2⟩, a3, ⟨a4, a5⟩, a6, a7, a8, a9⟩ := ha.sizes
  obtain ⟨⟨b1, b2⟩, b3, ⟨b4, b5⟩, b6, b7, b8, b9⟩ := hb.sizes
  obtain ⟨⟨a10, a11, a12, a13, _⟩, _⟩ := ha
  obtain ⟨⟨b10, b11, b12, b13, _⟩, _⟩ := hb
  unfold Cal.out at h
  obtain ⟨h1, h⟩ := be_pre (s := 1) (by omega) (by omega) h
  obtain ⟨h2, h⟩ := be_pre (s := 1) (by omega) (by omega) h
  obtain ⟨h3, h⟩ := be_pre (s := 8) (by omega) (by omega) h
  obtain ⟨h4, h⟩ := txt_pre (by omega) (by omega) h
  obtain ⟨h5, h⟩ := be_pre (s := 8) (by omega) (by omega) h
  obtain ⟨h6, h⟩ := be_pre (s := 1) (by omega) (by omega) h
  obtain ⟨h7, h⟩ := flat_pre putG_pre a8 b8 h6 h
  obtain ⟨h8, h⟩ := be_pre (s := 1) (by omega) (by omega) h
  have h : a.ws.flatMap putW ++ [] = b.ws.flatMap putW ++ [] := by rw [h]
  obtain ⟨h9, _⟩ := flat_pre putW_pre a9 b9 h8 h
  exact Cal.ext' (by omega) (by omega) (by omega) h4 (by omega) h7 h9

theorem Cal.put_len (c : Cal) : c.put.length ≤ 2 ^ 20 := by
  by_cases hc : c.may
  · rw [Cal.put_yes hc]
    obtain ⟨_, h3, _, h6, h7, h8, h9⟩ := hc.sizes
    have hG : ∀ l : List Gd, (∀ x ∈ l, x.may) → (l.flatMap putG).length ≤ l.length * 40 := by
      intro l
      induction l with
      | nil => intro _; exact Nat.le_refl _
      | cons x r ih =>
        intro h
        have h1 := ih fun z hz => h z (List.mem_cons_of_mem _ hz)
        have h2 := (h x (List.mem_cons_self ..)).1.2
        rw [List.flatMap_cons, List.length_append]
        simp only [putG, txt, List.length_append, be_length, List.length_cons]
        omega
    have hW : ∀ l : List Wr, (∀ x ∈ l, x.may) → (l.flatMap putW).length ≤ l.length * 4040 := by
      intro l
      induction l with
      | nil => intro _; exact Nat.le_refl _
      | cons x r ih =>
        intro h
        have h1 := ih fun z hz => h z (List.mem_cons_of_mem _ hz)
        have h2 := (h x (List.mem_cons_self ..)).1.2
        have h3 := (h x (List.mem_cons_self ..)).2
        rw [List.flatMap_cons, List.length_append]
        simp only [putW, txt, List.length_append, be_length, List.length_cons]
        omega
    have a := hG _ h8
    have b := hW _ h9
    simp only [Cal.out, txt, List.length_append, be_length]
    omega
  · rw [Cal.put_no hc]; exact Nat.zero_le _

end Go.Proofs.YtehmailaabjdjaaGreat
end

section
open Go.Proofs
namespace Go.Proofs.YtehmailaabjdjaaGreat
set_option linter.unusedSimpArgs false
set_option linter.unusedVariables false
set_option maxRecDepth 100000

/-! ### What a call may have beside it -/
def callB' (lo : List Nat) : List Rec → Bool
  | [] => true
  | d :: D => (match memN d.i lo with
    | true => d.alloc || (match d.wrt with
      | [] => true
      | _ :: _ => false)
    | false => true) && callB' lo D
theorem call_b' {lo : List Nat} : ∀ {D : List Rec}, callB' lo D = true → callS lo D
  | [], _ => trivial
  | d :: D, h => by
    simp only [callB', Bool.and_eq_true] at h
    refine ⟨?_, call_b' h.2⟩
    have h1 := h.1
    cases hm : memN d.i lo with
    | false => exact trivial
    | true =>
      rw [hm] at h1
      simp only [Bool.or_eq_true] at h1
      show d.alloc = true ∨ d.wrt = []
      rcases h1 with h1 | h1
      · exact .inl h1
      · right
        split at h1
        · assumption
        · cases h1

section
variable {N : Nat} {f : Nat → Value} {s : Sls} {g : Gm} {n nm : Nat} {k : Sls → Gm → List Nat → List Nat → Prop} {d : Tmp} {ty : TypeId} {pos : String} {af : Array Edge} {gd : Option (Nat × Bool)}

theorem st_bin {op : BinOp} {t t2 : TypeId} {x y : Operand} {u v r : Value} (hx : ov N s x = some u) (hy : ov N s y = some v) (hu : plainV u = true) (hv : plainV v = true) (hr : plainV r = true)
    (h : pureRun E6.P (do eqGuard op t x y u v; Go.binOp op t u v) = some r) (hk : k ((d, r) :: s) g [] []) : ST N f s g n nm ⟨some d, .binOp op t x y t2, ty, pos, af, gd⟩ k := by
  refine st_val (v := r) rfl ?_ hk
  simp only [aop, aBin, ov_ok hx, ov_ok hy, Option.bind_some, hu, hv, Bool.and_self, if_true, pureVal, h, hr, Option.map_some]

/-- x << j -/
theorem s_shl {t t2 : TypeId} {x y : Operand} {yk : IntKind} {a b : Int} {j : Nat} (hx : ov N s x = some (.int .i64 a)) (hy : ov N s y = some (.int yk b)) (hb : b = (j : Int)) (hj : j ≤ 64)
    (hk : k ((d, .int .i64 (IntKind.i64.wrap (a * 2 ^ j))) :: s) g [] []) : ST N f s g n nm ⟨some d, .binOp .shl t x y t2, ty, pos, af, gd⟩ k := by
  subst hb
  refine st_bin hx hy rfl rfl rfl ?_ hk
  have h1 : (do eqGuard .shl t x y (.int .i64 a) (.int yk (j : Int)); Go.binOp .shl t (.int .i64 a) (.int yk (j : Int)) : Sem Value) = Op.shift .shl .i64 a yk (j : Int) := rfl
  rw [h1]
  unfold Op.shift
  rw [if_neg (by omega), Int.toNat_natCast, Nat.min_eq_left (by exact hj)]
  rfl
/-- x >> j -/
theorem s_shr {t t2 : TypeId} {x y : Operand} {yk : IntKind} {a b : Int} {j : Nat} (hx : ov N s x = some (.int .i64 a)) (hy : ov N s y = some (.int yk b)) (hb : b = (j : Int)) (hj : j ≤ 64)
    (hk : k ((d, .int .i64 (a.fdiv (2 ^ j))) :: s) g [] []) : ST N f s g n nm ⟨some d, .binOp .shr t x y t2, ty, pos, af, gd⟩ k := by
  subst hb
  refine st_bin hx hy rfl rfl rfl ?_ hk
  have h1 : (do eqGuard .shr t x y (.int .i64 a) (.int yk (j : Int)); Go.binOp .shr t (.int .i64 a) (.int yk (j : Int)) : Sem Value) = Op.shift .shr .i64 a yk (j : Int) := rfl
  rw [h1]
  unfold Op.shift
  rw [if_neg (by omega), Int.toNat_natCast, Nat.min_eq_left (by exact hj)]
  rfl
def orV (a b : Int) : Int := IntKind.i64.wrap (BitVec.ofInt 64 a ||| BitVec.ofInt 64 b).toNat
/-- x | y -/
theorem s_or {t t2 : TypeId} {x y : Operand} {a b : Int} (hx : ov N s x = some (.int .i64 a)) (hy : ov N s y = some (.int .i64 b))
    (hk : k ((d, .int .i64 (orV a b)) :: s) g [] []) : ST N f s g n nm ⟨some d, .binOp .or t x y t2, ty, pos, af, gd⟩ k := by
  refine st_bin hx hy rfl rfl rfl ?_ hk
  have h1 : (do eqGuard .or t x y (.int .i64 a) (.int .i64 b); Go.binOp .or t (.int .i64 a) (.int .i64 b) : Sem Value) = Op.intBits .or .i64 a b := rfl
  rw [h1]
  rfl

/-- int64(byte) -/
theorem s_b2i {t u : TypeId} {x : Operand} {a : Int} (ht : E6.P.underlying t = some (.int .u8)) (hu : E6.P.underlying u = some (.int .i64)) (hx : ov N s x = some (.int .u8 a)) (h0 : 0 ≤ a) (h1 : a < 256)
    (hk : k ((d, .int .i64 a) :: s) g [] []) : ST N f s g n nm ⟨some d, .convert t u x, ty, pos, af, gd⟩ k := by
  refine st_val rfl ?_ hk
  have h1 : pureRun E6.P (convert t u (.int .u8 a)) = some (.int .i64 a) := by
    unfold convert
    rw [pureRun_bind E6.P _ _ (pureRun_underlying ht), pureRun_bind E6.P _ _ (pureRun_underlying hu)]
    have : IntKind.i64.wrap a = a := wrap_id (by omega) (by omega)
    show some (Value.int .i64 (IntKind.i64.wrap a)) = _
    rw [this]
  have h2 : pureVal E6.P (convert t u (.int .u8 a)) = some (Prim.ofVal (.int .i64 a)) := by
    unfold pureVal
    rw [h1]; rfl
  simp only [aop, aConvert, ov_ok hx, Option.bind_some, ht, hu]
  rw [if_pos (show plainV (.int .u8 a) = true from rfl), h2]
  rfl

/-- v[:j] of a row of elements. -/
theorem s_hiC {t e : TypeId} {kk : Nat} {x hi : Operand} {v : Value} {m j : Nat} {cs : List Value} (ht : E6.P.underlying t = some (.slice e)) (hz : szO E6.P e = some kk) (hx : ov N s x = some v) {gg : Gm} (hb : SlC gg kk v m cs) (hj : ov N s hi = some (.int .i64 (j : Int))) (hjl : j ≤ m)
    (h : ∀ a c, SlC gg kk (.slice a j c) j (cs.take (j * kk)) → (∀ x, vname (.slice a j c) = some x → vname v = some x) → k ((d, .slice a j c) :: s) g [] []) : ST N f s g n nm ⟨some d, .slice t x none (some hi) none, ty, pos, af, gd⟩ k := by
  obtain ⟨h1, ⟨rfl, h2⟩ | ⟨rfl, h2⟩ | ⟨l, o, c, rfl, h3, h4⟩⟩ := hb
  · subst h2
    have : cs = [] := List.eq_nil_of_length_eq_zero (by omega)
    subst this
    have : j = 0 := by omega
    subst this
    exact s_slh0 ht hz hx hj (h _ _ (by simpa using SlC.nil gg kk) fun x hx => hx)
  · subst h2
    have : cs = [] := List.eq_nil_of_length_eq_zero (by omega)
    subst this
    have : j = 0 := by omega
    subst this
    exact s_slhE ht hz hx hj (h _ _ ⟨by simp, .inr (.inl ⟨rfl, rfl⟩)⟩ fun x hx => hx)
  · have hm : j * kk ≤ m * kk := Nat.mul_le_mul_right _ hjl
    refine s_slh ht hz hx hj (by omega) (h _ _ ⟨by rw [List.length_take]; omega, .inr (.inr ⟨l, o, c, rfl, by omega, ?_⟩)⟩ fun x hx => hx)
    rcases h4 with h4 | ⟨cl, ro, h4, h5, h6⟩
    · left; omega
    · refine .inr ⟨cl, ro, h4, by omega, ?_⟩
      rw [← h6, List.take_take, Nat.min_eq_left hm]

/-- b[j:] of bytes of one's own. -/
theorem s_loB {b : Nat} {x lo : Operand} {v : Value} {bs : List UInt8} {j : Nat} (hx : ov N s x = some v) (hb : BytesNew b g v bs) (hj : ov N s lo = some (.int .i64 (j : Int))) (hjl : j ≤ bs.length)
    (h : ∀ a c tc, BytesNew b g (.slice a (bs.drop j).length c) (bs.drop j) → k ((d, .slice a (bs.drop j).length c) :: s) g tc []) : ST N f s g n nm ⟨some d, .slice 26 x (some lo) none none, ty, pos, af, gd⟩ k := by
  obtain ⟨⟨h1, ⟨rfl, h2⟩ | ⟨l, o, c, cl, rfl, h3, h4, h5, h6⟩⟩, h7⟩ := hb
  · have : bs = [] := List.eq_nil_of_length_eq_zero h2
    subst this
    have : j = 0 := by simpa using hjl
    subst this
    refine st_val (v := .slice none 0 0) rfl ?_ (h none 0 [] ⟨SlOwn.nil _ _, fun l hl => by cases hl⟩)
    simp [aop, aSlice, un_26, sz_5, ov_ok hx, ov_ok hj, boundO]
  · have e : (bs.drop j).length = bs.length - j := List.length_drop
    refine s_sll un_26 sz_5 hx hj hjl h3 h4 fun tc => ?_
    rw [← e]
    refine h _ _ tc ⟨⟨by rw [u8c_length]; omega, .inr ⟨l, _, _, cl, rfl, by omega, h4, by omega, ?_⟩⟩, fun x hx => by cases hx; exact h7 l rfl⟩
    have : ((cl.drop o).take (bs.length * 1)).drop j = (u8c bs).drop j := by rw [h6]
    rw [List.drop_take, List.drop_drop] at this
    rw [e, Nat.mul_one, Nat.mul_one, show bs.length - j = bs.length * 1 - j by omega, this, u8c, u8c, List.map_drop]
end

theorem bi_mul {P : Program} {t : TypeId} {a b c : Int} (h : a * b = c) (h1 : -9223372036854775808 ≤ c) (h2 : c ≤ 9223372036854775807) : binS P .mul t (.int .i64 a) (.int .i64 b) = some (.int .i64 c) := by
  subst h
  simp only [binS, if_true, intV, wrap_id h1 h2]

theorem pureRun_bind2 {α β : Type} (P : Program) (s : Sem α) (f : α → Sem β) : pureRun P (s >>= f) = (pureRun P s).bind fun v => pureRun P (f v) := by
  induction s with
  | pure b => rfl
  | program k ih => exact ih P
  | _ => rfl

theorem pr_program (P : Program) : pureRun P program = some P := rfl
theorem pr_struct {P : Program} (d : Nat) (t : TypeId) (xs ys : Array Value) {fs : Array Field} (ht : P.underlying t = some (.struct fs)) (hp : P.stoodInHeld t = false) :
    pureRun P (Op.equalIn (d + 1) t (.agg xs) (.agg ys)) = pureRun P (Op.eqFields d xs ys fs.toList) := by
  simp only [Op.equalIn, pureRun_bind2, pureRun_underlying ht, Option.bind_some, pr_program, hp, Bool.false_eq_true, if_false]
  rw [← Array.forIn_toList]
  generalize fs.toList = l
  clear ht
  induction l with
  | nil => rfl
  | cons f l ih =>
    simp only [List.forIn_cons, Op.eqFields]
    by_cases hf : f.name ≠ "_"
    · rw [if_pos hf, if_pos hf]
      simp only [pureRun_bind2]
      cases h1 : pureRun P (part f.type xs f.offset) with
      | none => rfl
      | some a =>
        simp only [Option.bind_some]
        cases h2 : pureRun P (part f.type ys f.offset) with
        | none => rfl
        | some b =>
          simp only [Option.bind_some]
          cases h3 : pureRun P (Op.equalIn d f.type a b) with
          | none => rfl
          | some r =>
            cases r
            · rfl
            · exact ih
    · rw [if_neg hf, if_neg hf]
      exact ih

/-- Two guards, side by side. -/
theorem eq36 (a b : Bs) (c d : Int) (e f : Bool) : pureRun E6.P (Op.equal 36 (.agg [.string (str a), .int .i64 c, .bool e].toArray) (.agg [.string (str b), .int .i64 d, .bool f].toArray)) = some (decide (a = b ∧ c = d ∧ e = f)) := by
  have hst : E6.P.stoodInHeld 36 = false := id (by kernel_rfl)
  have g9 : ∀ (x y : Bs), pureRun E6.P (Op.equalIn 9999 9 (.string (str x)) (.string (str y))) = some (decide (x = y)) := fun x y => by
    unfold Op.equalIn
    rw [pureRun_bind E6.P _ _ (pureRun_underlying un_9)]
    show some ((str x) == (str y)) = _
    rw [beq_toListBytes, str_eq]
  have g2 : ∀ (x y : Int), pureRun E6.P (Op.equalIn 9999 2 (.int .i64 x) (.int .i64 y)) = some (decide (x = y)) := fun x y => by
    unfold Op.equalIn
    rw [pureRun_bind E6.P _ _ (pureRun_underlying un_2)]
    show some (x == y) = _
    congr 1
  have g4 : ∀ (x y : Bool), pureRun E6.P (Op.equalIn 9999 4 (.bool x) (.bool y)) = some (decide (x = y)) := fun x y => by
    unfold Op.equalIn
    rw [pureRun_bind E6.P _ _ (pureRun_underlying un_4)]
    show some (x == y) = _
    cases x <;> cases y <;> rfl
  have ia : ∀ t dd, E6.P.underlying t = some dd → (∀ fs, dd ≠ .struct fs) → (∀ n e, dd ≠ .array n e) → pureRun E6.P (isAgg t) = some false := fun t dd h h1 h2 => by
    unfold isAgg
    rw [pureRun_bind E6.P _ _ (pureRun_underlying h)]
    cases dd <;> first | rfl | exact absurd rfl (h1 _) | exact absurd rfl (h2 _ _)
  have i9 := ia 9 _ un_9 (fun _ h => by cases h) (fun _ _ h => by cases h)
  have i2 := ia 2 _ un_2 (fun _ h => by cases h) (fun _ _ h => by cases h)
  have i4 := ia 4 _ un_4 (fun _ h => by cases h) (fun _ _ h => by cases h)
  have p9 : ∀ (x : ByteArray) (y z : Value), pureRun E6.P (part 9 [.string x, y, z].toArray 0) = some (.string x) := fun x y z => by
    unfold part; rw [pureRun_bind E6.P _ _ i9]; rfl
  have p2 : ∀ (x : Value) (y : Int) (z : Value), pureRun E6.P (part 2 [x, .int .i64 y, z].toArray 1) = some (.int .i64 y) := fun x y z => by
    unfold part; rw [pureRun_bind E6.P _ _ i2]; rfl
  have p4 : ∀ (x y : Value) (z : Bool), pureRun E6.P (part 4 [x, y, .bool z].toArray 2) = some (.bool z) := fun x y z => by
    unfold part; rw [pureRun_bind E6.P _ _ i4]; rfl
  unfold Op.equal Op.maxDepth
  rw [pr_struct 9999 36 _ _ (show E6.P.underlying 36 = _ from Tryz.underlying36) hst]
  simp only [Op.eqFields]
  rw [if_pos (by decide), if_pos (by decide), if_pos (by decide)]
  simp only [pureRun_bind2, p9, p2, p4, g9, g2, g4, Option.bind_some]
  by_cases h1 : a = b
  · by_cases h2 : c = d
    · by_cases h3 : e = f
      · simp [h1, h2, h3, pureRun_pure, pureRun_bind2, p9, p2, p4, g9, g2, g4]
      · simp [h1, h2, h3, pureRun_pure, pureRun_bind2, p9, p2, p4, g9, g2, g4]
    · simp [h1, h2, pureRun_pure, pureRun_bind2, p9, p2, p4, g9, g2, g4]
  · simp [h1, pureRun_pure, pureRun_bind2, p9, p2, p4, g9, g2, g4]

section
variable {N : Nat} {f : Nat → Value} {s : Sls} {g : Gm} {n nm : Nat} {k : Sls → Gm → List Nat → List Nat → Prop} {d : Tmp} {ty : TypeId} {pos : String} {af : Array Edge} {gd : Option (Nat × Bool)}
/-- x != y of guards -/
theorem s_neG {t2 : TypeId} {x y : Operand} (p q : Gd) (hx : ov N s x = some (.agg [.string (str p.key), .int .i64 p.rev, .bool p.under].toArray)) (hy : ov N s y = some (.agg [.string (str q.key), .int .i64 q.rev, .bool q.under].toArray))
    (hk : k ((d, .bool (!(decide (p = q)))) :: s) g [] []) : ST N f s g n nm ⟨some d, .binOp .neq 36 x y t2, ty, pos, af, gd⟩ k := by
  have hd : decide (p = q) = decide (p.key = q.key ∧ p.rev = q.rev ∧ p.under = q.under) := by
    cases p; cases q; simp
  rw [hd] at hk
  refine st_bin hx hy rfl rfl rfl ?_ hk
  have h1 : (do eqGuard .neq 36 x y (.agg [.string (str p.key), .int .i64 p.rev, .bool p.under].toArray) (.agg [.string (str q.key), .int .i64 q.rev, .bool q.under].toArray); Go.binOp .neq 36 (.agg [.string (str p.key), .int .i64 p.rev, .bool p.under].toArray) (.agg [.string (str q.key), .int .i64 q.rev, .bool q.under].toArray) : Sem Value) =
      (do (do if !(← program).eqGuardType (← program).depth 36 then return
              if ← Op.eqGuardIn Op.maxDepth 36 (.agg [.string (str p.key), .int .i64 p.rev, .bool p.under].toArray) (.agg [.string (str q.key), .int .i64 q.rev, .bool q.under].toArray) then unsupported (.noEntry "binop/eql: two nil values of an interface type with methods, in a part of a struct or an array") : Sem Unit)
          pure (.bool (!(← Op.equal 36 (.agg [.string (str p.key), .int .i64 p.rev, .bool p.under].toArray) (.agg [.string (str q.key), .int .i64 q.rev, .bool q.under].toArray))))) := rfl
  rw [h1]
  have hg : E6.P.eqGuardType E6.P.depth 36 = false := id (by kernel_rfl)
  simp only [pureRun_bind2, pr_program, Option.bind_some, hg, eq36]
  rfl
end

end Go.Proofs.YtehmailaabjdjaaGreat
end

section
open Go.Proofs
namespace Go.Proofs.YtehmailaabjdjaaGreat
set_option linter.unusedSimpArgs false
set_option linter.unusedVariables false
set_option maxRecDepth 100000

/-- A guard's cells; guards in a row, to be read. -/
def gdC (x : Gd) : List Value := [.string (str x.key), .int .i64 x.rev, .bool x.under]
def GdsRd (g : Gm) (v : Value) (gs : List Gd) : Prop := ∃ cs, SlC g 3 v gs.length cs ∧ Rows 3 (fun c x => c = gdC x) cs gs
/-- A write's cells; writes in a row. -/
def wrC (x : Wr) (v : Value) : List Value := [.string (str x.key), v, .bool x.gone]
def WrC (B : Value → List UInt8 → Prop) (c : List Value) (x : Wr) : Prop := ∃ a p, c = wrC x (.slice a x.val.length p) ∧ B (.slice a x.val.length p) x.val
def WrsRd (g : Gm) (v : Value) (ws : List Wr) : Prop := ∃ cs, SlC g 3 v ws.length cs ∧ Rows 3 (WrC (BytesAt g)) cs ws
/-- A call's cells. -/
def calC (x : Cal) (gv wv : Value) : List Value := [.int .i64 x.from_, .int .i64 x.id, .int .i64 x.kind, .string (str x.key), .int .i64 x.rev, gv, wv]
structure CalAt (g : Gm) (x : Cal) (gv wv : Value) : Prop where
  gs : GdsRd g gv x.gs
  ws : WrsRd g wv x.ws

section
variable {F : Nat → AObj → Prop} {g g' : Gm} {n n' : Nat} {v w : Value} {gs hs : List Gd} {ws xs : List Wr}

theorem WrC.mono {B B' : Value → List UInt8 → Prop} {c : List Value} {x : Wr} (h : WrC B c x) (hb : ∀ v bs, B v bs → B' v bs) : WrC B' c x := by
  obtain ⟨a, p, h1, h2⟩ := h
  exact ⟨a, p, h1, hb _ _ h2⟩
theorem GdsRd.kp (h : GdsRd g v gs) (hk : Kp F g n g') (hw : WF g n) (hv : Off F g v) : GdsRd g' v gs := by
  obtain ⟨cs, h1, h2⟩ := h
  exact ⟨cs, h1.kp hk hw hv, h2⟩
theorem GdsRd.kp0 (h : GdsRd g v gs) (hk : K0 g n g') (hw : WF g n) : GdsRd g' v gs := h.kp hk hw (Off.z g v)
theorem WrsRd.kp (h : WrsRd g v ws) (hk : Kp F g n g') (hw : WF g n) (hF : NoB F) (hv : Off F g v) : WrsRd g' v ws := by
  obtain ⟨cs, h1, h2⟩ := h
  exact ⟨cs, h1.kp hk hw hv, h2.mono fun c x _ hx => hx.mono fun _ _ k => k.kp hk hw hF⟩
theorem WrsRd.kp0 (h : WrsRd g v ws) (hk : K0 g n g') (hw : WF g n) : WrsRd g' v ws := h.kp hk hw NoB.z (Off.z g v)
theorem GdsRd.len (h : GdsRd g v gs) : ∃ a c, v = .slice a gs.length c := by
  obtain ⟨cs, h1, _⟩ := h
  obtain ⟨a, c, h, _⟩ := h1.len
  exact ⟨a, c, h⟩
theorem WrsRd.len (h : WrsRd g v ws) : ∃ a c, v = .slice a ws.length c := by
  obtain ⟨cs, h1, _⟩ := h
  obtain ⟨a, c, h, _⟩ := h1.len
  exact ⟨a, c, h⟩
theorem GdsRd.nil (g : Gm) : GdsRd g (.slice none 0 0) [] := ⟨[], SlC.nil _ _, rfl⟩
theorem WrsRd.nil (g : Gm) : WrsRd g (.slice none 0 0) [] := ⟨[], SlC.nil _ _, rfl⟩
theorem CalAt.kp0 {x : Cal} {gv wv : Value} (h : CalAt g x gv wv) (hk : K0 g n g') (hw : WF g n) : CalAt g' x gv wv := ⟨h.gs.kp0 hk hw, h.ws.kp0 hk hw⟩
theorem CalAt.zero (g : Gm) : CalAt g Cal.zero (.slice none 0 0) (.slice none 0 0) := ⟨GdsRd.nil g, WrsRd.nil g⟩

theorem GdsRd.at {i : Nat} (h : GdsRd g v gs) (hi : i < gs.length) : ∃ l o c cl ro, v = .slice (some ⟨l, o, none⟩) gs.length c ∧ g l = some (.cells cl 3 ro) ∧ o + i * 3 + 3 ≤ cl.length ∧ (cl.drop (o + i * 3)).take 3 = gdC gs[i] := by
  obtain ⟨cs, h1, h2⟩ := h
  obtain ⟨l, o, c, cl, ro, rfl, hc, h3, h4, h5⟩ := h1.pos (by omega)
  have h6 := h2.get hi
  rw [← take_part h5 (show i * 3 + 3 ≤ gs.length * 3 by omega)] at h6
  exact ⟨l, o, c, cl, ro, rfl, h3, by omega, h6⟩
theorem WrsRd.at {i : Nat} (h : WrsRd g v ws) (hi : i < ws.length) : ∃ l o c cl ro a p, v = .slice (some ⟨l, o, none⟩) ws.length c ∧ g l = some (.cells cl 3 ro) ∧ o + i * 3 + 3 ≤ cl.length ∧ (cl.drop (o + i * 3)).take 3 = wrC ws[i] (.slice a ws[i].val.length p) ∧ BytesAt g (.slice a ws[i].val.length p) ws[i].val := by
  obtain ⟨cs, h1, h2⟩ := h
  obtain ⟨l, o, c, cl, ro, rfl, hc, h3, h4, h5⟩ := h1.pos (by omega)
  have h6 := h2.get hi
  rw [← take_part h5 (show i * 3 + 3 ≤ ws.length * 3 by omega)] at h6
  obtain ⟨a, p, h7, h8⟩ := h6
  exact ⟨l, o, c, cl, ro, a, p, rfl, h3, by omega, h7, h8⟩

theorem bytesEqual_c {bs cs : List UInt8} (h1 : BytesAt g v bs) (h2 : BytesAt g w cs) : C 80 #[v, w] g n fun u g' n' => u = .bool (decide (bs = cs)) ∧ K0 g n g' := by
  refine c_in2 Tryz.func80 rfl Tryz.ntmps80 rfl fun hw => ?_
  repeat (first | refine w_seq ?_ | refine w_blk ?_ | refine z_seq ?_ | refine z_blk ?_ | refine w_skip ?_)
  refine w_reg 1 rfl rfl (j' := 1) ?_
  refine n_op .no (q := 0) rfl (s_as rfl ?_)
  refine n_nil ?_
  repeat (first | refine w_seq ?_ | refine w_blk ?_ | refine z_seq ?_ | refine z_blk ?_ | refine w_skip ?_)
  refine w_reg 6 rfl rfl (j' := 7) ?_
  refine n_op .no (q := 1) rfl (s_mv rfl ?_)
  refine n_op .no (q := 2) rfl (s_b2s un_26 un_9 un_5 rfl h1 fun tc => ?_)
  refine n_op .no (q := 3) rfl (s_mv rfl ?_)
  refine n_op .no (q := 4) rfl (s_b2s un_26 un_9 un_5 rfl h2 fun tc => ?_)
  refine n_op .no (q := 5) rfl (s_bin rfl rfl rfl ?_)
  refine n_op .no (q := 6) rfl (s_as rfl ?_)
  refine n_nil ?_
  repeat (first | refine w_ret ?_ | refine w_seq ?_ | refine w_blk ?_ | refine z_seq ?_ | refine z_blk ?_ | refine w_skip ?_)
  refine z_r1 rfl rfl ?_
  exact ⟨by rw [str_eq], (by repeat (first | exact Kp.refl _ _ _ | refine Kp.new ?_ (by omega) _))⟩

theorem key_c (k : List UInt8) : C 108 #[.string (str k)] g n fun u g' n' => (∃ r, u = .bool r ∧ (r = true ↔ keyOk k)) ∧ K0 g n g' := by
  have hk := str_size k
  refine c_in1 Tryz.func108 rfl Tryz.ntmps108 rfl fun hw => ?_
  repeat (first | refine w_seq ?_ | refine w_blk ?_ | refine z_seq ?_ | refine z_blk ?_ | refine w_skip ?_)
  refine w_reg 1 rfl rfl (j' := 1) ?_
  refine n_op .no (q := 0) rfl (s_as rfl ?_)
  refine n_nil ?_
  by_cases h1 : 1 ≤ k.length
  · repeat (first | refine w_seq ?_ | refine w_blk ?_ | refine z_seq ?_ | refine z_blk ?_ | refine w_skip ?_)
    refine w_reg 9 rfl rfl (j' := 10) ?_
    refine n_op .no (q := 1) rfl (s_mv rfl ?_)
    refine n_op .no (q := 2) rfl (s_len rfl rfl un_9 rfl ?_)
    refine n_op .no (q := 3) rfl (s_bin rfl rfl rfl ?_)
    refine n_op .no (q := 4) rfl (s_mv rfl ?_)
    refine n_op (.yes rfl rfl (decide_eq_true (by omega))) (q := 5) rfl (s_mv rfl ?_)
    refine n_op (.yes rfl rfl (decide_eq_true (by omega))) (q := 6) rfl (s_len rfl rfl un_9 rfl ?_)
    refine n_op (.yes rfl rfl (decide_eq_true (by omega))) (q := 7) rfl (s_bin rfl rfl rfl ?_)
    refine n_op .no (q := 8) rfl (s_pt rfl (decide_eq_true (by omega)) rfl ?_)
    refine n_op .no (q := 9) rfl (s_as rfl ?_)
    refine n_nil ?_
    repeat (first | refine w_ret ?_ | refine w_seq ?_ | refine w_blk ?_ | refine z_seq ?_ | refine z_blk ?_ | refine w_skip ?_)
    refine z_r1 rfl rfl ?_
    exact ⟨⟨_, rfl, by simp only [decide_eq_true_eq, keyOk]; omega⟩, (by repeat (first | exact Kp.refl _ _ _ | refine Kp.new ?_ (by omega) _))⟩
  · repeat (first | refine w_seq ?_ | refine w_blk ?_ | refine z_seq ?_ | refine z_blk ?_ | refine w_skip ?_)
    refine w_reg 9 rfl rfl (j' := 10) ?_
    refine n_op .no (q := 1) rfl (s_mv rfl ?_)
    refine n_op .no (q := 2) rfl (s_len rfl rfl un_9 rfl ?_)
    refine n_op .no (q := 3) rfl (s_bin rfl rfl rfl ?_)
    refine n_op .no (q := 4) rfl (s_mv rfl ?_)
    refine n_sk rfl rfl (decide_eq_false (by omega)) ?_
    refine n_sk rfl rfl (decide_eq_false (by omega)) ?_
    refine n_sk rfl rfl (decide_eq_false (by omega)) ?_
    refine n_op .no (q := 8) rfl (s_pf rfl (decide_eq_false (by omega)) rfl ?_)
    refine n_op .no (q := 9) rfl (s_as rfl ?_)
    refine n_nil ?_
    repeat (first | refine w_ret ?_ | refine w_seq ?_ | refine w_blk ?_ | refine z_seq ?_ | refine z_blk ?_ | refine w_skip ?_)
    refine z_r1 rfl rfl ?_
    exact ⟨⟨_, rfl, by simp [keyOk]; omega⟩, (by repeat (first | exact Kp.refl _ _ _ | refine Kp.new ?_ (by omega) _))⟩

theorem rev_c (z : Int) : C 109 #[.int .i64 z] g n fun u g' n' => (∃ r, u = .bool r ∧ (r = true ↔ revOk z)) ∧ K0 g n g' := by
  refine c_in1 Tryz.func109 rfl Tryz.ntmps109 rfl fun hw => ?_
  repeat (first | refine w_seq ?_ | refine w_blk ?_ | refine z_seq ?_ | refine z_blk ?_ | refine w_skip ?_)
  refine w_reg 1 rfl rfl (j' := 1) ?_
  refine n_op .no (q := 0) rfl (s_as rfl ?_)
  refine n_nil ?_
  by_cases h1 : 0 ≤ z
  · repeat (first | refine w_seq ?_ | refine w_blk ?_ | refine z_seq ?_ | refine z_blk ?_ | refine w_skip ?_)
    refine w_reg 7 rfl rfl (j' := 8) ?_
    refine n_op .no (q := 1) rfl (s_mv rfl ?_)
    refine n_op .no (q := 2) rfl (s_bin rfl rfl rfl ?_)
    refine n_op .no (q := 3) rfl (s_mv rfl ?_)
    refine n_op (.yes rfl rfl (decide_eq_true h1)) (q := 4) rfl (s_mv rfl ?_)
    refine n_op (.yes rfl rfl (decide_eq_true h1)) (q := 5) rfl (s_bin rfl rfl rfl ?_)
    refine n_op .no (q := 6) rfl (s_pt rfl (decide_eq_true h1) rfl ?_)
    refine n_op .no (q := 7) rfl (s_as rfl ?_)
    refine n_nil ?_
    repeat (first | refine w_ret ?_ | refine w_seq ?_ | refine w_blk ?_ | refine z_seq ?_ | refine z_blk ?_ | refine w_skip ?_)
    refine z_r1 rfl rfl ?_
    exact ⟨⟨_, rfl, by simp only [decide_eq_true_eq, revOk]; omega⟩, (by repeat (first | exact Kp.refl _ _ _ | refine Kp.new ?_ (by omega) _))⟩
  · repeat (first | refine w_seq ?_ | refine w_blk ?_ | refine z_seq ?_ | refine z_blk ?_ | refine w_skip ?_)
    refine w_reg 7 rfl rfl (j' := 8) ?_
    refine n_op .no (q := 1) rfl (s_mv rfl ?_)
    refine n_op .no (q := 2) rfl (s_bin rfl rfl rfl ?_)
    refine n_op .no (q := 3) rfl (s_mv rfl ?_)
    refine n_sk rfl rfl (decide_eq_false h1) ?_
    refine n_sk rfl rfl (decide_eq_false h1) ?_
    refine n_op .no (q := 6) rfl (s_pf rfl (decide_eq_false h1) rfl ?_)
    refine n_op .no (q := 7) rfl (s_as rfl ?_)
    refine n_nil ?_
    repeat (first | refine w_ret ?_ | refine w_seq ?_ | refine w_blk ?_ | refine z_seq ?_ | refine z_blk ?_ | refine w_skip ?_)
    refine z_r1 rfl rfl ?_
    exact ⟨⟨_, rfl, by simp [revOk]; omega⟩, (by repeat (first | exact Kp.refl _ _ _ | refine Kp.new ?_ (by omega) _))⟩


theorem cut_c (h1 : GdsRd g v gs) (h2 : WrsRd g w ws) : C 28 #[.agg [v, w].toArray] g n fun u g' n' => ∃ v' w', u = .agg [v', w'].toArray ∧ GdsRd g' v' (gs.take 25) ∧ WrsRd g' w' (ws.take 70) ∧ K0 g n g' := by
  obtain ⟨a1, c1, rfl⟩ := h1.len
  obtain ⟨a2, c2, rfl⟩ := h2.len
  obtain ⟨cs, s1, s2⟩ := h1
  obtain ⟨ds, t1, t2⟩ := h2
  refine c_in1 Tryz.func28 rfl Tryz.ntmps28 rfl fun hw => ?_
  repeat (first | refine w_seq ?_ | refine w_blk ?_ | refine z_seq ?_ | refine z_blk ?_ | refine w_skip ?_)
  refine w_reg 2 rfl rfl (j' := 2) ?_
  refine n_op .no (q := 0) rfl (s_boxa rfl ?_)
  refine n_op .no (q := 1) rfl (s_al zl_42 ?_)
  refine n_nil ?_
  repeat (first | refine w_seq ?_ | refine w_blk ?_ | refine z_seq ?_ | refine z_blk ?_ | refine w_skip ?_)
  refine w_drw (T6 28 1) [(0, []), (1, []), (2, [1]), (3, [1]), (4, [1]), (5, [1]), (6, []), (7, [1, 3, 4, 6]), (8, [1, 3, 4, 6]), (9, [1, 3, 4, 6, 8]), (10, [1, 3, 4, 6, 8]), (11, [1, 3, 4, 6, 8]), (12, [1, 3, 4, 6, 8]), (13, [1, 3, 4, 6]), (14, []), (15, [])] 16 (by kernel_rfl) rfl rfl (j' := 18) ?_
  first | refine d_op rfl rfl .no (q := 2) rfl (s_fa0 rfl fo_42_0 ⟨⟨rfl, rfl⟩, ?_⟩) | refine d_op rfl rfl .no (q := 2) rfl (s_fa rfl fo_42_0 ⟨⟨rfl, rfl⟩, ?_⟩)
  refine d_tc rfl rfl rfl .no (q := 3) rfl (s_ld rfl (by repeat (first | exact gs_same _ _ _ | refine (gs_ne (by omega) _).trans ?_)) ag_37 (by first | exact rfl) ⟨clash_nil, ?_⟩)
  first | refine d_op rfl rfl .no (q := 4) rfl (s_fa0 rfl fo_42_0 ⟨⟨rfl, rfl⟩, ?_⟩) | refine d_op rfl rfl .no (q := 4) rfl (s_fa rfl fo_42_0 ⟨⟨rfl, rfl⟩, ?_⟩)
  refine d_tc rfl rfl rfl .no (q := 5) rfl (s_ld rfl (by repeat (first | exact gs_same _ _ _ | refine (gs_ne (by omega) _).trans ?_)) ag_37 (by first | exact rfl) ⟨clash_rd rfl, ?_⟩)
  refine d_tc rfl rfl rfl .no (q := 6) rfl (s_len rfl rfl un_37 rfl ⟨clash_rd rfl, ?_⟩)
  refine d_op rfl rfl .no (q := 7) rfl (s_min rfl rfl (c := ((min gs.length 25 : Nat) : Int)) (by omega) ⟨⟨rfl, rfl⟩, ?_⟩)
  refine d_tc rfl rfl rfl .no (q := 8) rfl (s_hiC un_37 sz_36 rfl s1 rfl (Nat.min_le_left _ _) fun a c hs hn => ⟨clash_nil, ?_⟩)
  first | refine d_op rfl rfl .no (q := 9) rfl (s_fa0 rfl fo_42_1 ⟨⟨rfl, rfl⟩, ?_⟩) | refine d_op rfl rfl .no (q := 9) rfl (s_fa rfl fo_42_1 ⟨⟨rfl, rfl⟩, ?_⟩)
  refine d_tc rfl rfl rfl .no (q := 10) rfl (s_ld rfl (by repeat (first | exact gs_same _ _ _ | refine (gs_ne (by omega) _).trans ?_)) ag_40 (by first | exact rfl) ⟨clash_rd rfl, ?_⟩)
  first | refine d_op rfl rfl .no (q := 11) rfl (s_fa0 rfl fo_42_1 ⟨⟨rfl, rfl⟩, ?_⟩) | refine d_op rfl rfl .no (q := 11) rfl (s_fa rfl fo_42_1 ⟨⟨rfl, rfl⟩, ?_⟩)
  refine d_tc rfl rfl rfl .no (q := 12) rfl (s_ld rfl (by repeat (first | exact gs_same _ _ _ | refine (gs_ne (by omega) _).trans ?_)) ag_40 (by first | exact rfl) ⟨clash_rd rfl, ?_⟩)
  refine d_tc rfl rfl rfl .no (q := 13) rfl (s_len rfl rfl un_40 rfl ⟨clash_rd rfl, ?_⟩)
  refine d_op rfl rfl .no (q := 14) rfl (s_min rfl rfl (c := ((min ws.length 70 : Nat) : Int)) (by omega) ⟨⟨rfl, rfl⟩, ?_⟩)
  refine d_tc rfl rfl rfl .no (q := 15) rfl (s_hiC un_40 sz_39 rfl t1 rfl (Nat.min_le_left _ _) fun a' c' hs' hn' => ⟨clash_rd rfl, ?_⟩)
  refine d_op rfl rfl .no (q := 16) rfl (s_bld pl_42 zl_42 rfl rfl rfl ⟨⟨rfl, rfl⟩, ?_⟩)
  refine d_tc rfl rfl rfl .no (q := 17) rfl (s_stw rfl rfl sz_42 rfl (by repeat (first | exact gs_same _ _ _ | refine (gs_ne (by omega) _).trans ?_)) (by exact rfl) rfl ⟨clash_nil, ?_⟩)
  refine d_nil ?_
  repeat (first | refine w_ret ?_ | refine w_seq ?_ | refine w_blk ?_ | refine z_seq ?_ | refine z_blk ?_ | refine w_skip ?_)
  refine z_rc rfl rfl (by repeat (first | exact gs_same _ _ _ | refine (gs_ne (by omega) _).trans ?_)) ag_42 sz_42 (by exact rfl) (by exact Nat.le_of_ble_eq_true rfl) ?_
  have e1 : (gs.take 25).length = min gs.length 25 := by rw [List.length_take, Nat.min_comm]
  have e2 : (ws.take 70).length = min ws.length 70 := by rw [List.length_take, Nat.min_comm]
  have r1 : GdsRd g (.slice a (min gs.length 25) c) (gs.take 25) := by
    refine ⟨_, ?_, Rows.take 25 s2⟩
    rw [e1]
    have : cs.take (min gs.length 25 * 3) = cs.take (25 * 3) := by
      have := s2.length
      rcases Nat.le_total gs.length 25 with h | h
      · rw [Nat.min_eq_left h, ← this, List.take_length, List.take_of_length_le (by omega)]
      · rw [Nat.min_eq_right h]
    rw [← this]; exact hs
  have r2 : WrsRd g (.slice a' (min ws.length 70) c') (ws.take 70) := by
    refine ⟨_, ?_, Rows.take 70 t2⟩
    rw [e2]
    have : ds.take (min ws.length 70 * 3) = ds.take (70 * 3) := by
      have := t2.length
      rcases Nat.le_total ws.length 70 with h | h
      · rw [Nat.min_eq_left h, ← this, List.take_length, List.take_of_length_le (by omega)]
      · rw [Nat.min_eq_right h]
    rw [← this]; exact hs'
  exact ⟨_, _, rfl, r1.kp0 (n := n) (by repeat (first | exact Kp.refl _ _ _ | refine Kp.new ?_ (by omega) _)) hw, r2.kp0 (n := n) (by repeat (first | exact Kp.refl _ _ _ | refine Kp.new ?_ (by omega) _)) hw, (by repeat (first | exact Kp.refl _ _ _ | refine Kp.new ?_ (by omega) _))⟩

theorem gdsEq_c (h1 : GdsRd g v gs) (h2 : GdsRd g w hs) (hn : gs.length < 2 ^ 40) : C 85 #[v, w] g n fun u g' n' => (∃ r, u = .bool r ∧ (r = true ↔ gs = hs)) ∧ K0 g n g' := by
  obtain ⟨a1, c1, rfl⟩ := h1.len
  obtain ⟨a2, c2, rfl⟩ := h2.len
  refine c_in2 Tryz.func85 rfl Tryz.ntmps85 rfl fun hw => ?_
  repeat (first | refine w_seq ?_ | refine w_blk ?_ | refine z_seq ?_ | refine z_blk ?_ | refine w_skip ?_)
  refine w_reg 1 rfl rfl (j' := 1) ?_
  refine n_op .no (q := 0) rfl (s_as rfl ?_)
  refine n_nil ?_
  repeat (first | refine w_seq ?_ | refine w_blk ?_ | refine z_seq ?_ | refine z_blk ?_ | refine w_skip ?_)
  refine w_reg 5 rfl rfl (j' := 6) ?_
  refine n_op .no (q := 1) rfl (s_mv rfl ?_)
  refine n_op .no (q := 2) rfl (s_len rfl rfl un_37 rfl ?_)
  refine n_op .no (q := 3) rfl (s_mv rfl ?_)
  refine n_op .no (q := 4) rfl (s_len rfl rfl un_37 rfl ?_)
  refine n_op .no (q := 5) rfl (s_bin rfl rfl rfl ?_)
  refine n_nil ?_
  by_cases hl : gs.length = hs.length
  · repeat (first | refine w_seq ?_ | refine w_blk ?_ | refine z_seq ?_ | refine z_blk ?_ | refine w_skip ?_)
    refine w_no rfl (bne_eq_false_iff_eq.2 (by omega)) ?_
    repeat (first | refine w_seq ?_ | refine w_blk ?_ | refine z_seq ?_ | refine z_blk ?_ | refine w_skip ?_)
    refine w_reg 3 rfl rfl (j' := 9) ?_
    refine n_op .no (q := 6) rfl (s_mv rfl ?_)
    refine n_op .no (q := 7) rfl (s_len rfl rfl un_37 rfl ?_)
    refine n_op .no (q := 8) rfl (s_mv rfl ?_)
    refine n_nil ?_
    repeat (first | refine w_seq ?_ | refine w_blk ?_ | refine z_seq ?_ | refine z_blk ?_ | refine w_skip ?_)
    refine w_loop (β := Nat) (fun i => [(0, .slice a1 gs.length c1), (1, .slice a2 hs.length c2), (12, .int .i64 gs.length), (13, .int .i64 i)])
      (fun i g' n' => i ≤ gs.length ∧ n ≤ n' ∧ K0 g n g' ∧ gs.take i = hs.take i) (fun i => gs.length - i) 0 ⟨rfl, rfl, rfl, rfl, trivial⟩ ⟨by omega, by omega, (by repeat (first | exact Kp.refl _ _ _ | refine Kp.new ?_ (by omega) _)), rfl⟩ ?_
    rintro i f g1 n1 hw1 ⟨hi, hn1, k1, ht⟩
    repeat (first | refine w_seq ?_ | refine w_blk ?_ | refine z_seq ?_ | refine z_blk ?_ | refine w_skip ?_)
    refine w_reg 1 rfl rfl (j' := 1) ?_
    refine n_op .no (q := 0) rfl (s_bin rfl rfl rfl ?_)
    refine n_nil ?_
    repeat (first | refine w_seq ?_ | refine w_blk ?_ | refine z_seq ?_ | refine z_blk ?_ | refine w_skip ?_)
    refine w_if rfl (fun hb => ?_) (fun hb => ?_)
    · have hi : i < gs.length := by simpa using hb
      have hi2 : i < hs.length := by omega
      obtain ⟨l3, o3, c3, cl3, ro3, x1, x2, x0, x5⟩ := (h1.kp0 k1 hw).at hi
      cases x1
      obtain ⟨l4, o4, c4, cl4, ro4, y1, y2, y0, y5⟩ := (h2.kp0 k1 hw).at hi2
      cases y1
      repeat (first | refine w_seq ?_ | refine w_blk ?_ | refine z_seq ?_ | refine z_blk ?_ | refine w_skip ?_)
      refine w_reg 2 rfl rfl (j' := 3) ?_
      refine n_op .no (q := 1) rfl (s_mv rfl ?_)
      refine n_op .no (q := 2) rfl (s_as rfl ?_)
      refine n_nil ?_
      repeat (first | refine w_seq ?_ | refine w_blk ?_ | refine z_seq ?_ | refine z_blk ?_ | refine w_skip ?_)
      refine w_drw (T6 85 6) [(0, []), (1, []), (2, []), (3, []), (4, [3]), (5, [3]), (6, [3]), (7, [3]), (8, [])] 9 (by kernel_rfl) rfl rfl (j' := 12) ?_
      refine d_op rfl rfl .no (q := 3) rfl (s_mv rfl ⟨⟨rfl, rfl⟩, ?_⟩)
      refine d_op rfl rfl .no (q := 4) rfl (s_mv rfl ⟨⟨rfl, rfl⟩, ?_⟩)
      refine d_op rfl rfl .no (q := 5) rfl (s_ia rfl rfl el_37 (by first | assumption | omega) ⟨⟨rfl, rfl⟩, ?_⟩)
      refine d_tc rfl rfl rfl .no (q := 6) rfl (s_lda rfl (by repeat (first | exact gs_same _ _ _ | exact x2 | exact y2 | exact x5 | exact y5 | refine (gs_ne (by omega) _).trans ?_)) ag_36 sz_36 (by first | exact Nat.le_of_ble_eq_true rfl | assumption | omega) (by first | exact x2 | exact y2 | exact x5 | exact y5 | exact rfl) ⟨clash_nil, ?_⟩)
      refine d_op rfl rfl .no (q := 7) rfl (s_mv rfl ⟨⟨rfl, rfl⟩, ?_⟩)
      refine d_op rfl rfl .no (q := 8) rfl (s_mv rfl ⟨⟨rfl, rfl⟩, ?_⟩)
      refine d_op rfl rfl .no (q := 9) rfl (s_ia rfl rfl el_37 (by first | assumption | omega) ⟨⟨rfl, rfl⟩, ?_⟩)
      refine d_tc rfl rfl rfl .no (q := 10) rfl (s_lda rfl (by repeat (first | exact gs_same _ _ _ | exact x2 | exact y2 | exact x5 | exact y5 | refine (gs_ne (by omega) _).trans ?_)) ag_36 sz_36 (by first | exact Nat.le_of_ble_eq_true rfl | assumption | omega) (by first | exact x2 | exact y2 | exact x5 | exact y5 | exact rfl) ⟨clash_rd rfl, ?_⟩)
      refine d_op rfl rfl .no (q := 11) rfl (s_neG gs[i] hs[i] rfl rfl ⟨⟨rfl, rfl⟩, ?_⟩)
      refine d_nil ?_
      by_cases he : gs[i] = hs[i]
      · repeat (first | refine w_seq ?_ | refine w_blk ?_ | refine z_seq ?_ | refine z_blk ?_ | refine w_skip ?_)
        refine w_no rfl (by simp [he]) ?_
        repeat (first | refine w_seq ?_ | refine w_blk ?_ | refine z_seq ?_ | refine z_blk ?_ | refine w_skip ?_)
        repeat (first | refine w_seq ?_ | refine w_blk ?_ | refine z_seq ?_ | refine z_blk ?_ | refine w_skip ?_)
        refine w_reg 2 rfl rfl (j' := 14) ?_
        first | refine n_op .no (q := 12) rfl (s_bin rfl rfl (bi_inc (by omega)) ?_) | refine n_op .no (q := 12) rfl (s_bin rfl rfl (bi_add rfl (by omega) (by omega)) ?_)
        refine n_op .no (q := 13) rfl (s_mv rfl ?_)
        refine n_nil ?_
        exact z_round (i + 1) ⟨rfl, rfl, rfl, rfl, trivial⟩ ⟨hi, by omega, k1, by rw [List.take_succ_eq_append_getElem hi, List.take_succ_eq_append_getElem hi2, ht, he]⟩ (by omega)
      · repeat (first | refine w_seq ?_ | refine w_blk ?_ | refine z_seq ?_ | refine z_blk ?_ | refine w_skip ?_)
        refine w_yes rfl (by simp [he]) ?_
        repeat (first | refine w_seq ?_ | refine w_blk ?_ | refine z_seq ?_ | refine z_blk ?_ | refine w_skip ?_)
        refine w_reg 1 rfl rfl (j' := 13) ?_
        refine n_op .no (q := 12) rfl (s_as rfl ?_)
        refine n_nil ?_
        repeat (first | refine w_ret ?_ | refine w_seq ?_ | refine w_blk ?_ | refine z_seq ?_ | refine z_blk ?_ | refine w_skip ?_)
        refine z_r1 rfl rfl ?_
        exact ⟨⟨_, rfl, ⟨fun h => (by cases h), fun h => absurd (by simp only [h]) he⟩⟩, k1⟩
    · refine w_exit rfl ?_
      repeat (first | refine w_seq ?_ | refine w_blk ?_ | refine z_seq ?_ | refine z_blk ?_ | refine w_skip ?_)
      refine w_reg 1 rfl rfl (j' := 2) ?_
      refine n_op .no (q := 1) rfl (s_as rfl ?_)
      refine n_nil ?_
      repeat (first | refine w_ret ?_ | refine w_seq ?_ | refine w_blk ?_ | refine z_seq ?_ | refine z_blk ?_ | refine w_skip ?_)
      refine z_r1 rfl rfl ?_
      have : i = gs.length := by simp at hb; omega
      subst this
      rw [List.take_length, hl, List.take_length] at ht
      exact ⟨⟨_, rfl, ⟨fun _ => ht, fun _ => rfl⟩⟩, k1⟩
  · repeat (first | refine w_seq ?_ | refine w_blk ?_ | refine z_seq ?_ | refine z_blk ?_ | refine w_skip ?_)
    refine w_yes rfl (bne_iff_ne.2 (by omega)) ?_
    repeat (first | refine w_seq ?_ | refine w_blk ?_ | refine z_seq ?_ | refine z_blk ?_ | refine w_skip ?_)
    refine w_reg 1 rfl rfl (j' := 7) ?_
    refine n_op .no (q := 6) rfl (s_as rfl ?_)
    refine n_nil ?_
    repeat (first | refine w_ret ?_ | refine w_seq ?_ | refine w_blk ?_ | refine z_seq ?_ | refine z_blk ?_ | refine w_skip ?_)
    refine z_r1 rfl rfl ?_
    exact ⟨⟨_, rfl, ⟨fun h => (by cases h), fun h => absurd (by rw [h]) hl⟩⟩, (by repeat (first | exact Kp.refl _ _ _ | refine Kp.new ?_ (by omega) _))⟩

theorem wrEq_c {x y : Wr} (h1 : BytesAt g v x.val) (h2 : BytesAt g w y.val) : C 87 #[.agg (wrC x v).toArray, .agg (wrC y w).toArray] g n fun u g' n' => (∃ r, u = .bool r ∧ (r = true ↔ x = y)) ∧ K0 g n g' := by
  refine c_in2 Tryz.func87 rfl Tryz.ntmps87 rfl fun hw => ?_
  repeat (first | refine w_seq ?_ | refine w_blk ?_ | refine z_seq ?_ | refine z_blk ?_ | refine w_skip ?_)
  refine w_reg 3 rfl rfl (j' := 3) ?_
  refine n_op .no (q := 0) rfl (s_boxa rfl ?_)
  refine n_op .no (q := 1) rfl (s_boxa rfl ?_)
  refine n_op .no (q := 2) rfl (s_as rfl ?_)
  refine n_nil ?_
  by_cases a2 : x.key = y.key
  · by_cases a3 : x.val = y.val
    · repeat (first | refine w_seq ?_ | refine w_blk ?_ | refine z_seq ?_ | refine z_blk ?_ | refine w_skip ?_)
      refine w_reg 20 rfl rfl (j' := 23) ?_
      first | refine n_op .no (q := 3) rfl (s_fa0 rfl fo_39_0 ?_) | refine n_op .no (q := 3) rfl (s_fa rfl fo_39_0 ?_)
      refine n_op .no (q := 4) rfl (s_ld rfl (by repeat (first | exact gs_same _ _ _ | refine (gs_ne (by omega) _).trans ?_)) ag_9 (by first | exact rfl) ?_)
      first | refine n_op .no (q := 5) rfl (s_fa0 rfl fo_39_0 ?_) | refine n_op .no (q := 5) rfl (s_fa rfl fo_39_0 ?_)
      refine n_op .no (q := 6) rfl (s_ld rfl (by repeat (first | exact gs_same _ _ _ | refine (gs_ne (by omega) _).trans ?_)) ag_9 (by first | exact rfl) ?_)
      refine n_op .no (q := 7) rfl (s_bin rfl rfl rfl ?_)
      refine n_op .no (q := 8) rfl (s_mv rfl ?_)
      first | refine n_op (.yes rfl rfl (str_t a2)) (q := 9) rfl (s_fa0 rfl fo_39_1 ?_) | refine n_op (.yes rfl rfl (str_t a2)) (q := 9) rfl (s_fa rfl fo_39_1 ?_)
      refine n_op (.yes rfl rfl (str_t a2)) (q := 10) rfl (s_ld rfl (by repeat (first | exact gs_same _ _ _ | refine (gs_ne (by omega) _).trans ?_)) ag_26 (by first | exact rfl) ?_)
      first | refine n_op (.yes rfl rfl (str_t a2)) (q := 11) rfl (s_fa0 rfl fo_39_1 ?_) | refine n_op (.yes rfl rfl (str_t a2)) (q := 11) rfl (s_fa rfl fo_39_1 ?_)
      refine n_op (.yes rfl rfl (str_t a2)) (q := 12) rfl (s_ld rfl (by repeat (first | exact gs_same _ _ _ | refine (gs_ne (by omega) _).trans ?_)) ag_26 (by first | exact rfl) ?_)
      refine n_call (.yes rfl rfl (str_t a2)) rfl rfl rfl ?_
      refine C.use (bytesEqual_c (BytesAt.kp0 h1 (by repeat (first | exact Kp.refl _ _ _ | refine Kp.new ?_ (by omega) _)) hw) (BytesAt.kp0 h2 (by repeat (first | exact Kp.refl _ _ _ | refine Kp.new ?_ (by omega) _)) hw)) fun v g1 n1 hw1 hn1 hq => ?_
      obtain ⟨rfl, k1⟩ := hq
      refine n_op .no (q := 14) rfl (s_pt rfl (str_t a2) rfl ?_)
      refine n_op .no (q := 15) rfl (s_mv rfl ?_)
      first | refine n_op (.yes rfl rfl (decide_eq_true a3)) (q := 16) rfl (s_fa0 rfl fo_39_2 ?_) | refine n_op (.yes rfl rfl (decide_eq_true a3)) (q := 16) rfl (s_fa rfl fo_39_2 ?_)
      refine n_op (.yes rfl rfl (decide_eq_true a3)) (q := 17) rfl (s_ld rfl (by repeat (first | exact gs_same _ _ _ | refine Kp.lt k1 (by omega) ?_ | refine (gs_ne (by omega) _).trans ?_)) ag_4 (by first | exact rfl) ?_)
      first | refine n_op (.yes rfl rfl (decide_eq_true a3)) (q := 18) rfl (s_fa0 rfl fo_39_2 ?_) | refine n_op (.yes rfl rfl (decide_eq_true a3)) (q := 18) rfl (s_fa rfl fo_39_2 ?_)
      refine n_op (.yes rfl rfl (decide_eq_true a3)) (q := 19) rfl (s_ld rfl (by repeat (first | exact gs_same _ _ _ | refine Kp.lt k1 (by omega) ?_ | refine (gs_ne (by omega) _).trans ?_)) ag_4 (by first | exact rfl) ?_)
      refine n_op (.yes rfl rfl (decide_eq_true a3)) (q := 20) rfl (s_bin rfl rfl (bi_d un_4 rfl) ?_)
      refine n_op .no (q := 21) rfl (s_pt rfl (decide_eq_true a3) rfl ?_)
      refine n_op .no (q := 22) rfl (s_as rfl ?_)
      refine n_nil ?_
      repeat (first | refine w_ret ?_ | refine w_seq ?_ | refine w_blk ?_ | refine z_seq ?_ | refine z_blk ?_ | refine w_skip ?_)
      refine z_r1 rfl rfl ?_
      refine ⟨⟨_, rfl, ⟨fun h => ?_, fun h => by rw [h]; simp⟩⟩, Kp.trans0 (by repeat (first | exact Kp.refl _ _ _ | refine Kp.new ?_ (by omega) _)) k1 (by omega)⟩
      have a4 : x.gone = y.gone := by simpa using h
      cases x; cases y; simp_all
    · repeat (first | refine w_seq ?_ | refine w_blk ?_ | refine z_seq ?_ | refine z_blk ?_ | refine w_skip ?_)
      refine w_reg 20 rfl rfl (j' := 23) ?_
      first | refine n_op .no (q := 3) rfl (s_fa0 rfl fo_39_0 ?_) | refine n_op .no (q := 3) rfl (s_fa rfl fo_39_0 ?_)
      refine n_op .no (q := 4) rfl (s_ld rfl (by repeat (first | exact gs_same _ _ _ | refine (gs_ne (by omega) _).trans ?_)) ag_9 (by first | exact rfl) ?_)
      first | refine n_op .no (q := 5) rfl (s_fa0 rfl fo_39_0 ?_) | refine n_op .no (q := 5) rfl (s_fa rfl fo_39_0 ?_)
      refine n_op .no (q := 6) rfl (s_ld rfl (by repeat (first | exact gs_same _ _ _ | refine (gs_ne (by omega) _).trans ?_)) ag_9 (by first | exact rfl) ?_)
      refine n_op .no (q := 7) rfl (s_bin rfl rfl rfl ?_)
      refine n_op .no (q := 8) rfl (s_mv rfl ?_)
      first | refine n_op (.yes rfl rfl (str_t a2)) (q := 9) rfl (s_fa0 rfl fo_39_1 ?_) | refine n_op (.yes rfl rfl (str_t a2)) (q := 9) rfl (s_fa rfl fo_39_1 ?_)
      refine n_op (.yes rfl rfl (str_t a2)) (q := 10) rfl (s_ld rfl (by repeat (first | exact gs_same _ _ _ | refine (gs_ne (by omega) _).trans ?_)) ag_26 (by first | exact rfl) ?_)
      first | refine n_op (.yes rfl rfl (str_t a2)) (q := 11) rfl (s_fa0 rfl fo_39_1 ?_) | refine n_op (.yes rfl rfl (str_t a2)) (q := 11) rfl (s_fa rfl fo_39_1 ?_)
      refine n_op (.yes rfl rfl (str_t a2)) (q := 12) rfl (s_ld rfl (by repeat (first | exact gs_same _ _ _ | refine (gs_ne (by omega) _).trans ?_)) ag_26 (by first | exact rfl) ?_)
      refine n_call (.yes rfl rfl (str_t a2)) rfl rfl rfl ?_
      refine C.use (bytesEqual_c (BytesAt.kp0 h1 (by repeat (first | exact Kp.refl _ _ _ | refine Kp.new ?_ (by omega) _)) hw) (BytesAt.kp0 h2 (by repeat (first | exact Kp.refl _ _ _ | refine Kp.new ?_ (by omega) _)) hw)) fun v g1 n1 hw1 hn1 hq => ?_
      obtain ⟨rfl, k1⟩ := hq
      refine n_op .no (q := 14) rfl (s_pt rfl (str_t a2) rfl ?_)
      refine n_op .no (q := 15) rfl (s_mv rfl ?_)
      refine n_sk rfl rfl (decide_eq_false a3) ?_
      refine n_sk rfl rfl (decide_eq_false a3) ?_
      refine n_sk rfl rfl (decide_eq_false a3) ?_
      refine n_sk rfl rfl (decide_eq_false a3) ?_
      refine n_sk rfl rfl (decide_eq_false a3) ?_
      refine n_op .no (q := 21) rfl (s_pf rfl (decide_eq_false a3) rfl ?_)
      refine n_op .no (q := 22) rfl (s_as rfl ?_)
      refine n_nil ?_
      repeat (first | refine w_ret ?_ | refine w_seq ?_ | refine w_blk ?_ | refine z_seq ?_ | refine z_blk ?_ | refine w_skip ?_)
      refine z_r1 rfl rfl ?_
      exact ⟨⟨_, rfl, ⟨fun h => by simp at h, fun h => absurd (by rw [h]) a3⟩⟩, Kp.trans0 (by repeat (first | exact Kp.refl _ _ _ | refine Kp.new ?_ (by omega) _)) k1 (by omega)⟩
  · repeat (first | refine w_seq ?_ | refine w_blk ?_ | refine z_seq ?_ | refine z_blk ?_ | refine w_skip ?_)
    refine w_reg 20 rfl rfl (j' := 23) ?_
    first | refine n_op .no (q := 3) rfl (s_fa0 rfl fo_39_0 ?_) | refine n_op .no (q := 3) rfl (s_fa rfl fo_39_0 ?_)
    refine n_op .no (q := 4) rfl (s_ld rfl (by repeat (first | exact gs_same _ _ _ | refine (gs_ne (by omega) _).trans ?_)) ag_9 (by first | exact rfl) ?_)
    first | refine n_op .no (q := 5) rfl (s_fa0 rfl fo_39_0 ?_) | refine n_op .no (q := 5) rfl (s_fa rfl fo_39_0 ?_)
    refine n_op .no (q := 6) rfl (s_ld rfl (by repeat (first | exact gs_same _ _ _ | refine (gs_ne (by omega) _).trans ?_)) ag_9 (by first | exact rfl) ?_)
    refine n_op .no (q := 7) rfl (s_bin rfl rfl rfl ?_)
    refine n_op .no (q := 8) rfl (s_mv rfl ?_)
    refine n_sk rfl rfl (str_f a2) ?_
    refine n_sk rfl rfl (str_f a2) ?_
    refine n_sk rfl rfl (str_f a2) ?_
    refine n_sk rfl rfl (str_f a2) ?_
    refine n_sk rfl rfl (str_f a2) ?_
    refine n_op .no (q := 14) rfl (s_pf rfl (str_f a2) rfl ?_)
    refine n_op .no (q := 15) rfl (s_mv rfl ?_)
    refine n_sk rfl rfl (rfl) ?_
    refine n_sk rfl rfl (rfl) ?_
    refine n_sk rfl rfl (rfl) ?_
    refine n_sk rfl rfl (rfl) ?_
    refine n_sk rfl rfl (rfl) ?_
    refine n_op .no (q := 21) rfl (s_pf rfl (rfl) rfl ?_)
    refine n_op .no (q := 22) rfl (s_as rfl ?_)
    refine n_nil ?_
    repeat (first | refine w_ret ?_ | refine w_seq ?_ | refine w_blk ?_ | refine z_seq ?_ | refine z_blk ?_ | refine w_skip ?_)
    refine z_r1 rfl rfl ?_
    exact ⟨⟨_, rfl, ⟨fun h => by simp at h, fun h => absurd (by rw [h]) a2⟩⟩, (by repeat (first | exact Kp.refl _ _ _ | refine Kp.new ?_ (by omega) _))⟩

theorem wrsEq_c (h1 : WrsRd g v ws) (h2 : WrsRd g w xs) (hn : ws.length < 2 ^ 40) : C 86 #[v, w, .func (.func 87) #[] #[]] g n fun u g' n' => (∃ r, u = .bool r ∧ (r = true ↔ ws = xs)) ∧ K0 g n g' := by
  obtain ⟨a1, c1, rfl⟩ := h1.len
  obtain ⟨a2, c2, rfl⟩ := h2.len
  refine c_in3 Tryz.func86 rfl Tryz.ntmps86 rfl fun hw => ?_
  repeat (first | refine w_seq ?_ | refine w_blk ?_ | refine z_seq ?_ | refine z_blk ?_ | refine w_skip ?_)
  refine w_reg 1 rfl rfl (j' := 1) ?_
  refine n_op .no (q := 0) rfl (s_as rfl ?_)
  refine n_nil ?_
  repeat (first | refine w_seq ?_ | refine w_blk ?_ | refine z_seq ?_ | refine z_blk ?_ | refine w_skip ?_)
  refine w_reg 5 rfl rfl (j' := 6) ?_
  refine n_op .no (q := 1) rfl (s_mv rfl ?_)
  refine n_op .no (q := 2) rfl (s_len rfl rfl un_40 rfl ?_)
  refine n_op .no (q := 3) rfl (s_mv rfl ?_)
  refine n_op .no (q := 4) rfl (s_len rfl rfl un_40 rfl ?_)
  refine n_op .no (q := 5) rfl (s_bin rfl rfl rfl ?_)
  refine n_nil ?_
  by_cases hl : ws.length = xs.length
  · repeat (first | refine w_seq ?_ | refine w_blk ?_ | refine z_seq ?_ | refine z_blk ?_ | refine w_skip ?_)
    refine w_no rfl (bne_eq_false_iff_eq.2 (by omega)) ?_
    repeat (first | refine w_seq ?_ | refine w_blk ?_ | refine z_seq ?_ | refine z_blk ?_ | refine w_skip ?_)
    refine w_reg 3 rfl rfl (j' := 9) ?_
    refine n_op .no (q := 6) rfl (s_mv rfl ?_)
    refine n_op .no (q := 7) rfl (s_len rfl rfl un_40 rfl ?_)
    refine n_op .no (q := 8) rfl (s_mv rfl ?_)
    refine n_nil ?_
    repeat (first | refine w_seq ?_ | refine w_blk ?_ | refine z_seq ?_ | refine z_blk ?_ | refine w_skip ?_)
    refine w_loop (β := Nat) (fun i => [(1, .slice a2 xs.length c2), (2, .func (.func 87) #[] #[]), (15, .slice a1 ws.length c1), (16, .int .i64 ws.length), (17, .int .i64 i)])
      (fun i g' n' => i ≤ ws.length ∧ n ≤ n' ∧ K0 g n g' ∧ ws.take i = xs.take i) (fun i => ws.length - i) 0 ⟨rfl, rfl, rfl, rfl, rfl, trivial⟩ ⟨by omega, by omega, (by repeat (first | exact Kp.refl _ _ _ | refine Kp.new ?_ (by omega) _)), rfl⟩ ?_
    rintro i f g1 n1 hw1 ⟨hi, hn1, k1, ht⟩
    repeat (first | refine w_seq ?_ | refine w_blk ?_ | refine z_seq ?_ | refine z_blk ?_ | refine w_skip ?_)
    refine w_reg 1 rfl rfl (j' := 1) ?_
    refine n_op .no (q := 0) rfl (s_bin rfl rfl rfl ?_)
    refine n_nil ?_
    repeat (first | refine w_seq ?_ | refine w_blk ?_ | refine z_seq ?_ | refine z_blk ?_ | refine w_skip ?_)
    refine w_if rfl (fun hb => ?_) (fun hb => ?_)
    · have hi : i < ws.length := by simpa using hb
      have hi2 : i < xs.length := by omega
      obtain ⟨l3, o3, c3, cl3, ro3, p3, q3, x1, x2, x0, x5, x6⟩ := (h1.kp0 k1 hw).at hi
      cases x1
      obtain ⟨l4, o4, c4, cl4, ro4, p4, q4, y1, y2, y0, y5, y6⟩ := (h2.kp0 k1 hw).at hi2
      cases y1
      have hx2 := hw1 _ _ x2
      have hy2 := hw1 _ _ y2
      repeat (first | refine w_seq ?_ | refine w_blk ?_ | refine z_seq ?_ | refine z_blk ?_ | refine w_skip ?_)
      refine w_reg 6 rfl rfl (j' := 7) ?_
      refine n_op .no (q := 1) rfl (s_mv rfl ?_)
      refine n_op .no (q := 2) rfl (s_ia rfl rfl el_40 (by first | assumption | omega) ?_)
      refine n_op .no (q := 3) rfl (s_lda rfl (by repeat (first | exact gs_same _ _ _ | exact x2 | exact x5 | refine (gs_ne (by omega) _).trans ?_)) ag_39 sz_39 (by first | exact Nat.le_of_ble_eq_true rfl | assumption | omega) (by first | exact x2 | exact x5 | exact rfl) ?_)
      refine n_op .no (q := 4) rfl (s_al zl_39 ?_)
      refine n_op .no (q := 5) rfl (s_as rfl ?_)
      refine n_op .no (q := 6) rfl (s_stw rfl rfl sz_39 rfl (by repeat (first | exact gs_same _ _ _ | exact x2 | exact x5 | refine (gs_ne (by omega) _).trans ?_)) (by exact rfl) rfl ?_)
      refine n_nil ?_
      repeat (first | refine w_seq ?_ | refine w_blk ?_ | refine z_seq ?_ | refine z_blk ?_ | refine w_skip ?_)
      refine w_reg 6 rfl rfl (j' := 13) ?_
      refine n_op .no (q := 7) rfl (s_mv rfl ?_)
      refine n_op .no (q := 8) rfl (s_mv rfl ?_)
      refine n_op .no (q := 9) rfl (s_ia rfl rfl el_40 (by first | assumption | omega) ?_)
      refine n_op .no (q := 10) rfl (s_lda rfl (by repeat (first | exact gs_same _ _ _ | exact y2 | exact y5 | refine (gs_ne (by omega) _).trans ?_)) ag_39 sz_39 (by first | exact Nat.le_of_ble_eq_true rfl | assumption | omega) (by first | exact y2 | exact y5 | exact rfl) ?_)
      refine n_op .no (q := 11) rfl (s_al zl_39 ?_)
      refine n_op .no (q := 12) rfl (s_stw rfl rfl sz_39 rfl (by repeat (first | exact gs_same _ _ _ | exact y2 | exact y5 | refine (gs_ne (by omega) _).trans ?_)) (by exact rfl) rfl ?_)
      refine n_nil ?_
      repeat (first | refine w_seq ?_ | refine w_blk ?_ | refine z_seq ?_ | refine z_blk ?_ | refine w_skip ?_)
      refine w_reg 5 rfl rfl (j' := 18) ?_
      refine n_op .no (q := 13) rfl (s_mv rfl ?_)
      refine n_op .no (q := 14) rfl (s_ldf rfl (by repeat (first | exact gs_same _ _ _ | refine (gs_ne (by omega) _).trans ?_)) ag_39 sz_39 (by exact rfl) ?_)
      refine n_op .no (q := 15) rfl (s_ldf rfl (by repeat (first | exact gs_same _ _ _ | refine (gs_ne (by omega) _).trans ?_)) ag_39 sz_39 (by exact rfl) ?_)
      refine n_callv .no rfl rfl rfl rfl rfl rfl ?_
      refine C.use (wrEq_c (BytesAt.kp0 x6 (by repeat (first | exact Kp.refl _ _ _ | refine Kp.new ?_ (by omega) _)) hw1) (BytesAt.kp0 y6 (by repeat (first | exact Kp.refl _ _ _ | refine Kp.new ?_ (by omega) _)) hw1)) fun v g2 n2 hw2 hn2 hq => ?_
      obtain ⟨⟨r, rfl, hr⟩, k2⟩ := hq
      have k3 : K0 g n g2 := k1.trans0 (n' := n1) (Kp.trans0 (by repeat (first | exact Kp.refl _ _ _ | refine Kp.new ?_ (by omega) _)) k2 (by omega)) (by omega)
      refine n_op .no (q := 17) rfl (s_not rfl ?_)
      refine n_nil ?_
      by_cases he : ws[i] = xs[i]
      · repeat (first | refine w_seq ?_ | refine w_blk ?_ | refine z_seq ?_ | refine z_blk ?_ | refine w_skip ?_)
        refine w_no rfl (by simp [hr.2 he]) ?_
        repeat (first | refine w_seq ?_ | refine w_blk ?_ | refine z_seq ?_ | refine z_blk ?_ | refine w_skip ?_)
        repeat (first | refine w_seq ?_ | refine w_blk ?_ | refine z_seq ?_ | refine z_blk ?_ | refine w_skip ?_)
        refine w_reg 2 rfl rfl (j' := 2) ?_
        first | refine n_op .no (q := 0) rfl (s_bin rfl rfl (bi_inc (by omega)) ?_) | refine n_op .no (q := 0) rfl (s_bin rfl rfl (bi_add rfl (by omega) (by omega)) ?_)
        refine n_op .no (q := 1) rfl (s_mv rfl ?_)
        refine n_nil ?_
        exact z_round (i + 1) ⟨rfl, rfl, rfl, rfl, rfl, trivial⟩ ⟨hi, by omega, k3, by rw [List.take_succ_eq_append_getElem hi, List.take_succ_eq_append_getElem hi2, ht, he]⟩ (by omega)
      · have hrf : r = false := by
          cases r with
          | false => rfl
          | true => exact absurd (hr.1 rfl) he
        repeat (first | refine w_seq ?_ | refine w_blk ?_ | refine z_seq ?_ | refine z_blk ?_ | refine w_skip ?_)
        refine w_yes rfl (by simp [hrf]) ?_
        repeat (first | refine w_seq ?_ | refine w_blk ?_ | refine z_seq ?_ | refine z_blk ?_ | refine w_skip ?_)
        refine w_reg 1 rfl rfl (j' := 1) ?_
        refine n_op .no (q := 0) rfl (s_as rfl ?_)
        refine n_nil ?_
        repeat (first | refine w_ret ?_ | refine w_seq ?_ | refine w_blk ?_ | refine z_seq ?_ | refine z_blk ?_ | refine w_skip ?_)
        refine z_r1 rfl rfl ?_
        exact ⟨⟨_, rfl, ⟨fun h => (by cases h), fun h => absurd (by simp only [h]) he⟩⟩, k3⟩
    · refine w_exit rfl ?_
      repeat (first | refine w_seq ?_ | refine w_blk ?_ | refine z_seq ?_ | refine z_blk ?_ | refine w_skip ?_)
      refine w_reg 1 rfl rfl (j' := 2) ?_
      refine n_op .no (q := 1) rfl (s_as rfl ?_)
      refine n_nil ?_
      repeat (first | refine w_ret ?_ | refine w_seq ?_ | refine w_blk ?_ | refine z_seq ?_ | refine z_blk ?_ | refine w_skip ?_)
      refine z_r1 rfl rfl ?_
      have : i = ws.length := by simp at hb; omega
      subst this
      rw [List.take_length, hl, List.take_length] at ht
      exact ⟨⟨_, rfl, ⟨fun _ => ht, fun _ => rfl⟩⟩, k1⟩
  · repeat (first | refine w_seq ?_ | refine w_blk ?_ | refine z_seq ?_ | refine z_blk ?_ | refine w_skip ?_)
    refine w_yes rfl (bne_iff_ne.2 (by omega)) ?_
    repeat (first | refine w_seq ?_ | refine w_blk ?_ | refine z_seq ?_ | refine z_blk ?_ | refine w_skip ?_)
    refine w_reg 1 rfl rfl (j' := 7) ?_
    refine n_op .no (q := 6) rfl (s_as rfl ?_)
    refine n_nil ?_
    repeat (first | refine w_ret ?_ | refine w_seq ?_ | refine w_blk ?_ | refine z_seq ?_ | refine z_blk ?_ | refine w_skip ?_)
    refine z_r1 rfl rfl ?_
    exact ⟨⟨_, rfl, ⟨fun h => (by cases h), fun h => absurd (by rw [h]) hl⟩⟩, (by repeat (first | exact Kp.refl _ _ _ | refine Kp.new ?_ (by omega) _))⟩

end

theorem strn_t {a b : List UInt8} (h : a ≠ b) : (!((str a).toList == (str b).toList)) = true := by rw [str_eq]; simpa using h
theorem strn_f {a b : List UInt8} (h : a = b) : (!((str a).toList == (str b).toList)) = false := by rw [str_eq]; simpa using h

theorem callEq_c {g : Gm} {n : Nat} {x y : Cal} {gv wv gw ww : Value} (h1 : CalAt g x gv wv) (h2 : CalAt g y gw ww) (hn : x.gs.length < 2 ^ 40 ∧ x.ws.length < 2 ^ 40) :
    C 46 #[.agg (calC x gv wv).toArray, .agg (calC y gw ww).toArray] g n fun u g' n' => (∃ r, u = .bool r ∧ (r = true ↔ x = y)) ∧ K0 g n g' := by
  refine c_in2 Tryz.func46 rfl Tryz.ntmps46 rfl fun hw => ?_
  repeat (first | refine w_seq ?_ | refine w_blk ?_ | refine z_seq ?_ | refine z_blk ?_ | refine w_skip ?_)
  refine w_reg 3 rfl rfl (j' := 3) ?_
  refine n_op .no (q := 0) rfl (s_boxa rfl ?_)
  refine n_op .no (q := 1) rfl (s_boxa rfl ?_)
  refine n_op .no (q := 2) rfl (s_as rfl ?_)
  refine n_nil ?_
  by_cases a1 : x.from_ = y.from_
  rotate_left
  · repeat (first | refine w_seq ?_ | refine w_blk ?_ | refine z_seq ?_ | refine z_blk ?_ | refine w_skip ?_)
    refine w_reg 43 rfl rfl (j' := 46) ?_
    first | refine n_op .no (q := 3) rfl (s_fa0 rfl fo_55_0 ?_) | refine n_op .no (q := 3) rfl (s_fa rfl fo_55_0 ?_)
    refine n_op .no (q := 4) rfl (s_ld rfl (by repeat (first | exact gs_same _ _ _ | refine (gs_ne (by omega) _).trans ?_)) ag_3 (by first | exact rfl) ?_)
    first | refine n_op .no (q := 5) rfl (s_fa0 rfl fo_55_0 ?_) | refine n_op .no (q := 5) rfl (s_fa rfl fo_55_0 ?_)
    refine n_op .no (q := 6) rfl (s_ld rfl (by repeat (first | exact gs_same _ _ _ | refine (gs_ne (by omega) _).trans ?_)) ag_3 (by first | exact rfl) ?_)
    refine n_op .no (q := 7) rfl (s_bin rfl rfl rfl ?_)
    refine n_op .no (q := 8) rfl (s_mv rfl ?_)
    refine n_sk rfl rfl (bne_iff_ne.2 a1) ?_
    refine n_sk rfl rfl (bne_iff_ne.2 a1) ?_
    refine n_sk rfl rfl (bne_iff_ne.2 a1) ?_
    refine n_sk rfl rfl (bne_iff_ne.2 a1) ?_
    refine n_sk rfl rfl (bne_iff_ne.2 a1) ?_
    refine n_op .no (q := 14) rfl (s_pt rfl (bne_iff_ne.2 a1) rfl ?_)
    refine n_op .no (q := 15) rfl (s_mv rfl ?_)
    refine n_sk rfl rfl (rfl) ?_
    refine n_sk rfl rfl (rfl) ?_
    refine n_sk rfl rfl (rfl) ?_
    refine n_sk rfl rfl (rfl) ?_
    refine n_sk rfl rfl (rfl) ?_
    refine n_op .no (q := 21) rfl (s_pt rfl (rfl) rfl ?_)
    refine n_op .no (q := 22) rfl (s_mv rfl ?_)
    refine n_sk rfl rfl (rfl) ?_
    refine n_sk rfl rfl (rfl) ?_
    refine n_sk rfl rfl (rfl) ?_
    refine n_sk rfl rfl (rfl) ?_
    refine n_sk rfl rfl (rfl) ?_
    refine n_op .no (q := 28) rfl (s_pt rfl (rfl) rfl ?_)
    refine n_op .no (q := 29) rfl (s_mv rfl ?_)
    refine n_sk rfl rfl (rfl) ?_
    refine n_sk rfl rfl (rfl) ?_
    refine n_sk rfl rfl (rfl) ?_
    refine n_sk rfl rfl (rfl) ?_
    refine n_sk rfl rfl (rfl) ?_
    refine n_op .no (q := 35) rfl (s_pt rfl (rfl) rfl ?_)
    refine n_op .no (q := 36) rfl (s_mv rfl ?_)
    refine n_sk rfl rfl (rfl) ?_
    refine n_sk rfl rfl (rfl) ?_
    refine n_sk rfl rfl (rfl) ?_
    refine n_sk rfl rfl (rfl) ?_
    refine n_sk rfl rfl (rfl) ?_
    refine n_sk rfl rfl (rfl) ?_
    refine n_sk rfl rfl (rfl) ?_
    refine n_sk rfl rfl (rfl) ?_
    refine n_op .no (q := 45) rfl (s_pt rfl (rfl) rfl ?_)
    refine n_nil ?_
    repeat (first | refine w_seq ?_ | refine w_blk ?_ | refine z_seq ?_ | refine z_blk ?_ | refine w_skip ?_)
    refine w_yes rfl (rfl) ?_
    repeat (first | refine w_seq ?_ | refine w_blk ?_ | refine z_seq ?_ | refine z_blk ?_ | refine w_skip ?_)
    refine w_reg 1 rfl rfl (j' := 47) ?_
    refine n_op .no (q := 46) rfl (s_as rfl ?_)
    refine n_nil ?_
    repeat (first | refine w_ret ?_ | refine w_seq ?_ | refine w_blk ?_ | refine z_seq ?_ | refine z_blk ?_ | refine w_skip ?_)
    refine z_r1 rfl rfl ?_
    exact ⟨⟨_, rfl, ⟨fun h => (by cases h), fun h => absurd (by rw [h]) a1⟩⟩, (by repeat (first | exact Kp.refl _ _ _ | refine Kp.new ?_ (by omega) _))⟩
  by_cases a2 : x.id = y.id
  rotate_left
  · repeat (first | refine w_seq ?_ | refine w_blk ?_ | refine z_seq ?_ | refine z_blk ?_ | refine w_skip ?_)
    refine w_reg 43 rfl rfl (j' := 46) ?_
    first | refine n_op .no (q := 3) rfl (s_fa0 rfl fo_55_0 ?_) | refine n_op .no (q := 3) rfl (s_fa rfl fo_55_0 ?_)
    refine n_op .no (q := 4) rfl (s_ld rfl (by repeat (first | exact gs_same _ _ _ | refine (gs_ne (by omega) _).trans ?_)) ag_3 (by first | exact rfl) ?_)
    first | refine n_op .no (q := 5) rfl (s_fa0 rfl fo_55_0 ?_) | refine n_op .no (q := 5) rfl (s_fa rfl fo_55_0 ?_)
    refine n_op .no (q := 6) rfl (s_ld rfl (by repeat (first | exact gs_same _ _ _ | refine (gs_ne (by omega) _).trans ?_)) ag_3 (by first | exact rfl) ?_)
    refine n_op .no (q := 7) rfl (s_bin rfl rfl rfl ?_)
    refine n_op .no (q := 8) rfl (s_mv rfl ?_)
    first | refine n_op (.yes rfl rfl (bne_eq_false_iff_eq.2 a1)) (q := 9) rfl (s_fa0 rfl fo_55_1 ?_) | refine n_op (.yes rfl rfl (bne_eq_false_iff_eq.2 a1)) (q := 9) rfl (s_fa rfl fo_55_1 ?_)
    refine n_op (.yes rfl rfl (bne_eq_false_iff_eq.2 a1)) (q := 10) rfl (s_ld rfl (by repeat (first | exact gs_same _ _ _ | refine (gs_ne (by omega) _).trans ?_)) ag_2 (by first | exact rfl) ?_)
    first | refine n_op (.yes rfl rfl (bne_eq_false_iff_eq.2 a1)) (q := 11) rfl (s_fa0 rfl fo_55_1 ?_) | refine n_op (.yes rfl rfl (bne_eq_false_iff_eq.2 a1)) (q := 11) rfl (s_fa rfl fo_55_1 ?_)
    refine n_op (.yes rfl rfl (bne_eq_false_iff_eq.2 a1)) (q := 12) rfl (s_ld rfl (by repeat (first | exact gs_same _ _ _ | refine (gs_ne (by omega) _).trans ?_)) ag_2 (by first | exact rfl) ?_)
    refine n_op (.yes rfl rfl (bne_eq_false_iff_eq.2 a1)) (q := 13) rfl (s_bin rfl rfl rfl ?_)
    refine n_op .no (q := 14) rfl (s_pf rfl (bne_eq_false_iff_eq.2 a1) rfl ?_)
    refine n_op .no (q := 15) rfl (s_mv rfl ?_)
    refine n_sk rfl rfl (bne_iff_ne.2 a2) ?_
    refine n_sk rfl rfl (bne_iff_ne.2 a2) ?_
    refine n_sk rfl rfl (bne_iff_ne.2 a2) ?_
    refine n_sk rfl rfl (bne_iff_ne.2 a2) ?_
    refine n_sk rfl rfl (bne_iff_ne.2 a2) ?_
    refine n_op .no (q := 21) rfl (s_pt rfl (bne_iff_ne.2 a2) rfl ?_)
    refine n_op .no (q := 22) rfl (s_mv rfl ?_)
    refine n_sk rfl rfl (rfl) ?_
    refine n_sk rfl rfl (rfl) ?_
    refine n_sk rfl rfl (rfl) ?_
    refine n_sk rfl rfl (rfl) ?_
    refine n_sk rfl rfl (rfl) ?_
    refine n_op .no (q := 28) rfl (s_pt rfl (rfl) rfl ?_)
    refine n_op .no (q := 29) rfl (s_mv rfl ?_)
    refine n_sk rfl rfl (rfl) ?_
    refine n_sk rfl rfl (rfl) ?_
    refine n_sk rfl rfl (rfl) ?_
    refine n_sk rfl rfl (rfl) ?_
    refine n_sk rfl rfl (rfl) ?_
    refine n_op .no (q := 35) rfl (s_pt rfl (rfl) rfl ?_)
    refine n_op .no (q := 36) rfl (s_mv rfl ?_)
    refine n_sk rfl rfl (rfl) ?_
    refine n_sk rfl rfl (rfl) ?_
    refine n_sk rfl rfl (rfl) ?_
    refine n_sk rfl rfl (rfl) ?_
    refine n_sk rfl rfl (rfl) ?_
    refine n_sk rfl rfl (rfl) ?_
    refine n_sk rfl rfl (rfl) ?_
    refine n_sk rfl rfl (rfl) ?_
    refine n_op .no (q := 45) rfl (s_pt rfl (rfl) rfl ?_)
    refine n_nil ?_
    repeat (first | refine w_seq ?_ | refine w_blk ?_ | refine z_seq ?_ | refine z_blk ?_ | refine w_skip ?_)
    refine w_yes rfl (rfl) ?_
    repeat (first | refine w_seq ?_ | refine w_blk ?_ | refine z_seq ?_ | refine z_blk ?_ | refine w_skip ?_)
    refine w_reg 1 rfl rfl (j' := 47) ?_
    refine n_op .no (q := 46) rfl (s_as rfl ?_)
    refine n_nil ?_
    repeat (first | refine w_ret ?_ | refine w_seq ?_ | refine w_blk ?_ | refine z_seq ?_ | refine z_blk ?_ | refine w_skip ?_)
    refine z_r1 rfl rfl ?_
    exact ⟨⟨_, rfl, ⟨fun h => (by cases h), fun h => absurd (by rw [h]) a2⟩⟩, (by repeat (first | exact Kp.refl _ _ _ | refine Kp.new ?_ (by omega) _))⟩
  by_cases a3 : x.kind = y.kind
  rotate_left
  · repeat (first | refine w_seq ?_ | refine w_blk ?_ | refine z_seq ?_ | refine z_blk ?_ | refine w_skip ?_)
    refine w_reg 43 rfl rfl (j' := 46) ?_
    first | refine n_op .no (q := 3) rfl (s_fa0 rfl fo_55_0 ?_) | refine n_op .no (q := 3) rfl (s_fa rfl fo_55_0 ?_)
    refine n_op .no (q := 4) rfl (s_ld rfl (by repeat (first | exact gs_same _ _ _ | refine (gs_ne (by omega) _).trans ?_)) ag_3 (by first | exact rfl) ?_)
    first | refine n_op .no (q := 5) rfl (s_fa0 rfl fo_55_0 ?_) | refine n_op .no (q := 5) rfl (s_fa rfl fo_55_0 ?_)
    refine n_op .no (q := 6) rfl (s_ld rfl (by repeat (first | exact gs_same _ _ _ | refine (gs_ne (by omega) _).trans ?_)) ag_3 (by first | exact rfl) ?_)
    refine n_op .no (q := 7) rfl (s_bin rfl rfl rfl ?_)
    refine n_op .no (q := 8) rfl (s_mv rfl ?_)
    first | refine n_op (.yes rfl rfl (bne_eq_false_iff_eq.2 a1)) (q := 9) rfl (s_fa0 rfl fo_55_1 ?_) | refine n_op (.yes rfl rfl (bne_eq_false_iff_eq.2 a1)) (q := 9) rfl (s_fa rfl fo_55_1 ?_)
    refine n_op (.yes rfl rfl (bne_eq_false_iff_eq.2 a1)) (q := 10) rfl (s_ld rfl (by repeat (first | exact gs_same _ _ _ | refine (gs_ne (by omega) _).trans ?_)) ag_2 (by first | exact rfl) ?_)
    first | refine n_op (.yes rfl rfl (bne_eq_false_iff_eq.2 a1)) (q := 11) rfl (s_fa0 rfl fo_55_1 ?_) | refine n_op (.yes rfl rfl (bne_eq_false_iff_eq.2 a1)) (q := 11) rfl (s_fa rfl fo_55_1 ?_)
    refine n_op (.yes rfl rfl (bne_eq_false_iff_eq.2 a1)) (q := 12) rfl (s_ld rfl (by repeat (first | exact gs_same _ _ _ | refine (gs_ne (by omega) _).trans ?_)) ag_2 (by first | exact rfl) ?_)
    refine n_op (.yes rfl rfl (bne_eq_false_iff_eq.2 a1)) (q := 13) rfl (s_bin rfl rfl rfl ?_)
    refine n_op .no (q := 14) rfl (s_pf rfl (bne_eq_false_iff_eq.2 a1) rfl ?_)
    refine n_op .no (q := 15) rfl (s_mv rfl ?_)
    first | refine n_op (.yes rfl rfl (bne_eq_false_iff_eq.2 a2)) (q := 16) rfl (s_fa0 rfl fo_55_2 ?_) | refine n_op (.yes rfl rfl (bne_eq_false_iff_eq.2 a2)) (q := 16) rfl (s_fa rfl fo_55_2 ?_)
    refine n_op (.yes rfl rfl (bne_eq_false_iff_eq.2 a2)) (q := 17) rfl (s_ld rfl (by repeat (first | exact gs_same _ _ _ | refine (gs_ne (by omega) _).trans ?_)) ag_3 (by first | exact rfl) ?_)
    first | refine n_op (.yes rfl rfl (bne_eq_false_iff_eq.2 a2)) (q := 18) rfl (s_fa0 rfl fo_55_2 ?_) | refine n_op (.yes rfl rfl (bne_eq_false_iff_eq.2 a2)) (q := 18) rfl (s_fa rfl fo_55_2 ?_)
    refine n_op (.yes rfl rfl (bne_eq_false_iff_eq.2 a2)) (q := 19) rfl (s_ld rfl (by repeat (first | exact gs_same _ _ _ | refine (gs_ne (by omega) _).trans ?_)) ag_3 (by first | exact rfl) ?_)
    refine n_op (.yes rfl rfl (bne_eq_false_iff_eq.2 a2)) (q := 20) rfl (s_bin rfl rfl rfl ?_)
    refine n_op .no (q := 21) rfl (s_pf rfl (bne_eq_false_iff_eq.2 a2) rfl ?_)
    refine n_op .no (q := 22) rfl (s_mv rfl ?_)
    refine n_sk rfl rfl (bne_iff_ne.2 a3) ?_
    refine n_sk rfl rfl (bne_iff_ne.2 a3) ?_
    refine n_sk rfl rfl (bne_iff_ne.2 a3) ?_
    refine n_sk rfl rfl (bne_iff_ne.2 a3) ?_
    refine n_sk rfl rfl (bne_iff_ne.2 a3) ?_
    refine n_op .no (q := 28) rfl (s_pt rfl (bne_iff_ne.2 a3) rfl ?_)
    refine n_op .no (q := 29) rfl (s_mv rfl ?_)
    refine n_sk rfl rfl (rfl) ?_
    refine n_sk rfl rfl (rfl) ?_
    refine n_sk rfl rfl (rfl) ?_
    refine n_sk rfl rfl (rfl) ?_
    refine n_sk rfl rfl (rfl) ?_
    refine n_op .no (q := 35) rfl (s_pt rfl (rfl) rfl ?_)
    refine n_op .no (q := 36) rfl (s_mv rfl ?_)
    refine n_sk rfl rfl (rfl) ?_
    refine n_sk rfl rfl (rfl) ?_
    refine n_sk rfl rfl (rfl) ?_
    refine n_sk rfl rfl (rfl) ?_
    refine n_sk rfl rfl (rfl) ?_
    refine n_sk rfl rfl (rfl) ?_
    refine n_sk rfl rfl (rfl) ?_
    refine n_sk rfl rfl (rfl) ?_
    refine n_op .no (q := 45) rfl (s_pt rfl (rfl) rfl ?_)
    refine n_nil ?_
    repeat (first | refine w_seq ?_ | refine w_blk ?_ | refine z_seq ?_ | refine z_blk ?_ | refine w_skip ?_)
    refine w_yes rfl (rfl) ?_
    repeat (first | refine w_seq ?_ | refine w_blk ?_ | refine z_seq ?_ | refine z_blk ?_ | refine w_skip ?_)
    refine w_reg 1 rfl rfl (j' := 47) ?_
    refine n_op .no (q := 46) rfl (s_as rfl ?_)
    refine n_nil ?_
    repeat (first | refine w_ret ?_ | refine w_seq ?_ | refine w_blk ?_ | refine z_seq ?_ | refine z_blk ?_ | refine w_skip ?_)
    refine z_r1 rfl rfl ?_
    exact ⟨⟨_, rfl, ⟨fun h => (by cases h), fun h => absurd (by rw [h]) a3⟩⟩, (by repeat (first | exact Kp.refl _ _ _ | refine Kp.new ?_ (by omega) _))⟩
  by_cases a4 : x.key = y.key
  rotate_left
  · repeat (first | refine w_seq ?_ | refine w_blk ?_ | refine z_seq ?_ | refine z_blk ?_ | refine w_skip ?_)
    refine w_reg 43 rfl rfl (j' := 46) ?_
    first | refine n_op .no (q := 3) rfl (s_fa0 rfl fo_55_0 ?_) | refine n_op .no (q := 3) rfl (s_fa rfl fo_55_0 ?_)
    refine n_op .no (q := 4) rfl (s_ld rfl (by repeat (first | exact gs_same _ _ _ | refine (gs_ne (by omega) _).trans ?_)) ag_3 (by first | exact rfl) ?_)
    first | refine n_op .no (q := 5) rfl (s_fa0 rfl fo_55_0 ?_) | refine n_op .no (q := 5) rfl (s_fa rfl fo_55_0 ?_)
    refine n_op .no (q := 6) rfl (s_ld rfl (by repeat (first | exact gs_same _ _ _ | refine (gs_ne (by omega) _).trans ?_)) ag_3 (by first | exact rfl) ?_)
    refine n_op .no (q := 7) rfl (s_bin rfl rfl rfl ?_)
    refine n_op .no (q := 8) rfl (s_mv rfl ?_)
    first | refine n_op (.yes rfl rfl (bne_eq_false_iff_eq.2 a1)) (q := 9) rfl (s_fa0 rfl fo_55_1 ?_) | refine n_op (.yes rfl rfl (bne_eq_false_iff_eq.2 a1)) (q := 9) rfl (s_fa rfl fo_55_1 ?_)
    refine n_op (.yes rfl rfl (bne_eq_false_iff_eq.2 a1)) (q := 10) rfl (s_ld rfl (by repeat (first | exact gs_same _ _ _ | refine (gs_ne (by omega) _).trans ?_)) ag_2 (by first | exact rfl) ?_)
    first | refine n_op (.yes rfl rfl (bne_eq_false_iff_eq.2 a1)) (q := 11) rfl (s_fa0 rfl fo_55_1 ?_) | refine n_op (.yes rfl rfl (bne_eq_false_iff_eq.2 a1)) (q := 11) rfl (s_fa rfl fo_55_1 ?_)
    refine n_op (.yes rfl rfl (bne_eq_false_iff_eq.2 a1)) (q := 12) rfl (s_ld rfl (by repeat (first | exact gs_same _ _ _ | refine (gs_ne (by omega) _).trans ?_)) ag_2 (by first | exact rfl) ?_)
    refine n_op (.yes rfl rfl (bne_eq_false_iff_eq.2 a1)) (q := 13) rfl (s_bin rfl rfl rfl ?_)
    refine n_op .no (q := 14) rfl (s_pf rfl (bne_eq_false_iff_eq.2 a1) rfl ?_)
    refine n_op .no (q := 15) rfl (s_mv rfl ?_)
    first | refine n_op (.yes rfl rfl (bne_eq_false_iff_eq.2 a2)) (q := 16) rfl (s_fa0 rfl fo_55_2 ?_) | refine n_op (.yes rfl rfl (bne_eq_false_iff_eq.2 a2)) (q := 16) rfl (s_fa rfl fo_55_2 ?_)
    refine n_op (.yes rfl rfl (bne_eq_false_iff_eq.2 a2)) (q := 17) rfl (s_ld rfl (by repeat (first | exact gs_same _ _ _ | refine (gs_ne (by omega) _).trans ?_)) ag_3 (by first | exact rfl) ?_)
    first | refine n_op (.yes rfl rfl (bne_eq_false_iff_eq.2 a2)) (q := 18) rfl (s_fa0 rfl fo_55_2 ?_) | refine n_op (.yes rfl rfl (bne_eq_false_iff_eq.2 a2)) (q := 18) rfl (s_fa rfl fo_55_2 ?_)
    refine n_op (.yes rfl rfl (bne_eq_false_iff_eq.2 a2)) (q := 19) rfl (s_ld rfl (by repeat (first | exact gs_same _ _ _ | refine (gs_ne (by omega) _).trans ?_)) ag_3 (by first | exact rfl) ?_)
    refine n_op (.yes rfl rfl (bne_eq_false_iff_eq.2 a2)) (q := 20) rfl (s_bin rfl rfl rfl ?_)
    refine n_op .no (q := 21) rfl (s_pf rfl (bne_eq_false_iff_eq.2 a2) rfl ?_)
    refine n_op .no (q := 22) rfl (s_mv rfl ?_)
    first | refine n_op (.yes rfl rfl (bne_eq_false_iff_eq.2 a3)) (q := 23) rfl (s_fa0 rfl fo_55_3 ?_) | refine n_op (.yes rfl rfl (bne_eq_false_iff_eq.2 a3)) (q := 23) rfl (s_fa rfl fo_55_3 ?_)
    refine n_op (.yes rfl rfl (bne_eq_false_iff_eq.2 a3)) (q := 24) rfl (s_ld rfl (by repeat (first | exact gs_same _ _ _ | refine (gs_ne (by omega) _).trans ?_)) ag_9 (by first | exact rfl) ?_)
    first | refine n_op (.yes rfl rfl (bne_eq_false_iff_eq.2 a3)) (q := 25) rfl (s_fa0 rfl fo_55_3 ?_) | refine n_op (.yes rfl rfl (bne_eq_false_iff_eq.2 a3)) (q := 25) rfl (s_fa rfl fo_55_3 ?_)
    refine n_op (.yes rfl rfl (bne_eq_false_iff_eq.2 a3)) (q := 26) rfl (s_ld rfl (by repeat (first | exact gs_same _ _ _ | refine (gs_ne (by omega) _).trans ?_)) ag_9 (by first | exact rfl) ?_)
    refine n_op (.yes rfl rfl (bne_eq_false_iff_eq.2 a3)) (q := 27) rfl (s_bin rfl rfl rfl ?_)
    refine n_op .no (q := 28) rfl (s_pf rfl (bne_eq_false_iff_eq.2 a3) rfl ?_)
    refine n_op .no (q := 29) rfl (s_mv rfl ?_)
    refine n_sk rfl rfl (strn_t a4) ?_
    refine n_sk rfl rfl (strn_t a4) ?_
    refine n_sk rfl rfl (strn_t a4) ?_
    refine n_sk rfl rfl (strn_t a4) ?_
    refine n_sk rfl rfl (strn_t a4) ?_
    refine n_op .no (q := 35) rfl (s_pt rfl (strn_t a4) rfl ?_)
    refine n_op .no (q := 36) rfl (s_mv rfl ?_)
    refine n_sk rfl rfl (rfl) ?_
    refine n_sk rfl rfl (rfl) ?_
    refine n_sk rfl rfl (rfl) ?_
    refine n_sk rfl rfl (rfl) ?_
    refine n_sk rfl rfl (rfl) ?_
    refine n_sk rfl rfl (rfl) ?_
    refine n_sk rfl rfl (rfl) ?_
    refine n_sk rfl rfl (rfl) ?_
    refine n_op .no (q := 45) rfl (s_pt rfl (rfl) rfl ?_)
    refine n_nil ?_
    repeat (first | refine w_seq ?_ | refine w_blk ?_ | refine z_seq ?_ | refine z_blk ?_ | refine w_skip ?_)
    refine w_yes rfl (rfl) ?_
    repeat (first | refine w_seq ?_ | refine w_blk ?_ | refine z_seq ?_ | refine z_blk ?_ | refine w_skip ?_)
    refine w_reg 1 rfl rfl (j' := 47) ?_
    refine n_op .no (q := 46) rfl (s_as rfl ?_)
    refine n_nil ?_
    repeat (first | refine w_ret ?_ | refine w_seq ?_ | refine w_blk ?_ | refine z_seq ?_ | refine z_blk ?_ | refine w_skip ?_)
    refine z_r1 rfl rfl ?_
    exact ⟨⟨_, rfl, ⟨fun h => (by cases h), fun h => absurd (by rw [h]) a4⟩⟩, (by repeat (first | exact Kp.refl _ _ _ | refine Kp.new ?_ (by omega) _))⟩
  by_cases a5 : x.rev = y.rev
  rotate_left
  · repeat (first | refine w_seq ?_ | refine w_blk ?_ | refine z_seq ?_ | refine z_blk ?_ | refine w_skip ?_)
    refine w_reg 43 rfl rfl (j' := 46) ?_
    first | refine n_op .no (q := 3) rfl (s_fa0 rfl fo_55_0 ?_) | refine n_op .no (q := 3) rfl (s_fa rfl fo_55_0 ?_)
    refine n_op .no (q := 4) rfl (s_ld rfl (by repeat (first | exact gs_same _ _ _ | refine (gs_ne (by omega) _).trans ?_)) ag_3 (by first | exact rfl) ?_)
    first | refine n_op .no (q := 5) rfl (s_fa0 rfl fo_55_0 ?_) | refine n_op .no (q := 5) rfl (s_fa rfl fo_55_0 ?_)
    refine n_op .no (q := 6) rfl (s_ld rfl (by repeat (first | exact gs_same _ _ _ | refine (gs_ne (by omega) _).trans ?_)) ag_3 (by first | exact rfl) ?_)
    refine n_op .no (q := 7) rfl (s_bin rfl rfl rfl ?_)
    refine n_op .no (q := 8) rfl (s_mv rfl ?_)
    first | refine n_op (.yes rfl rfl (bne_eq_false_iff_eq.2 a1)) (q := 9) rfl (s_fa0 rfl fo_55_1 ?_) | refine n_op (.yes rfl rfl (bne_eq_false_iff_eq.2 a1)) (q := 9) rfl (s_fa rfl fo_55_1 ?_)
    refine n_op (.yes rfl rfl (bne_eq_false_iff_eq.2 a1)) (q := 10) rfl (s_ld rfl (by repeat (first | exact gs_same _ _ _ | refine (gs_ne (by omega) _).trans ?_)) ag_2 (by first | exact rfl) ?_)
    first | refine n_op (.yes rfl rfl (bne_eq_false_iff_eq.2 a1)) (q := 11) rfl (s_fa0 rfl fo_55_1 ?_) | refine n_op (.yes rfl rfl (bne_eq_false_iff_eq.2 a1)) (q := 11) rfl (s_fa rfl fo_55_1 ?_)
    refine n_op (.yes rfl rfl (bne_eq_false_iff_eq.2 a1)) (q := 12) rfl (s_ld rfl (by repeat (first | exact gs_same _ _ _ | refine (gs_ne (by omega) _).trans ?_)) ag_2 (by first | exact rfl) ?_)
    refine n_op (.yes rfl rfl (bne_eq_false_iff_eq.2 a1)) (q := 13) rfl (s_bin rfl rfl rfl ?_)
    refine n_op .no (q := 14) rfl (s_pf rfl (bne_eq_false_iff_eq.2 a1) rfl ?_)
    refine n_op .no (q := 15) rfl (s_mv rfl ?_)
    first | refine n_op (.yes rfl rfl (bne_eq_false_iff_eq.2 a2)) (q := 16) rfl (s_fa0 rfl fo_55_2 ?_) | refine n_op (.yes rfl rfl (bne_eq_false_iff_eq.2 a2)) (q := 16) rfl (s_fa rfl fo_55_2 ?_)
    refine n_op (.yes rfl rfl (bne_eq_false_iff_eq.2 a2)) (q := 17) rfl (s_ld rfl (by repeat (first | exact gs_same _ _ _ | refine (gs_ne (by omega) _).trans ?_)) ag_3 (by first | exact rfl) ?_)
    first | refine n_op (.yes rfl rfl (bne_eq_false_iff_eq.2 a2)) (q := 18) rfl (s_fa0 rfl fo_55_2 ?_) | refine n_op (.yes rfl rfl (bne_eq_false_iff_eq.2 a2)) (q := 18) rfl (s_fa rfl fo_55_2 ?_)
    refine n_op (.yes rfl rfl (bne_eq_false_iff_eq.2 a2)) (q := 19) rfl (s_ld rfl (by repeat (first | exact gs_same _ _ _ | refine (gs_ne (by omega) _).trans ?_)) ag_3 (by first | exact rfl) ?_)
    refine n_op (.yes rfl rfl (bne_eq_false_iff_eq.2 a2)) (q := 20) rfl (s_bin rfl rfl rfl ?_)
    refine n_op .no (q := 21) rfl (s_pf rfl (bne_eq_false_iff_eq.2 a2) rfl ?_)
    refine n_op .no (q := 22) rfl (s_mv rfl ?_)
    first | refine n_op (.yes rfl rfl (bne_eq_false_iff_eq.2 a3)) (q := 23) rfl (s_fa0 rfl fo_55_3 ?_) | refine n_op (.yes rfl rfl (bne_eq_false_iff_eq.2 a3)) (q := 23) rfl (s_fa rfl fo_55_3 ?_)
    refine n_op (.yes rfl rfl (bne_eq_false_iff_eq.2 a3)) (q := 24) rfl (s_ld rfl (by repeat (first | exact gs_same _ _ _ | refine (gs_ne (by omega) _).trans ?_)) ag_9 (by first | exact rfl) ?_)
    first | refine n_op (.yes rfl rfl (bne_eq_false_iff_eq.2 a3)) (q := 25) rfl (s_fa0 rfl fo_55_3 ?_) | refine n_op (.yes rfl rfl (bne_eq_false_iff_eq.2 a3)) (q := 25) rfl (s_fa rfl fo_55_3 ?_)
    refine n_op (.yes rfl rfl (bne_eq_false_iff_eq.2 a3)) (q := 26) rfl (s_ld rfl (by repeat (first | exact gs_same _ _ _ | refine (gs_ne (by omega) _).trans ?_)) ag_9 (by first | exact rfl) ?_)
    refine n_op (.yes rfl rfl (bne_eq_false_iff_eq.2 a3)) (q := 27) rfl (s_bin rfl rfl rfl ?_)
    refine n_op .no (q := 28) rfl (s_pf rfl (bne_eq_false_iff_eq.2 a3) rfl ?_)
    refine n_op .no (q := 29) rfl (s_mv rfl ?_)
    first | refine n_op (.yes rfl rfl (strn_f a4)) (q := 30) rfl (s_fa0 rfl fo_55_4 ?_) | refine n_op (.yes rfl rfl (strn_f a4)) (q := 30) rfl (s_fa rfl fo_55_4 ?_)
    refine n_op (.yes rfl rfl (strn_f a4)) (q := 31) rfl (s_ld rfl (by repeat (first | exact gs_same _ _ _ | refine (gs_ne (by omega) _).trans ?_)) ag_2 (by first | exact rfl) ?_)
    first | refine n_op (.yes rfl rfl (strn_f a4)) (q := 32) rfl (s_fa0 rfl fo_55_4 ?_) | refine n_op (.yes rfl rfl (strn_f a4)) (q := 32) rfl (s_fa rfl fo_55_4 ?_)
    refine n_op (.yes rfl rfl (strn_f a4)) (q := 33) rfl (s_ld rfl (by repeat (first | exact gs_same _ _ _ | refine (gs_ne (by omega) _).trans ?_)) ag_2 (by first | exact rfl) ?_)
    refine n_op (.yes rfl rfl (strn_f a4)) (q := 34) rfl (s_bin rfl rfl rfl ?_)
    refine n_op .no (q := 35) rfl (s_pf rfl (strn_f a4) rfl ?_)
    refine n_op .no (q := 36) rfl (s_mv rfl ?_)
    refine n_sk rfl rfl (bne_iff_ne.2 a5) ?_
    refine n_sk rfl rfl (bne_iff_ne.2 a5) ?_
    refine n_sk rfl rfl (bne_iff_ne.2 a5) ?_
    refine n_sk rfl rfl (bne_iff_ne.2 a5) ?_
    refine n_sk rfl rfl (bne_iff_ne.2 a5) ?_
    refine n_sk rfl rfl (bne_iff_ne.2 a5) ?_
    refine n_sk rfl rfl (bne_iff_ne.2 a5) ?_
    refine n_sk rfl rfl (bne_iff_ne.2 a5) ?_
    refine n_op .no (q := 45) rfl (s_pt rfl (bne_iff_ne.2 a5) rfl ?_)
    refine n_nil ?_
    repeat (first | refine w_seq ?_ | refine w_blk ?_ | refine z_seq ?_ | refine z_blk ?_ | refine w_skip ?_)
    refine w_yes rfl (rfl) ?_
    repeat (first | refine w_seq ?_ | refine w_blk ?_ | refine z_seq ?_ | refine z_blk ?_ | refine w_skip ?_)
    refine w_reg 1 rfl rfl (j' := 47) ?_
    refine n_op .no (q := 46) rfl (s_as rfl ?_)
    refine n_nil ?_
    repeat (first | refine w_ret ?_ | refine w_seq ?_ | refine w_blk ?_ | refine z_seq ?_ | refine z_blk ?_ | refine w_skip ?_)
    refine z_r1 rfl rfl ?_
    exact ⟨⟨_, rfl, ⟨fun h => (by cases h), fun h => absurd (by rw [h]) a5⟩⟩, (by repeat (first | exact Kp.refl _ _ _ | refine Kp.new ?_ (by omega) _))⟩
  repeat (first | refine w_seq ?_ | refine w_blk ?_ | refine z_seq ?_ | refine z_blk ?_ | refine w_skip ?_)
  refine w_reg 43 rfl rfl (j' := 46) ?_
  first | refine n_op .no (q := 3) rfl (s_fa0 rfl fo_55_0 ?_) | refine n_op .no (q := 3) rfl (s_fa rfl fo_55_0 ?_)
  refine n_op .no (q := 4) rfl (s_ld rfl (by repeat (first | exact gs_same _ _ _ | refine (gs_ne (by omega) _).trans ?_)) ag_3 (by first | exact rfl) ?_)
  first | refine n_op .no (q := 5) rfl (s_fa0 rfl fo_55_0 ?_) | refine n_op .no (q := 5) rfl (s_fa rfl fo_55_0 ?_)
  refine n_op .no (q := 6) rfl (s_ld rfl (by repeat (first | exact gs_same _ _ _ | refine (gs_ne (by omega) _).trans ?_)) ag_3 (by first | exact rfl) ?_)
  refine n_op .no (q := 7) rfl (s_bin rfl rfl rfl ?_)
  refine n_op .no (q := 8) rfl (s_mv rfl ?_)
  first | refine n_op (.yes rfl rfl (bne_eq_false_iff_eq.2 a1)) (q := 9) rfl (s_fa0 rfl fo_55_1 ?_) | refine n_op (.yes rfl rfl (bne_eq_false_iff_eq.2 a1)) (q := 9) rfl (s_fa rfl fo_55_1 ?_)
  refine n_op (.yes rfl rfl (bne_eq_false_iff_eq.2 a1)) (q := 10) rfl (s_ld rfl (by repeat (first | exact gs_same _ _ _ | refine (gs_ne (by omega) _).trans ?_)) ag_2 (by first | exact rfl) ?_)
  first | refine n_op (.yes rfl rfl (bne_eq_false_iff_eq.2 a1)) (q := 11) rfl (s_fa0 rfl fo_55_1 ?_) | refine n_op (.yes rfl rfl (bne_eq_false_iff_eq.2 a1)) (q := 11) rfl (s_fa rfl fo_55_1 ?_)
  refine n_op (.yes rfl rfl (bne_eq_false_iff_eq.2 a1)) (q := 12) rfl (s_ld rfl (by repeat (first | exact gs_same _ _ _ | refine (gs_ne (by omega) _).trans ?_)) ag_2 (by first | exact rfl) ?_)
  refine n_op (.yes rfl rfl (bne_eq_false_iff_eq.2 a1)) (q := 13) rfl (s_bin rfl rfl rfl ?_)
  refine n_op .no (q := 14) rfl (s_pf rfl (bne_eq_false_iff_eq.2 a1) rfl ?_)
  refine n_op .no (q := 15) rfl (s_mv rfl ?_)
  first | refine n_op (.yes rfl rfl (bne_eq_false_iff_eq.2 a2)) (q := 16) rfl (s_fa0 rfl fo_55_2 ?_) | refine n_op (.yes rfl rfl (bne_eq_false_iff_eq.2 a2)) (q := 16) rfl (s_fa rfl fo_55_2 ?_)
  refine n_op (.yes rfl rfl (bne_eq_false_iff_eq.2 a2)) (q := 17) rfl (s_ld rfl (by repeat (first | exact gs_same _ _ _ | refine (gs_ne (by omega) _).trans ?_)) ag_3 (by first | exact rfl) ?_)
  first | refine n_op (.yes rfl rfl (bne_eq_false_iff_eq.2 a2)) (q := 18) rfl (s_fa0 rfl fo_55_2 ?_) | refine n_op (.yes rfl rfl (bne_eq_false_iff_eq.2 a2)) (q := 18) rfl (s_fa rfl fo_55_2 ?_)
  refine n_op (.yes rfl rfl (bne_eq_false_iff_eq.2 a2)) (q := 19) rfl (s_ld rfl (by repeat (first | exact gs_same _ _ _ | refine (gs_ne (by omega) _).trans ?_)) ag_3 (by first | exact rfl) ?_)
  refine n_op (.yes rfl rfl (bne_eq_false_iff_eq.2 a2)) (q := 20) rfl (s_bin rfl rfl rfl ?_)
  refine n_op .no (q := 21) rfl (s_pf rfl (bne_eq_false_iff_eq.2 a2) rfl ?_)
  refine n_op .no (q := 22) rfl (s_mv rfl ?_)
  first | refine n_op (.yes rfl rfl (bne_eq_false_iff_eq.2 a3)) (q := 23) rfl (s_fa0 rfl fo_55_3 ?_) | refine n_op (.yes rfl rfl (bne_eq_false_iff_eq.2 a3)) (q := 23) rfl (s_fa rfl fo_55_3 ?_)
  refine n_op (.yes rfl rfl (bne_eq_false_iff_eq.2 a3)) (q := 24) rfl (s_ld rfl (by repeat (first | exact gs_same _ _ _ | refine (gs_ne (by omega) _).trans ?_)) ag_9 (by first | exact rfl) ?_)
  first | refine n_op (.yes rfl rfl (bne_eq_false_iff_eq.2 a3)) (q := 25) rfl (s_fa0 rfl fo_55_3 ?_) | refine n_op (.yes rfl rfl (bne_eq_false_iff_eq.2 a3)) (q := 25) rfl (s_fa rfl fo_55_3 ?_)
  refine n_op (.yes rfl rfl (bne_eq_false_iff_eq.2 a3)) (q := 26) rfl (s_ld rfl (by repeat (first | exact gs_same _ _ _ | refine (gs_ne (by omega) _).trans ?_)) ag_9 (by first | exact rfl) ?_)
  refine n_op (.yes rfl rfl (bne_eq_false_iff_eq.2 a3)) (q := 27) rfl (s_bin rfl rfl rfl ?_)
  refine n_op .no (q := 28) rfl (s_pf rfl (bne_eq_false_iff_eq.2 a3) rfl ?_)
  refine n_op .no (q := 29) rfl (s_mv rfl ?_)
  first | refine n_op (.yes rfl rfl (strn_f a4)) (q := 30) rfl (s_fa0 rfl fo_55_4 ?_) | refine n_op (.yes rfl rfl (strn_f a4)) (q := 30) rfl (s_fa rfl fo_55_4 ?_)
  refine n_op (.yes rfl rfl (strn_f a4)) (q := 31) rfl (s_ld rfl (by repeat (first | exact gs_same _ _ _ | refine (gs_ne (by omega) _).trans ?_)) ag_2 (by first | exact rfl) ?_)
  first | refine n_op (.yes rfl rfl (strn_f a4)) (q := 32) rfl (s_fa0 rfl fo_55_4 ?_) | refine n_op (.yes rfl rfl (strn_f a4)) (q := 32) rfl (s_fa rfl fo_55_4 ?_)
  refine n_op (.yes rfl rfl (strn_f a4)) (q := 33) rfl (s_ld rfl (by repeat (first | exact gs_same _ _ _ | refine (gs_ne (by omega) _).trans ?_)) ag_2 (by first | exact rfl) ?_)
  refine n_op (.yes rfl rfl (strn_f a4)) (q := 34) rfl (s_bin rfl rfl rfl ?_)
  refine n_op .no (q := 35) rfl (s_pf rfl (strn_f a4) rfl ?_)
  refine n_op .no (q := 36) rfl (s_mv rfl ?_)
  first | refine n_op (.yes rfl rfl (bne_eq_false_iff_eq.2 a5)) (q := 37) rfl (s_fa0 rfl fo_55_5 ?_) | refine n_op (.yes rfl rfl (bne_eq_false_iff_eq.2 a5)) (q := 37) rfl (s_fa rfl fo_55_5 ?_)
  first | refine n_op (.yes rfl rfl (bne_eq_false_iff_eq.2 a5)) (q := 38) rfl (s_fa0 rfl fo_42_0 ?_) | refine n_op (.yes rfl rfl (bne_eq_false_iff_eq.2 a5)) (q := 38) rfl (s_fa rfl fo_42_0 ?_)
  refine n_op (.yes rfl rfl (bne_eq_false_iff_eq.2 a5)) (q := 39) rfl (s_ld rfl (by repeat (first | exact gs_same _ _ _ | refine (gs_ne (by omega) _).trans ?_)) ag_37 (by first | exact rfl) ?_)
  first | refine n_op (.yes rfl rfl (bne_eq_false_iff_eq.2 a5)) (q := 40) rfl (s_fa0 rfl fo_55_5 ?_) | refine n_op (.yes rfl rfl (bne_eq_false_iff_eq.2 a5)) (q := 40) rfl (s_fa rfl fo_55_5 ?_)
  first | refine n_op (.yes rfl rfl (bne_eq_false_iff_eq.2 a5)) (q := 41) rfl (s_fa0 rfl fo_42_0 ?_) | refine n_op (.yes rfl rfl (bne_eq_false_iff_eq.2 a5)) (q := 41) rfl (s_fa rfl fo_42_0 ?_)
  refine n_op (.yes rfl rfl (bne_eq_false_iff_eq.2 a5)) (q := 42) rfl (s_ld rfl (by repeat (first | exact gs_same _ _ _ | refine (gs_ne (by omega) _).trans ?_)) ag_37 (by first | exact rfl) ?_)
  refine n_call (.yes rfl rfl (bne_eq_false_iff_eq.2 a5)) rfl rfl rfl ?_
  refine C.use (gdsEq_c (h1.gs.kp0 (by repeat (first | exact Kp.refl _ _ _ | refine Kp.new ?_ (by omega) _)) hw) (h2.gs.kp0 (by repeat (first | exact Kp.refl _ _ _ | refine Kp.new ?_ (by omega) _)) hw) hn.1) fun v g1 n1 hw1 hn1 hq => ?_
  obtain ⟨⟨r, rfl, hr⟩, k1⟩ := hq
  have k2 : K0 g n g1 := Kp.trans0 (by repeat (first | exact Kp.refl _ _ _ | refine Kp.new ?_ (by omega) _)) k1 (by omega)
  by_cases a6 : x.gs = y.gs
  · obtain rfl : r = true := hr.2 a6
    refine n_op (.yes rfl rfl (bne_eq_false_iff_eq.2 a5)) (q := 44) rfl (s_not rfl ?_)
    refine n_op .no (q := 45) rfl (s_pf rfl (bne_eq_false_iff_eq.2 a5) rfl ?_)
    refine n_nil ?_
    repeat (first | refine w_seq ?_ | refine w_blk ?_ | refine z_seq ?_ | refine z_blk ?_ | refine w_skip ?_)
    refine w_no rfl (rfl) ?_
    repeat (first | refine w_seq ?_ | refine w_blk ?_ | refine z_seq ?_ | refine z_blk ?_ | refine w_skip ?_)
    refine w_reg 8 rfl rfl (j' := 8) ?_
    first | refine n_op .no (q := 0) rfl (s_fa0 rfl fo_55_5 ?_) | refine n_op .no (q := 0) rfl (s_fa rfl fo_55_5 ?_)
    first | refine n_op .no (q := 1) rfl (s_fa0 rfl fo_42_1 ?_) | refine n_op .no (q := 1) rfl (s_fa rfl fo_42_1 ?_)
    refine n_op .no (q := 2) rfl (s_ld rfl (by repeat (first | exact gs_same _ _ _ | refine Kp.lt k1 (by omega) ?_ | refine (gs_ne (by omega) _).trans ?_)) ag_40 (by first | exact rfl) ?_)
    first | refine n_op .no (q := 3) rfl (s_fa0 rfl fo_55_5 ?_) | refine n_op .no (q := 3) rfl (s_fa rfl fo_55_5 ?_)
    first | refine n_op .no (q := 4) rfl (s_fa0 rfl fo_42_1 ?_) | refine n_op .no (q := 4) rfl (s_fa rfl fo_42_1 ?_)
    refine n_op .no (q := 5) rfl (s_ld rfl (by repeat (first | exact gs_same _ _ _ | refine Kp.lt k1 (by omega) ?_ | refine (gs_ne (by omega) _).trans ?_)) ag_40 (by first | exact rfl) ?_)
    refine n_call .no rfl rfl rfl ?_
    refine C.use (wrsEq_c (h1.ws.kp0 k2 hw) (h2.ws.kp0 k2 hw) hn.2) fun v g2 n2 hw2 hn2 hq => ?_
    obtain ⟨⟨r, rfl, hr2⟩, k3⟩ := hq
    refine n_op .no (q := 7) rfl (s_as rfl ?_)
    refine n_nil ?_
    repeat (first | refine w_ret ?_ | refine w_seq ?_ | refine w_blk ?_ | refine z_seq ?_ | refine z_blk ?_ | refine w_skip ?_)
    refine z_r1 rfl rfl ?_
    exact ⟨⟨_, rfl, ⟨fun h => Cal.ext' a1 a2 a3 a4 a5 a6 (hr2.1 h), fun h => hr2.2 (by rw [h])⟩⟩, k2.trans0 k3 (by omega)⟩
  · have hrf : r = false := by
      cases r with
      | false => rfl
      | true => exact absurd (hr.1 rfl) a6
    subst hrf
    refine n_op (.yes rfl rfl (bne_eq_false_iff_eq.2 a5)) (q := 44) rfl (s_not rfl ?_)
    refine n_op .no (q := 45) rfl (s_pf rfl (bne_eq_false_iff_eq.2 a5) rfl ?_)
    refine n_nil ?_
    repeat (first | refine w_seq ?_ | refine w_blk ?_ | refine z_seq ?_ | refine z_blk ?_ | refine w_skip ?_)
    refine w_yes rfl (rfl) ?_
    repeat (first | refine w_seq ?_ | refine w_blk ?_ | refine z_seq ?_ | refine z_blk ?_ | refine w_skip ?_)
    refine w_reg 1 rfl rfl (j' := 1) ?_
    refine n_op .no (q := 0) rfl (s_as rfl ?_)
    refine n_nil ?_
    repeat (first | refine w_ret ?_ | refine w_seq ?_ | refine w_blk ?_ | refine z_seq ?_ | refine z_blk ?_ | refine w_skip ?_)
    refine z_r1 rfl rfl ?_
    exact ⟨⟨_, rfl, ⟨fun h => (by cases h), fun h => absurd (by rw [h]) a6⟩⟩, k2⟩


theorem bare_c {g : Gm} {n : Nat} {x : Cal} {gv wv : Value} (h1 : CalAt g x gv wv) :
    C 107 #[.agg (calC x gv wv).toArray] g n fun u g' n' => ∃ gv' wv', u = .agg (calC x.bare gv' wv').toArray ∧ CalAt g' x.bare gv' wv' ∧ K0 g n g' := by
  obtain ⟨a1, c1, rfl⟩ := h1.gs.len
  obtain ⟨a2, c2, rfl⟩ := h1.ws.len
  refine c_in1 Tryz.func107 rfl Tryz.ntmps107 rfl fun hw => ?_
  repeat (first | refine w_seq ?_ | refine w_blk ?_ | refine z_seq ?_ | refine z_blk ?_ | refine w_skip ?_)
  refine w_reg 2 rfl rfl (j' := 2) ?_
  refine n_op .no (q := 0) rfl (s_boxa rfl ?_)
  refine n_op .no (q := 1) rfl (s_al zl_55 ?_)
  refine n_nil ?_
  repeat (first | refine w_seq ?_ | refine w_blk ?_ | refine z_seq ?_ | refine z_blk ?_ | refine w_skip ?_)
  refine w_reg 9 rfl rfl (j' := 11) ?_
  first | refine n_op .no (q := 2) rfl (s_fa0 rfl fo_55_0 ?_) | refine n_op .no (q := 2) rfl (s_fa rfl fo_55_0 ?_)
  refine n_op .no (q := 3) rfl (s_ld rfl (by repeat (first | exact gs_same _ _ _ | refine (gs_ne (by omega) _).trans ?_)) ag_3 (by first | exact rfl) ?_)
  first | refine n_op .no (q := 4) rfl (s_fa0 rfl fo_55_1 ?_) | refine n_op .no (q := 4) rfl (s_fa rfl fo_55_1 ?_)
  refine n_op .no (q := 5) rfl (s_ld rfl (by repeat (first | exact gs_same _ _ _ | refine (gs_ne (by omega) _).trans ?_)) ag_2 (by first | exact rfl) ?_)
  first | refine n_op .no (q := 6) rfl (s_fa0 rfl fo_55_2 ?_) | refine n_op .no (q := 6) rfl (s_fa rfl fo_55_2 ?_)
  refine n_op .no (q := 7) rfl (s_ld rfl (by repeat (first | exact gs_same _ _ _ | refine (gs_ne (by omega) _).trans ?_)) ag_3 (by first | exact rfl) ?_)
  refine n_op .no (q := 8) rfl (s_bld pl_55 zl_55 rfl rfl rfl ?_)
  refine n_op .no (q := 9) rfl (s_al zl_55 ?_)
  refine n_op .no (q := 10) rfl (s_stw rfl rfl sz_55 rfl (by repeat (first | exact gs_same _ _ _ | refine (gs_ne (by omega) _).trans ?_)) (by exact rfl) rfl ?_)
  refine n_nil ?_
  repeat (first | refine w_seq ?_ | refine w_blk ?_ | refine z_seq ?_ | refine z_blk ?_ | refine w_skip ?_)
  refine w_reg 2 rfl rfl (j' := 13) ?_
  first | refine n_op .no (q := 11) rfl (s_fa0 rfl fo_55_2 ?_) | refine n_op .no (q := 11) rfl (s_fa rfl fo_55_2 ?_)
  refine n_op .no (q := 12) rfl (s_ld rfl (by repeat (first | exact gs_same _ _ _ | refine (gs_ne (by omega) _).trans ?_)) ag_3 (by first | exact rfl) ?_)
  refine n_nil ?_
  repeat (first | refine w_seq ?_ | refine w_blk ?_ | refine z_seq ?_ | refine z_blk ?_ | refine w_skip ?_)
  refine w_reg 2 rfl rfl (j' := 15) ?_
  refine n_op .no (q := 13) rfl (s_bin rfl rfl rfl ?_)
  refine n_op .no (q := 14) rfl (s_as rfl ?_)
  refine n_nil ?_
  by_cases c1 : x.kind = 1
  · repeat (first | refine w_seq ?_ | refine w_blk ?_ | refine z_seq ?_ | refine z_blk ?_ | refine w_skip ?_)
    refine w_yes rfl (beq_iff_eq.2 c1) ?_
    repeat (first | refine w_seq ?_ | refine w_blk ?_ | refine z_seq ?_ | refine z_blk ?_ | refine w_skip ?_)
    refine w_reg 4 rfl rfl (j' := 19) ?_
    first | refine n_op .no (q := 15) rfl (s_fa0 rfl fo_55_3 ?_) | refine n_op .no (q := 15) rfl (s_fa rfl fo_55_3 ?_)
    refine n_op .no (q := 16) rfl (s_ld rfl (by repeat (first | exact gs_same _ _ _ | refine (gs_ne (by omega) _).trans ?_)) ag_9 (by first | exact rfl) ?_)
    first | refine n_op .no (q := 17) rfl (s_fa0 rfl fo_55_3 ?_) | refine n_op .no (q := 17) rfl (s_fa rfl fo_55_3 ?_)
    refine n_op .no (q := 18) rfl (s_st rfl rfl sz_9 (by repeat (first | exact gs_same _ _ _ | refine (gs_ne (by omega) _).trans ?_)) rfl rfl (by exact rfl) ?_)
    refine n_nil ?_
    repeat (first | refine w_seq ?_ | refine w_blk ?_ | refine z_seq ?_ | refine z_blk ?_ | refine w_skip ?_)
    refine w_reg 2 rfl rfl (j' := 21) ?_
    refine n_op .no (q := 19) rfl (s_ldf rfl (by repeat (first | exact gs_same _ _ _ | refine (gs_ne (by omega) _).trans ?_)) ag_55 sz_55 (by exact rfl) ?_)
    refine n_op .no (q := 20) rfl (s_stw rfl rfl sz_55 rfl (by repeat (first | exact gs_same _ _ _ | refine (gs_ne (by omega) _).trans ?_)) (by exact rfl) rfl ?_)
    refine n_nil ?_
    repeat (first | refine w_ret ?_ | refine w_seq ?_ | refine w_blk ?_ | refine z_seq ?_ | refine z_blk ?_ | refine w_skip ?_)
    refine z_rc rfl rfl (by repeat (first | exact gs_same _ _ _ | refine (gs_ne (by omega) _).trans ?_)) ag_55 sz_55 (by exact rfl) (by exact Nat.le_of_ble_eq_true rfl) ?_
    have e : x.bare = ⟨x.from_, x.id, x.kind, x.key, 0, [], []⟩ := by simp [Cal.bare, c1]
    rw [e]
    exact ⟨_, _, rfl, ⟨GdsRd.nil _, WrsRd.nil _⟩, (by repeat (first | exact Kp.refl _ _ _ | refine Kp.new ?_ (by omega) _))⟩
  repeat (first | refine w_seq ?_ | refine w_blk ?_ | refine z_seq ?_ | refine z_blk ?_ | refine w_skip ?_)
  refine w_no rfl (beq_eq_false_iff_ne.2 c1) ?_
  repeat (first | refine w_seq ?_ | refine w_blk ?_ | refine z_seq ?_ | refine z_blk ?_ | refine w_skip ?_)
  refine w_reg 2 rfl rfl (j' := 17) ?_
  refine n_op .no (q := 15) rfl (s_bin rfl rfl rfl ?_)
  refine n_op .no (q := 16) rfl (s_as rfl ?_)
  refine n_nil ?_
  by_cases c3 : x.kind = 3
  · repeat (first | refine w_seq ?_ | refine w_blk ?_ | refine z_seq ?_ | refine z_blk ?_ | refine w_skip ?_)
    refine w_yes rfl (beq_iff_eq.2 c3) ?_
    repeat (first | refine w_seq ?_ | refine w_blk ?_ | refine z_seq ?_ | refine z_blk ?_ | refine w_skip ?_)
    refine w_reg 4 rfl rfl (j' := 21) ?_
    first | refine n_op .no (q := 17) rfl (s_fa0 rfl fo_55_4 ?_) | refine n_op .no (q := 17) rfl (s_fa rfl fo_55_4 ?_)
    refine n_op .no (q := 18) rfl (s_ld rfl (by repeat (first | exact gs_same _ _ _ | refine (gs_ne (by omega) _).trans ?_)) ag_2 (by first | exact rfl) ?_)
    first | refine n_op .no (q := 19) rfl (s_fa0 rfl fo_55_4 ?_) | refine n_op .no (q := 19) rfl (s_fa rfl fo_55_4 ?_)
    refine n_op .no (q := 20) rfl (s_st rfl rfl sz_2 (by repeat (first | exact gs_same _ _ _ | refine (gs_ne (by omega) _).trans ?_)) rfl rfl (by exact rfl) ?_)
    refine n_nil ?_
    repeat (first | refine w_seq ?_ | refine w_blk ?_ | refine z_seq ?_ | refine z_blk ?_ | refine w_skip ?_)
    refine w_reg 2 rfl rfl (j' := 23) ?_
    refine n_op .no (q := 21) rfl (s_ldf rfl (by repeat (first | exact gs_same _ _ _ | refine (gs_ne (by omega) _).trans ?_)) ag_55 sz_55 (by exact rfl) ?_)
    refine n_op .no (q := 22) rfl (s_stw rfl rfl sz_55 rfl (by repeat (first | exact gs_same _ _ _ | refine (gs_ne (by omega) _).trans ?_)) (by exact rfl) rfl ?_)
    refine n_nil ?_
    repeat (first | refine w_ret ?_ | refine w_seq ?_ | refine w_blk ?_ | refine z_seq ?_ | refine z_blk ?_ | refine w_skip ?_)
    refine z_rc rfl rfl (by repeat (first | exact gs_same _ _ _ | refine (gs_ne (by omega) _).trans ?_)) ag_55 sz_55 (by exact rfl) (by exact Nat.le_of_ble_eq_true rfl) ?_
    have e : x.bare = ⟨x.from_, x.id, x.kind, [], x.rev, [], []⟩ := by simp [Cal.bare, c3]
    rw [e]
    exact ⟨_, _, rfl, ⟨GdsRd.nil _, WrsRd.nil _⟩, (by repeat (first | exact Kp.refl _ _ _ | refine Kp.new ?_ (by omega) _))⟩
  repeat (first | refine w_seq ?_ | refine w_blk ?_ | refine z_seq ?_ | refine z_blk ?_ | refine w_skip ?_)
  refine w_no rfl (beq_eq_false_iff_ne.2 c3) ?_
  repeat (first | refine w_seq ?_ | refine w_blk ?_ | refine z_seq ?_ | refine z_blk ?_ | refine w_skip ?_)
  refine w_reg 2 rfl rfl (j' := 19) ?_
  refine n_op .no (q := 17) rfl (s_bin rfl rfl rfl ?_)
  refine n_op .no (q := 18) rfl (s_as rfl ?_)
  refine n_nil ?_
  by_cases c4 : x.kind = 4
  · repeat (first | refine w_seq ?_ | refine w_blk ?_ | refine z_seq ?_ | refine z_blk ?_ | refine w_skip ?_)
    refine w_yes rfl (beq_iff_eq.2 c4) ?_
    repeat (first | refine w_seq ?_ | refine w_blk ?_ | refine z_seq ?_ | refine z_blk ?_ | refine w_skip ?_)
    refine w_reg 4 rfl rfl (j' := 23) ?_
    first | refine n_op .no (q := 19) rfl (s_fa0 rfl fo_55_5 ?_) | refine n_op .no (q := 19) rfl (s_fa rfl fo_55_5 ?_)
    refine n_op .no (q := 20) rfl (s_ldf rfl (by repeat (first | exact gs_same _ _ _ | refine (gs_ne (by omega) _).trans ?_)) ag_42 sz_42 (by exact rfl) ?_)
    first | refine n_op .no (q := 21) rfl (s_fa0 rfl fo_55_5 ?_) | refine n_op .no (q := 21) rfl (s_fa rfl fo_55_5 ?_)
    refine n_op .no (q := 22) rfl (s_sta rfl rfl sz_42 rfl (by repeat (first | exact gs_same _ _ _ | refine (gs_ne (by omega) _).trans ?_)) (by first | exact Nat.le_of_ble_eq_true rfl | assumption | omega) rfl ?_)
    refine n_nil ?_
    repeat (first | refine w_seq ?_ | refine w_blk ?_ | refine z_seq ?_ | refine z_blk ?_ | refine w_skip ?_)
    refine w_reg 2 rfl rfl (j' := 25) ?_
    refine n_op .no (q := 23) rfl (s_ldf rfl (by repeat (first | exact gs_same _ _ _ | refine (gs_ne (by omega) _).trans ?_)) ag_55 sz_55 (by exact rfl) ?_)
    refine n_op .no (q := 24) rfl (s_stw rfl rfl sz_55 rfl (by repeat (first | exact gs_same _ _ _ | refine (gs_ne (by omega) _).trans ?_)) (by exact rfl) rfl ?_)
    refine n_nil ?_
    repeat (first | refine w_ret ?_ | refine w_seq ?_ | refine w_blk ?_ | refine z_seq ?_ | refine z_blk ?_ | refine w_skip ?_)
    refine z_rc rfl rfl (by repeat (first | exact gs_same _ _ _ | refine (gs_ne (by omega) _).trans ?_)) ag_55 sz_55 (by exact rfl) (by exact Nat.le_of_ble_eq_true rfl) ?_
    have e : x.bare = ⟨x.from_, x.id, x.kind, [], 0, x.gs, x.ws⟩ := by simp [Cal.bare, c4]
    rw [e]
    exact ⟨_, _, rfl, ⟨h1.gs.kp0 (n := n) (by repeat (first | exact Kp.refl _ _ _ | refine Kp.new ?_ (by omega) _)) hw, h1.ws.kp0 (n := n) (by repeat (first | exact Kp.refl _ _ _ | refine Kp.new ?_ (by omega) _)) hw⟩, (by repeat (first | exact Kp.refl _ _ _ | refine Kp.new ?_ (by omega) _))⟩
  repeat (first | refine w_seq ?_ | refine w_blk ?_ | refine z_seq ?_ | refine z_blk ?_ | refine w_skip ?_)
  refine w_no rfl (beq_eq_false_iff_ne.2 c4) ?_
  repeat (first | refine w_seq ?_ | refine w_blk ?_ | refine z_seq ?_ | refine z_blk ?_ | refine w_skip ?_)
  refine w_reg 2 rfl rfl (j' := 21) ?_
  refine n_op .no (q := 19) rfl (s_ldf rfl (by repeat (first | exact gs_same _ _ _ | refine (gs_ne (by omega) _).trans ?_)) ag_55 sz_55 (by exact rfl) ?_)
  refine n_op .no (q := 20) rfl (s_stw rfl rfl sz_55 rfl (by repeat (first | exact gs_same _ _ _ | refine (gs_ne (by omega) _).trans ?_)) (by exact rfl) rfl ?_)
  refine n_nil ?_
  repeat (first | refine w_ret ?_ | refine w_seq ?_ | refine w_blk ?_ | refine z_seq ?_ | refine z_blk ?_ | refine w_skip ?_)
  refine z_rc rfl rfl (by repeat (first | exact gs_same _ _ _ | refine (gs_ne (by omega) _).trans ?_)) ag_55 sz_55 (by exact rfl) (by exact Nat.le_of_ble_eq_true rfl) ?_
  have e : x.bare = ⟨x.from_, x.id, x.kind, [], 0, [], []⟩ := by simp [Cal.bare, c1, c3, c4]
  rw [e]
  exact ⟨_, _, rfl, ⟨GdsRd.nil _, WrsRd.nil _⟩, (by repeat (first | exact Kp.refl _ _ _ | refine Kp.new ?_ (by omega) _))⟩

theorem mayTxn_c {g : Gm} {n : Nat} {gv wv : Value} {gs : List Gd} {ws : List Wr} (h1 : GdsRd g gv gs) (h2 : WrsRd g wv ws) :
    C 110 #[.agg [gv, wv].toArray] g n fun u g' n' => (∃ r, u = .bool r ∧ (r = true ↔ txnOk gs ws)) ∧ K0 g n g' := by
  obtain ⟨a1, c1, rfl⟩ := h1.len
  obtain ⟨a2, c2, rfl⟩ := h2.len
  refine c_in1 Tryz.func110 rfl Tryz.ntmps110 rfl fun hw => ?_
  repeat (first | refine w_seq ?_ | refine w_blk ?_ | refine z_seq ?_ | refine z_blk ?_ | refine w_skip ?_)
  refine w_reg 2 rfl rfl (j' := 2) ?_
  refine n_op .no (q := 0) rfl (s_boxa rfl ?_)
  refine n_op .no (q := 1) rfl (s_as rfl ?_)
  refine n_nil ?_
  by_cases d1 : gs.length ≤ 20
  rotate_left
  · repeat (first | refine w_seq ?_ | refine w_blk ?_ | refine z_seq ?_ | refine z_blk ?_ | refine w_skip ?_)
    refine w_reg 10 rfl rfl (j' := 12) ?_
    first | refine n_op .no (q := 2) rfl (s_fa0 rfl fo_42_0 ?_) | refine n_op .no (q := 2) rfl (s_fa rfl fo_42_0 ?_)
    refine n_op .no (q := 3) rfl (s_ld rfl (by repeat (first | exact gs_same _ _ _ | refine (gs_ne (by omega) _).trans ?_)) ag_37 (by first | exact rfl) ?_)
    refine n_op .no (q := 4) rfl (s_len rfl rfl un_37 rfl ?_)
    refine n_op .no (q := 5) rfl (s_bin rfl rfl rfl ?_)
    refine n_op .no (q := 6) rfl (s_mv rfl ?_)
    refine n_sk rfl rfl (decide_eq_true (by omega)) ?_
    refine n_sk rfl rfl (decide_eq_true (by omega)) ?_
    refine n_sk rfl rfl (decide_eq_true (by omega)) ?_
    refine n_sk rfl rfl (decide_eq_true (by omega)) ?_
    refine n_op .no (q := 11) rfl (s_pt rfl (decide_eq_true (by omega)) rfl ?_)
    refine n_nil ?_
    repeat (first | refine w_seq ?_ | refine w_blk ?_ | refine z_seq ?_ | refine z_blk ?_ | refine w_skip ?_)
    refine w_yes rfl (rfl) ?_
    repeat (first | refine w_seq ?_ | refine w_blk ?_ | refine z_seq ?_ | refine z_blk ?_ | refine w_skip ?_)
    refine w_reg 1 rfl rfl (j' := 13) ?_
    refine n_op .no (q := 12) rfl (s_as rfl ?_)
    refine n_nil ?_
    repeat (first | refine w_ret ?_ | refine w_seq ?_ | refine w_blk ?_ | refine z_seq ?_ | refine z_blk ?_ | refine w_skip ?_)
    refine z_r1 rfl rfl ?_
    exact ⟨⟨_, rfl, ⟨fun h => (by cases h), fun h => absurd h.1 d1⟩⟩, (by repeat (first | exact Kp.refl _ _ _ | refine Kp.new ?_ (by omega) _))⟩
  by_cases d2 : ws.length ≤ 64
  rotate_left
  · repeat (first | refine w_seq ?_ | refine w_blk ?_ | refine z_seq ?_ | refine z_blk ?_ | refine w_skip ?_)
    refine w_reg 10 rfl rfl (j' := 12) ?_
    first | refine n_op .no (q := 2) rfl (s_fa0 rfl fo_42_0 ?_) | refine n_op .no (q := 2) rfl (s_fa rfl fo_42_0 ?_)
    refine n_op .no (q := 3) rfl (s_ld rfl (by repeat (first | exact gs_same _ _ _ | refine (gs_ne (by omega) _).trans ?_)) ag_37 (by first | exact rfl) ?_)
    refine n_op .no (q := 4) rfl (s_len rfl rfl un_37 rfl ?_)
    refine n_op .no (q := 5) rfl (s_bin rfl rfl rfl ?_)
    refine n_op .no (q := 6) rfl (s_mv rfl ?_)
    first | refine n_op (.yes rfl rfl (decide_eq_false (by omega))) (q := 7) rfl (s_fa0 rfl fo_42_1 ?_) | refine n_op (.yes rfl rfl (decide_eq_false (by omega))) (q := 7) rfl (s_fa rfl fo_42_1 ?_)
    refine n_op (.yes rfl rfl (decide_eq_false (by omega))) (q := 8) rfl (s_ld rfl (by repeat (first | exact gs_same _ _ _ | refine (gs_ne (by omega) _).trans ?_)) ag_40 (by first | exact rfl) ?_)
    refine n_op (.yes rfl rfl (decide_eq_false (by omega))) (q := 9) rfl (s_len rfl rfl un_40 rfl ?_)
    refine n_op (.yes rfl rfl (decide_eq_false (by omega))) (q := 10) rfl (s_bin rfl rfl rfl ?_)
    refine n_op .no (q := 11) rfl (s_pf rfl (decide_eq_false (by omega)) rfl ?_)
    refine n_nil ?_
    repeat (first | refine w_seq ?_ | refine w_blk ?_ | refine z_seq ?_ | refine z_blk ?_ | refine w_skip ?_)
    refine w_yes rfl (decide_eq_true (by omega)) ?_
    repeat (first | refine w_seq ?_ | refine w_blk ?_ | refine z_seq ?_ | refine z_blk ?_ | refine w_skip ?_)
    refine w_reg 1 rfl rfl (j' := 13) ?_
    refine n_op .no (q := 12) rfl (s_as rfl ?_)
    refine n_nil ?_
    repeat (first | refine w_ret ?_ | refine w_seq ?_ | refine w_blk ?_ | refine z_seq ?_ | refine z_blk ?_ | refine w_skip ?_)
    refine z_r1 rfl rfl ?_
    exact ⟨⟨_, rfl, ⟨fun h => (by cases h), fun h => absurd h.2.1 d2⟩⟩, (by repeat (first | exact Kp.refl _ _ _ | refine Kp.new ?_ (by omega) _))⟩
  repeat (first | refine w_seq ?_ | refine w_blk ?_ | refine z_seq ?_ | refine z_blk ?_ | refine w_skip ?_)
  refine w_reg 10 rfl rfl (j' := 12) ?_
  first | refine n_op .no (q := 2) rfl (s_fa0 rfl fo_42_0 ?_) | refine n_op .no (q := 2) rfl (s_fa rfl fo_42_0 ?_)
  refine n_op .no (q := 3) rfl (s_ld rfl (by repeat (first | exact gs_same _ _ _ | refine (gs_ne (by omega) _).trans ?_)) ag_37 (by first | exact rfl) ?_)
  refine n_op .no (q := 4) rfl (s_len rfl rfl un_37 rfl ?_)
  refine n_op .no (q := 5) rfl (s_bin rfl rfl rfl ?_)
  refine n_op .no (q := 6) rfl (s_mv rfl ?_)
  first | refine n_op (.yes rfl rfl (decide_eq_false (by omega))) (q := 7) rfl (s_fa0 rfl fo_42_1 ?_) | refine n_op (.yes rfl rfl (decide_eq_false (by omega))) (q := 7) rfl (s_fa rfl fo_42_1 ?_)
  refine n_op (.yes rfl rfl (decide_eq_false (by omega))) (q := 8) rfl (s_ld rfl (by repeat (first | exact gs_same _ _ _ | refine (gs_ne (by omega) _).trans ?_)) ag_40 (by first | exact rfl) ?_)
  refine n_op (.yes rfl rfl (decide_eq_false (by omega))) (q := 9) rfl (s_len rfl rfl un_40 rfl ?_)
  refine n_op (.yes rfl rfl (decide_eq_false (by omega))) (q := 10) rfl (s_bin rfl rfl rfl ?_)
  refine n_op .no (q := 11) rfl (s_pf rfl (decide_eq_false (by omega)) rfl ?_)
  refine n_nil ?_
  repeat (first | refine w_seq ?_ | refine w_blk ?_ | refine z_seq ?_ | refine z_blk ?_ | refine w_skip ?_)
  refine w_no rfl (decide_eq_false (by omega)) ?_
  repeat (first | refine w_seq ?_ | refine w_blk ?_ | refine z_seq ?_ | refine z_blk ?_ | refine w_skip ?_)
  refine w_reg 4 rfl rfl (j' := 16) ?_
  first | refine n_op .no (q := 12) rfl (s_fa0 rfl fo_42_0 ?_) | refine n_op .no (q := 12) rfl (s_fa rfl fo_42_0 ?_)
  refine n_op .no (q := 13) rfl (s_ld rfl (by repeat (first | exact gs_same _ _ _ | refine (gs_ne (by omega) _).trans ?_)) ag_37 (by first | exact rfl) ?_)
  refine n_op .no (q := 14) rfl (s_len rfl rfl un_37 rfl ?_)
  refine n_op .no (q := 15) rfl (s_mv rfl ?_)
  refine n_nil ?_
  refine z_seq ?_
  refine z_meet (β := Unit) (fun _ => [(1, .pointer (some ⟨n, 0, none⟩))]) (fun _ g' n' => n + 1 ≤ n' ∧ K0 g n g' ∧ g' n = some (.cells [.slice a1 gs.length c1, .slice a2 ws.length c2] 0 false) ∧ ∀ x ∈ gs, x.may) ?_ ?_
  · repeat (first | refine w_seq ?_ | refine w_blk ?_ | refine z_seq ?_ | refine z_blk ?_ | refine w_skip ?_)
    refine w_loop (β := Nat) (fun i => [(1, .pointer (some ⟨n, 0, none⟩)), (18, .slice a1 gs.length c1), (19, .int .i64 gs.length), (20, .int .i64 i)])
      (fun i g' n' => i ≤ gs.length ∧ n + 1 ≤ n' ∧ K0 g n g' ∧ g' n = some (.cells [.slice a1 gs.length c1, .slice a2 ws.length c2] 0 false) ∧ ∀ j, (h : j < gs.length) → j < i → gs[j].may) (fun i => gs.length - i) 0 ⟨rfl, rfl, rfl, rfl, trivial⟩ ⟨by omega, by omega, (by repeat (first | exact Kp.refl _ _ _ | refine Kp.new ?_ (by omega) _)), gs_same _ _ _, fun j _ h => absurd h (by omega)⟩ ?_
    rintro i f g1 n1 hw1 ⟨hi, hn1, k1, hcell, ht⟩
    repeat (first | refine w_seq ?_ | refine w_blk ?_ | refine z_seq ?_ | refine z_blk ?_ | refine w_skip ?_)
    refine w_reg 1 rfl rfl (j' := 1) ?_
    refine n_op .no (q := 0) rfl (s_bin rfl rfl rfl ?_)
    refine n_nil ?_
    repeat (first | refine w_seq ?_ | refine w_blk ?_ | refine z_seq ?_ | refine z_blk ?_ | refine w_skip ?_)
    refine w_if rfl (fun hb => ?_) (fun hb => ?_)
    · have hi : i < gs.length := by simpa using hb
      obtain ⟨l3, o3, c3, cl3, ro3, x1, x2, x0, x5⟩ := (h1.kp0 k1 hw).at hi
      cases x1
      have hx2 := hw1 _ _ x2
      repeat (first | refine w_seq ?_ | refine w_blk ?_ | refine z_seq ?_ | refine z_blk ?_ | refine w_skip ?_)
      refine w_reg 4 rfl rfl (j' := 5) ?_
      refine n_op .no (q := 1) rfl (s_ia rfl rfl el_37 (by first | assumption | omega) ?_)
      refine n_op .no (q := 2) rfl (s_lda rfl (by repeat (first | exact gs_same _ _ _ | exact x2 | exact x5 | refine (gs_ne (by omega) _).trans ?_)) ag_36 sz_36 (by first | exact Nat.le_of_ble_eq_true rfl | assumption | omega) (by first | exact x2 | exact x5 | exact rfl) ?_)
      refine n_op .no (q := 3) rfl (s_al zl_36 ?_)
      refine n_op .no (q := 4) rfl (s_stw rfl rfl sz_36 rfl (by repeat (first | exact gs_same _ _ _ | exact x2 | exact x5 | refine (gs_ne (by omega) _).trans ?_)) (by exact rfl) rfl ?_)
      refine n_nil ?_
      repeat (first | refine w_seq ?_ | refine w_blk ?_ | refine z_seq ?_ | refine z_blk ?_ | refine w_skip ?_)
      refine w_reg 10 rfl rfl (j' := 15) ?_
      first | refine n_op .no (q := 5) rfl (s_fa0 rfl fo_36_0 ?_) | refine n_op .no (q := 5) rfl (s_fa rfl fo_36_0 ?_)
      refine n_op .no (q := 6) rfl (s_ld rfl (by repeat (first | exact gs_same _ _ _ | refine (gs_ne (by omega) _).trans ?_)) ag_9 (by first | exact rfl) ?_)
      refine n_call .no rfl rfl rfl ?_
      refine C.use (key_c _) fun v g2 n2 hw2 hn2 hq => ?_
      obtain ⟨⟨r, rfl, hr⟩, k2⟩ := hq
      have k3 : K0 g1 n1 g2 := Kp.trans0 (by repeat (first | exact Kp.refl _ _ _ | refine Kp.new ?_ (by omega) _)) k2 (by omega)
      by_cases e1 : keyOk gs[i].key
      · obtain rfl : r = true := hr.2 e1
        refine n_op .no (q := 8) rfl (s_not rfl ?_)
        refine n_op .no (q := 9) rfl (s_mv rfl ?_)
        first | refine n_op (.yes rfl rfl (rfl)) (q := 10) rfl (s_fa0 rfl fo_36_1 ?_) | refine n_op (.yes rfl rfl (rfl)) (q := 10) rfl (s_fa rfl fo_36_1 ?_)
        refine n_op (.yes rfl rfl (rfl)) (q := 11) rfl (s_ld rfl (by repeat (first | exact gs_same _ _ _ | refine Kp.lt k2 (by omega) ?_ | refine (gs_ne (by omega) _).trans ?_)) ag_2 (by first | exact rfl) ?_)
        refine n_call (.yes rfl rfl (rfl)) rfl rfl rfl ?_
        refine C.use (rev_c _) fun v g3 n3 hw3 hn3 hq => ?_
        obtain ⟨⟨q, rfl, hq⟩, k4⟩ := hq
        have k5 : K0 g1 n1 g3 := k3.trans0 k4 (by omega)
        by_cases e2 : revOk gs[i].rev
        · obtain rfl : q = true := hq.2 e2
          refine n_op (.yes rfl rfl (rfl)) (q := 13) rfl (s_not rfl ?_)
          refine n_op .no (q := 14) rfl (s_pf rfl (rfl) rfl ?_)
          refine n_nil ?_
          repeat (first | refine w_seq ?_ | refine w_blk ?_ | refine z_seq ?_ | refine z_blk ?_ | refine w_skip ?_)
          refine w_no rfl (rfl) ?_
          repeat (first | refine w_seq ?_ | refine w_blk ?_ | refine z_seq ?_ | refine z_blk ?_ | refine w_skip ?_)
          repeat (first | refine w_seq ?_ | refine w_blk ?_ | refine z_seq ?_ | refine z_blk ?_ | refine w_skip ?_)
          refine w_reg 2 rfl rfl (j' := 2) ?_
          first | refine n_op .no (q := 0) rfl (s_bin rfl rfl (bi_inc (by omega)) ?_) | refine n_op .no (q := 0) rfl (s_bin rfl rfl (bi_add rfl (by omega) (by omega)) ?_)
          refine n_op .no (q := 1) rfl (s_mv rfl ?_)
          refine n_nil ?_
          exact z_round (i + 1) ⟨rfl, rfl, rfl, rfl, trivial⟩ ⟨hi, by omega, k1.trans0 k5 (by omega), k5.at0 hw1 hcell, fun j hj hlt => by
            by_cases e : j = i
            · subst e; exact ⟨e1, e2⟩
            · exact ht j hj (by omega)⟩ (by omega)
        · have : q = false := by
            cases q with
            | false => rfl
            | true => exact absurd (hq.1 rfl) e2
          subst this
          refine n_op (.yes rfl rfl (rfl)) (q := 13) rfl (s_not rfl ?_)
          refine n_op .no (q := 14) rfl (s_pf rfl (rfl) rfl ?_)
          refine n_nil ?_
          repeat (first | refine w_seq ?_ | refine w_blk ?_ | refine z_seq ?_ | refine z_blk ?_ | refine w_skip ?_)
          refine w_yes rfl (rfl) ?_
          repeat (first | refine w_seq ?_ | refine w_blk ?_ | refine z_seq ?_ | refine z_blk ?_ | refine w_skip ?_)
          refine w_reg 1 rfl rfl (j' := 1) ?_
          refine n_op .no (q := 0) rfl (s_as rfl ?_)
          refine n_nil ?_
          repeat (first | refine w_ret ?_ | refine w_seq ?_ | refine w_blk ?_ | refine z_seq ?_ | refine z_blk ?_ | refine w_skip ?_)
          refine z_r1 rfl rfl ?_
          exact ⟨⟨_, rfl, ⟨fun h => (by cases h), fun h => absurd (h.2.2.1 _ (List.getElem_mem hi)).2 e2⟩⟩, k1.trans0 k5 (by omega)⟩
      · have : r = false := by
          cases r with
          | false => rfl
          | true => exact absurd (hr.1 rfl) e1
        subst this
        refine n_op .no (q := 8) rfl (s_not rfl ?_)
        refine n_op .no (q := 9) rfl (s_mv rfl ?_)
        refine n_sk rfl rfl (rfl) ?_
        refine n_sk rfl rfl (rfl) ?_
        refine n_sk rfl rfl (rfl) ?_
        refine n_sk rfl rfl (rfl) ?_
        refine n_op .no (q := 14) rfl (s_pt rfl (rfl) rfl ?_)
        refine n_nil ?_
        repeat (first | refine w_seq ?_ | refine w_blk ?_ | refine z_seq ?_ | refine z_blk ?_ | refine w_skip ?_)
        refine w_yes rfl (rfl) ?_
        repeat (first | refine w_seq ?_ | refine w_blk ?_ | refine z_seq ?_ | refine z_blk ?_ | refine w_skip ?_)
        refine w_reg 1 rfl rfl (j' := 1) ?_
        refine n_op .no (q := 0) rfl (s_as rfl ?_)
        refine n_nil ?_
        repeat (first | refine w_ret ?_ | refine w_seq ?_ | refine w_blk ?_ | refine z_seq ?_ | refine z_blk ?_ | refine w_skip ?_)
        refine z_r1 rfl rfl ?_
        exact ⟨⟨_, rfl, ⟨fun h => (by cases h), fun h => absurd (h.2.2.1 _ (List.getElem_mem hi)).1 e1⟩⟩, k1.trans0 k3 (by omega)⟩
    · refine w_exit rfl ?_
      have : i = gs.length := by simp at hb; omega
      subst this
      exact z_met () ⟨rfl, trivial⟩ ⟨by omega, k1, hcell, fun x hx => by
        obtain ⟨j, hj, rfl⟩ := List.mem_iff_getElem.1 hx
        exact ht j hj hj⟩
  rintro _ f g1 n1 hw1 ⟨hn1, k1, hcell, hg⟩
  repeat (first | refine w_seq ?_ | refine w_blk ?_ | refine z_seq ?_ | refine z_blk ?_ | refine w_skip ?_)
  refine w_reg 4 rfl rfl (j' := 4) ?_
  first | refine n_op .no (q := 0) rfl (s_fa0 rfl fo_42_1 ?_) | refine n_op .no (q := 0) rfl (s_fa rfl fo_42_1 ?_)
  refine n_op .no (q := 1) rfl (s_ld rfl (by repeat (first | exact gs_same _ _ _ | exact hcell | refine (gs_ne (by omega) _).trans ?_)) ag_40 (by first | exact rfl | exact hcell) ?_)
  refine n_op .no (q := 2) rfl (s_len rfl rfl un_40 rfl ?_)
  refine n_op .no (q := 3) rfl (s_mv rfl ?_)
  refine n_nil ?_
  repeat (first | refine w_seq ?_ | refine w_blk ?_ | refine z_seq ?_ | refine z_blk ?_ | refine w_skip ?_)
  refine w_loop (β := Nat) (fun i => [(36, .slice a2 ws.length c2), (37, .int .i64 ws.length), (38, .int .i64 i)])
    (fun i g' n' => i ≤ ws.length ∧ n ≤ n' ∧ K0 g n g' ∧ ∀ j, (h : j < ws.length) → j < i → ws[j].may) (fun i => ws.length - i) 0 ⟨rfl, rfl, rfl, trivial⟩ ⟨by omega, by omega, k1, fun j _ h => absurd h (by omega)⟩ ?_
  rintro i f g1 n1 hw1 ⟨hi, hn1, k1, ht⟩
  repeat (first | refine w_seq ?_ | refine w_blk ?_ | refine z_seq ?_ | refine z_blk ?_ | refine w_skip ?_)
  refine w_reg 1 rfl rfl (j' := 1) ?_
  refine n_op .no (q := 0) rfl (s_bin rfl rfl rfl ?_)
  refine n_nil ?_
  repeat (first | refine w_seq ?_ | refine w_blk ?_ | refine z_seq ?_ | refine z_blk ?_ | refine w_skip ?_)
  refine w_if rfl (fun hb => ?_) (fun hb => ?_)
  · have hi : i < ws.length := by simpa using hb
    obtain ⟨l3, o3, c3, cl3, ro3, p3, q3, x1, x2, x0, x5, x6⟩ := (h2.kp0 k1 hw).at hi
    cases x1
    have hx2 := hw1 _ _ x2
    repeat (first | refine w_seq ?_ | refine w_blk ?_ | refine z_seq ?_ | refine z_blk ?_ | refine w_skip ?_)
    refine w_reg 4 rfl rfl (j' := 5) ?_
    refine n_op .no (q := 1) rfl (s_ia rfl rfl el_40 (by first | assumption | omega) ?_)
    refine n_op .no (q := 2) rfl (s_lda rfl (by repeat (first | exact gs_same _ _ _ | exact x2 | exact x5 | refine (gs_ne (by omega) _).trans ?_)) ag_39 sz_39 (by first | exact Nat.le_of_ble_eq_true rfl | assumption | omega) (by first | exact x2 | exact x5 | exact rfl) ?_)
    refine n_op .no (q := 3) rfl (s_al zl_39 ?_)
    refine n_op .no (q := 4) rfl (s_stw rfl rfl sz_39 rfl (by repeat (first | exact gs_same _ _ _ | exact x2 | exact x5 | refine (gs_ne (by omega) _).trans ?_)) (by exact rfl) rfl ?_)
    refine n_nil ?_
    repeat (first | refine w_seq ?_ | refine w_blk ?_ | refine z_seq ?_ | refine z_blk ?_ | refine w_skip ?_)
    refine w_reg 10 rfl rfl (j' := 15) ?_
    first | refine n_op .no (q := 5) rfl (s_fa0 rfl fo_39_0 ?_) | refine n_op .no (q := 5) rfl (s_fa rfl fo_39_0 ?_)
    refine n_op .no (q := 6) rfl (s_ld rfl (by repeat (first | exact gs_same _ _ _ | refine (gs_ne (by omega) _).trans ?_)) ag_9 (by first | exact rfl) ?_)
    refine n_call .no rfl rfl rfl ?_
    refine C.use (key_c _) fun v g2 n2 hw2 hn2 hq => ?_
    obtain ⟨⟨r, rfl, hr⟩, k2⟩ := hq
    have k3 : K0 g1 n1 g2 := Kp.trans0 (by repeat (first | exact Kp.refl _ _ _ | refine Kp.new ?_ (by omega) _)) k2 (by omega)
    by_cases e1 : keyOk ws[i].key
    · obtain rfl : r = true := hr.2 e1
      by_cases e2 : ws[i].val.length ≤ 4000
      · refine n_op .no (q := 8) rfl (s_not rfl ?_)
        refine n_op .no (q := 9) rfl (s_mv rfl ?_)
        first | refine n_op (.yes rfl rfl (rfl)) (q := 10) rfl (s_fa0 rfl fo_39_1 ?_) | refine n_op (.yes rfl rfl (rfl)) (q := 10) rfl (s_fa rfl fo_39_1 ?_)
        refine n_op (.yes rfl rfl (rfl)) (q := 11) rfl (s_ld rfl (by repeat (first | exact gs_same _ _ _ | refine Kp.lt k2 (by omega) ?_ | refine (gs_ne (by omega) _).trans ?_)) ag_26 (by first | exact rfl) ?_)
        refine n_op (.yes rfl rfl (rfl)) (q := 12) rfl (s_len rfl rfl un_26 rfl ?_)
        refine n_op (.yes rfl rfl (rfl)) (q := 13) rfl (s_bin rfl rfl rfl ?_)
        refine n_op .no (q := 14) rfl (s_pf rfl (rfl) rfl ?_)
        refine n_nil ?_
        repeat (first | refine w_seq ?_ | refine w_blk ?_ | refine z_seq ?_ | refine z_blk ?_ | refine w_skip ?_)
        refine w_no rfl (decide_eq_false (by omega)) ?_
        repeat (first | refine w_seq ?_ | refine w_blk ?_ | refine z_seq ?_ | refine z_blk ?_ | refine w_skip ?_)
        repeat (first | refine w_seq ?_ | refine w_blk ?_ | refine z_seq ?_ | refine z_blk ?_ | refine w_skip ?_)
        refine w_reg 2 rfl rfl (j' := 2) ?_
        first | refine n_op .no (q := 0) rfl (s_bin rfl rfl (bi_inc (by omega)) ?_) | refine n_op .no (q := 0) rfl (s_bin rfl rfl (bi_add rfl (by omega) (by omega)) ?_)
        refine n_op .no (q := 1) rfl (s_mv rfl ?_)
        refine n_nil ?_
        exact z_round (i + 1) ⟨rfl, rfl, rfl, trivial⟩ ⟨hi, by omega, k1.trans0 k3 (by omega), fun j hj hlt => by
          by_cases e : j = i
          · subst e; exact ⟨e1, e2⟩
          · exact ht j hj (by omega)⟩ (by omega)
      · refine n_op .no (q := 8) rfl (s_not rfl ?_)
        refine n_op .no (q := 9) rfl (s_mv rfl ?_)
        first | refine n_op (.yes rfl rfl (rfl)) (q := 10) rfl (s_fa0 rfl fo_39_1 ?_) | refine n_op (.yes rfl rfl (rfl)) (q := 10) rfl (s_fa rfl fo_39_1 ?_)
        refine n_op (.yes rfl rfl (rfl)) (q := 11) rfl (s_ld rfl (by repeat (first | exact gs_same _ _ _ | refine Kp.lt k2 (by omega) ?_ | refine (gs_ne (by omega) _).trans ?_)) ag_26 (by first | exact rfl) ?_)
        refine n_op (.yes rfl rfl (rfl)) (q := 12) rfl (s_len rfl rfl un_26 rfl ?_)
        refine n_op (.yes rfl rfl (rfl)) (q := 13) rfl (s_bin rfl rfl rfl ?_)
        refine n_op .no (q := 14) rfl (s_pf rfl (rfl) rfl ?_)
        refine n_nil ?_
        repeat (first | refine w_seq ?_ | refine w_blk ?_ | refine z_seq ?_ | refine z_blk ?_ | refine w_skip ?_)
        refine w_yes rfl (decide_eq_true (by omega)) ?_
        repeat (first | refine w_seq ?_ | refine w_blk ?_ | refine z_seq ?_ | refine z_blk ?_ | refine w_skip ?_)
        refine w_reg 1 rfl rfl (j' := 1) ?_
        refine n_op .no (q := 0) rfl (s_as rfl ?_)
        refine n_nil ?_
        repeat (first | refine w_ret ?_ | refine w_seq ?_ | refine w_blk ?_ | refine z_seq ?_ | refine z_blk ?_ | refine w_skip ?_)
        refine z_r1 rfl rfl ?_
        exact ⟨⟨_, rfl, ⟨fun h => (by cases h), fun h => absurd (h.2.2.2 _ (List.getElem_mem hi)).2 e2⟩⟩, k1.trans0 k3 (by omega)⟩
    · have : r = false := by
        cases r with
        | false => rfl
        | true => exact absurd (hr.1 rfl) e1
      subst this
      refine n_op .no (q := 8) rfl (s_not rfl ?_)
      refine n_op .no (q := 9) rfl (s_mv rfl ?_)
      refine n_sk rfl rfl (rfl) ?_
      refine n_sk rfl rfl (rfl) ?_
      refine n_sk rfl rfl (rfl) ?_
      refine n_sk rfl rfl (rfl) ?_
      refine n_op .no (q := 14) rfl (s_pt rfl (rfl) rfl ?_)
      refine n_nil ?_
      repeat (first | refine w_seq ?_ | refine w_blk ?_ | refine z_seq ?_ | refine z_blk ?_ | refine w_skip ?_)
      refine w_yes rfl (rfl) ?_
      repeat (first | refine w_seq ?_ | refine w_blk ?_ | refine z_seq ?_ | refine z_blk ?_ | refine w_skip ?_)
      refine w_reg 1 rfl rfl (j' := 1) ?_
      refine n_op .no (q := 0) rfl (s_as rfl ?_)
      refine n_nil ?_
      repeat (first | refine w_ret ?_ | refine w_seq ?_ | refine w_blk ?_ | refine z_seq ?_ | refine z_blk ?_ | refine w_skip ?_)
      refine z_r1 rfl rfl ?_
      exact ⟨⟨_, rfl, ⟨fun h => (by cases h), fun h => absurd (h.2.2.2 _ (List.getElem_mem hi)).1 e1⟩⟩, k1.trans0 k3 (by omega)⟩
  · refine w_exit rfl ?_
    repeat (first | refine w_seq ?_ | refine w_blk ?_ | refine z_seq ?_ | refine z_blk ?_ | refine w_skip ?_)
    refine w_reg 1 rfl rfl (j' := 2) ?_
    refine n_op .no (q := 1) rfl (s_as rfl ?_)
    refine n_nil ?_
    repeat (first | refine w_ret ?_ | refine w_seq ?_ | refine w_blk ?_ | refine z_seq ?_ | refine z_blk ?_ | refine w_skip ?_)
    refine z_r1 rfl rfl ?_
    have : i = ws.length := by simp at hb; omega
    subst this
    exact ⟨⟨_, rfl, ⟨fun _ => ⟨d1, d2, hg, fun x hx => by
      obtain ⟨j, hj, rfl⟩ := List.mem_iff_getElem.1 hx
      exact ht j hj hj⟩, fun _ => rfl⟩⟩, k1⟩

end Go.Proofs.YtehmailaabjdjaaGreat
end

section
open Go.Proofs
namespace Go.Proofs.YtehmailaabjdjaaGreat
set_option linter.unusedSimpArgs false
set_option linter.unusedVariables false
set_option maxRecDepth 100000

theorem may_c {g : Gm} {n : Nat} {x : Cal} {gv wv : Value} (h1 : CalAt g x gv wv) (hn : x.gs.length < 2 ^ 40 ∧ x.ws.length < 2 ^ 40) :
    C 69 #[.agg (calC x gv wv).toArray] g n fun u g' n' => (∃ r, u = .bool r ∧ (r = true ↔ x.may)) ∧ K0 g n g' := by
  obtain ⟨a1, c1, rfl⟩ := h1.gs.len
  obtain ⟨a2, c2, rfl⟩ := h1.ws.len
  refine c_in1 Tryz.func69 rfl Tryz.ntmps69 rfl fun hw => ?_
  repeat (first | refine w_seq ?_ | refine w_blk ?_ | refine z_seq ?_ | refine z_blk ?_ | refine w_skip ?_)
  refine w_reg 2 rfl rfl (j' := 2) ?_
  refine n_op .no (q := 0) rfl (s_boxa rfl ?_)
  refine n_op .no (q := 1) rfl (s_as rfl ?_)
  refine n_nil ?_
  by_cases b0 : 0 ≤ x.from_
  rotate_left
  · repeat (first | refine w_seq ?_ | refine w_blk ?_ | refine z_seq ?_ | refine z_blk ?_ | refine w_skip ?_)
    refine w_drw (T6 69 1) [(0, []), (1, []), (2, []), (3, []), (4, []), (5, []), (6, []), (7, []), (8, []), (9, []), (10, []), (11, []), (12, []), (13, []), (14, []), (15, []), (16, []), (17, []), (18, []), (19, []), (20, [19]), (21, [19]), (22, []), (23, []), (24, [])] 25 (by kernel_rfl) rfl rfl (j' := 27) ?_
    first | refine d_op rfl rfl .no (q := 2) rfl (s_fa0 rfl fo_55_0 ⟨⟨rfl, rfl⟩, ?_⟩) | refine d_op rfl rfl .no (q := 2) rfl (s_fa rfl fo_55_0 ⟨⟨rfl, rfl⟩, ?_⟩)
    refine d_tc rfl rfl rfl .no (q := 3) rfl (s_ld rfl (by repeat (first | exact gs_same _ _ _ | refine (gs_ne (by omega) _).trans ?_)) ag_3 (by first | exact rfl) ⟨clash_nil, ?_⟩)
    refine d_op rfl rfl .no (q := 4) rfl (s_bin rfl rfl rfl ⟨⟨rfl, rfl⟩, ?_⟩)
    refine d_op rfl rfl .no (q := 5) rfl (s_mv rfl ⟨⟨rfl, rfl⟩, ?_⟩)
    refine d_sk rfl rfl rfl (decide_eq_true (by omega)) ?_
    refine d_sk rfl rfl rfl (decide_eq_true (by omega)) ?_
    refine d_sk rfl rfl rfl (decide_eq_true (by omega)) ?_
    refine d_op rfl rfl .no (q := 9) rfl (s_pt rfl (decide_eq_true (by omega)) rfl ⟨⟨rfl, rfl⟩, ?_⟩)
    refine d_op rfl rfl .no (q := 10) rfl (s_mv rfl ⟨⟨rfl, rfl⟩, ?_⟩)
    refine d_sk rfl rfl rfl (rfl) ?_
    refine d_sk rfl rfl rfl (rfl) ?_
    refine d_sk rfl rfl rfl (rfl) ?_
    refine d_op rfl rfl .no (q := 14) rfl (s_pt rfl (rfl) rfl ⟨⟨rfl, rfl⟩, ?_⟩)
    refine d_op rfl rfl .no (q := 15) rfl (s_mv rfl ⟨⟨rfl, rfl⟩, ?_⟩)
    refine d_sk rfl rfl rfl (rfl) ?_
    refine d_sk rfl rfl rfl (rfl) ?_
    refine d_sk rfl rfl rfl (rfl) ?_
    refine d_op rfl rfl .no (q := 19) rfl (s_pt rfl (rfl) rfl ⟨⟨rfl, rfl⟩, ?_⟩)
    refine d_op rfl rfl .no (q := 20) rfl (s_mv rfl ⟨⟨rfl, rfl⟩, ?_⟩)
    refine d_sk rfl rfl rfl (rfl) ?_
    refine d_sk rfl rfl rfl (rfl) ?_
    refine d_sk rfl rfl rfl (rfl) ?_
    refine d_sk rfl rfl rfl (rfl) ?_
    refine d_sk rfl rfl rfl (rfl) ?_
    refine d_op rfl rfl .no (q := 26) rfl (s_pt rfl (rfl) rfl ⟨⟨rfl, rfl⟩, ?_⟩)
    refine d_nil ?_
    repeat (first | refine w_seq ?_ | refine w_blk ?_ | refine z_seq ?_ | refine z_blk ?_ | refine w_skip ?_)
    refine w_yes rfl (rfl) ?_
    repeat (first | refine w_seq ?_ | refine w_blk ?_ | refine z_seq ?_ | refine z_blk ?_ | refine w_skip ?_)
    refine w_reg 1 rfl rfl (j' := 28) ?_
    refine n_op .no (q := 27) rfl (s_as rfl ?_)
    refine n_nil ?_
    repeat (first | refine w_ret ?_ | refine w_seq ?_ | refine w_blk ?_ | refine z_seq ?_ | refine z_blk ?_ | refine w_skip ?_)
    refine z_r1 rfl rfl ?_
    exact ⟨⟨_, rfl, ⟨fun h => (by cases h), fun h => by obtain ⟨⟨q1, q2, q3, q4, _⟩, _⟩ := h; omega⟩⟩, (by repeat (first | exact Kp.refl _ _ _ | refine Kp.new ?_ (by omega) _))⟩
  by_cases b1 : x.from_ ≤ 7
  rotate_left
  · repeat (first | refine w_seq ?_ | refine w_blk ?_ | refine z_seq ?_ | refine z_blk ?_ | refine w_skip ?_)
    refine w_drw (T6 69 1) [(0, []), (1, []), (2, []), (3, []), (4, []), (5, []), (6, []), (7, []), (8, []), (9, []), (10, []), (11, []), (12, []), (13, []), (14, []), (15, []), (16, []), (17, []), (18, []), (19, []), (20, [19]), (21, [19]), (22, []), (23, []), (24, [])] 25 (by kernel_rfl) rfl rfl (j' := 27) ?_
    first | refine d_op rfl rfl .no (q := 2) rfl (s_fa0 rfl fo_55_0 ⟨⟨rfl, rfl⟩, ?_⟩) | refine d_op rfl rfl .no (q := 2) rfl (s_fa rfl fo_55_0 ⟨⟨rfl, rfl⟩, ?_⟩)
    refine d_tc rfl rfl rfl .no (q := 3) rfl (s_ld rfl (by repeat (first | exact gs_same _ _ _ | refine (gs_ne (by omega) _).trans ?_)) ag_3 (by first | exact rfl) ⟨clash_nil, ?_⟩)
    refine d_op rfl rfl .no (q := 4) rfl (s_bin rfl rfl rfl ⟨⟨rfl, rfl⟩, ?_⟩)
    refine d_op rfl rfl .no (q := 5) rfl (s_mv rfl ⟨⟨rfl, rfl⟩, ?_⟩)
    first | refine d_op rfl rfl (.yes rfl rfl (decide_eq_false (by omega))) (q := 6) rfl (s_fa0 rfl fo_55_0 ⟨⟨rfl, rfl⟩, ?_⟩) | refine d_op rfl rfl (.yes rfl rfl (decide_eq_false (by omega))) (q := 6) rfl (s_fa rfl fo_55_0 ⟨⟨rfl, rfl⟩, ?_⟩)
    refine d_tc rfl rfl rfl (.yes rfl rfl (decide_eq_false (by omega))) (q := 7) rfl (s_ld rfl (by repeat (first | exact gs_same _ _ _ | refine (gs_ne (by omega) _).trans ?_)) ag_3 (by first | exact rfl) ⟨clash_nil, ?_⟩)
    refine d_op rfl rfl (.yes rfl rfl (decide_eq_false (by omega))) (q := 8) rfl (s_bin rfl rfl rfl ⟨⟨rfl, rfl⟩, ?_⟩)
    refine d_op rfl rfl .no (q := 9) rfl (s_pf rfl (decide_eq_false (by omega)) rfl ⟨⟨rfl, rfl⟩, ?_⟩)
    refine d_op rfl rfl .no (q := 10) rfl (s_mv rfl ⟨⟨rfl, rfl⟩, ?_⟩)
    refine d_sk rfl rfl rfl (decide_eq_true (by omega)) ?_
    refine d_sk rfl rfl rfl (decide_eq_true (by omega)) ?_
    refine d_sk rfl rfl rfl (decide_eq_true (by omega)) ?_
    refine d_op rfl rfl .no (q := 14) rfl (s_pt rfl (decide_eq_true (by omega)) rfl ⟨⟨rfl, rfl⟩, ?_⟩)
    refine d_op rfl rfl .no (q := 15) rfl (s_mv rfl ⟨⟨rfl, rfl⟩, ?_⟩)
    refine d_sk rfl rfl rfl (rfl) ?_
    refine d_sk rfl rfl rfl (rfl) ?_
    refine d_sk rfl rfl rfl (rfl) ?_
    refine d_op rfl rfl .no (q := 19) rfl (s_pt rfl (rfl) rfl ⟨⟨rfl, rfl⟩, ?_⟩)
    refine d_op rfl rfl .no (q := 20) rfl (s_mv rfl ⟨⟨rfl, rfl⟩, ?_⟩)
    refine d_sk rfl rfl rfl (rfl) ?_
    refine d_sk rfl rfl rfl (rfl) ?_
    refine d_sk rfl rfl rfl (rfl) ?_
    refine d_sk rfl rfl rfl (rfl) ?_
    refine d_sk rfl rfl rfl (rfl) ?_
    refine d_op rfl rfl .no (q := 26) rfl (s_pt rfl (rfl) rfl ⟨⟨rfl, rfl⟩, ?_⟩)
    refine d_nil ?_
    repeat (first | refine w_seq ?_ | refine w_blk ?_ | refine z_seq ?_ | refine z_blk ?_ | refine w_skip ?_)
    refine w_yes rfl (rfl) ?_
    repeat (first | refine w_seq ?_ | refine w_blk ?_ | refine z_seq ?_ | refine z_blk ?_ | refine w_skip ?_)
    refine w_reg 1 rfl rfl (j' := 28) ?_
    refine n_op .no (q := 27) rfl (s_as rfl ?_)
    refine n_nil ?_
    repeat (first | refine w_ret ?_ | refine w_seq ?_ | refine w_blk ?_ | refine z_seq ?_ | refine z_blk ?_ | refine w_skip ?_)
    refine z_r1 rfl rfl ?_
    exact ⟨⟨_, rfl, ⟨fun h => (by cases h), fun h => by obtain ⟨⟨q1, q2, q3, q4, _⟩, _⟩ := h; omega⟩⟩, (by repeat (first | exact Kp.refl _ _ _ | refine Kp.new ?_ (by omega) _))⟩
  by_cases b2 : 1 ≤ x.id
  rotate_left
  · repeat (first | refine w_seq ?_ | refine w_blk ?_ | refine z_seq ?_ | refine z_blk ?_ | refine w_skip ?_)
    refine w_drw (T6 69 1) [(0, []), (1, []), (2, []), (3, []), (4, []), (5, []), (6, []), (7, []), (8, []), (9, []), (10, []), (11, []), (12, []), (13, []), (14, []), (15, []), (16, []), (17, []), (18, []), (19, []), (20, [19]), (21, [19]), (22, []), (23, []), (24, [])] 25 (by kernel_rfl) rfl rfl (j' := 27) ?_
    first | refine d_op rfl rfl .no (q := 2) rfl (s_fa0 rfl fo_55_0 ⟨⟨rfl, rfl⟩, ?_⟩) | refine d_op rfl rfl .no (q := 2) rfl (s_fa rfl fo_55_0 ⟨⟨rfl, rfl⟩, ?_⟩)
    refine d_tc rfl rfl rfl .no (q := 3) rfl (s_ld rfl (by repeat (first | exact gs_same _ _ _ | refine (gs_ne (by omega) _).trans ?_)) ag_3 (by first | exact rfl) ⟨clash_nil, ?_⟩)
    refine d_op rfl rfl .no (q := 4) rfl (s_bin rfl rfl rfl ⟨⟨rfl, rfl⟩, ?_⟩)
    refine d_op rfl rfl .no (q := 5) rfl (s_mv rfl ⟨⟨rfl, rfl⟩, ?_⟩)
    first | refine d_op rfl rfl (.yes rfl rfl (decide_eq_false (by omega))) (q := 6) rfl (s_fa0 rfl fo_55_0 ⟨⟨rfl, rfl⟩, ?_⟩) | refine d_op rfl rfl (.yes rfl rfl (decide_eq_false (by omega))) (q := 6) rfl (s_fa rfl fo_55_0 ⟨⟨rfl, rfl⟩, ?_⟩)
    refine d_tc rfl rfl rfl (.yes rfl rfl (decide_eq_false (by omega))) (q := 7) rfl (s_ld rfl (by repeat (first | exact gs_same _ _ _ | refine (gs_ne (by omega) _).trans ?_)) ag_3 (by first | exact rfl) ⟨clash_nil, ?_⟩)
    refine d_op rfl rfl (.yes rfl rfl (decide_eq_false (by omega))) (q := 8) rfl (s_bin rfl rfl rfl ⟨⟨rfl, rfl⟩, ?_⟩)
    refine d_op rfl rfl .no (q := 9) rfl (s_pf rfl (decide_eq_false (by omega)) rfl ⟨⟨rfl, rfl⟩, ?_⟩)
    refine d_op rfl rfl .no (q := 10) rfl (s_mv rfl ⟨⟨rfl, rfl⟩, ?_⟩)
    first | refine d_op rfl rfl (.yes rfl rfl (decide_eq_false (by omega))) (q := 11) rfl (s_fa0 rfl fo_55_1 ⟨⟨rfl, rfl⟩, ?_⟩) | refine d_op rfl rfl (.yes rfl rfl (decide_eq_false (by omega))) (q := 11) rfl (s_fa rfl fo_55_1 ⟨⟨rfl, rfl⟩, ?_⟩)
    refine d_tc rfl rfl rfl (.yes rfl rfl (decide_eq_false (by omega))) (q := 12) rfl (s_ld rfl (by repeat (first | exact gs_same _ _ _ | refine (gs_ne (by omega) _).trans ?_)) ag_2 (by first | exact rfl) ⟨clash_nil, ?_⟩)
    refine d_op rfl rfl (.yes rfl rfl (decide_eq_false (by omega))) (q := 13) rfl (s_bin rfl rfl rfl ⟨⟨rfl, rfl⟩, ?_⟩)
    refine d_op rfl rfl .no (q := 14) rfl (s_pf rfl (decide_eq_false (by omega)) rfl ⟨⟨rfl, rfl⟩, ?_⟩)
    refine d_op rfl rfl .no (q := 15) rfl (s_mv rfl ⟨⟨rfl, rfl⟩, ?_⟩)
    refine d_sk rfl rfl rfl (decide_eq_true (by omega)) ?_
    refine d_sk rfl rfl rfl (decide_eq_true (by omega)) ?_
    refine d_sk rfl rfl rfl (decide_eq_true (by omega)) ?_
    refine d_op rfl rfl .no (q := 19) rfl (s_pt rfl (decide_eq_true (by omega)) rfl ⟨⟨rfl, rfl⟩, ?_⟩)
    refine d_op rfl rfl .no (q := 20) rfl (s_mv rfl ⟨⟨rfl, rfl⟩, ?_⟩)
    refine d_sk rfl rfl rfl (rfl) ?_
    refine d_sk rfl rfl rfl (rfl) ?_
    refine d_sk rfl rfl rfl (rfl) ?_
    refine d_sk rfl rfl rfl (rfl) ?_
    refine d_sk rfl rfl rfl (rfl) ?_
    refine d_op rfl rfl .no (q := 26) rfl (s_pt rfl (rfl) rfl ⟨⟨rfl, rfl⟩, ?_⟩)
    refine d_nil ?_
    repeat (first | refine w_seq ?_ | refine w_blk ?_ | refine z_seq ?_ | refine z_blk ?_ | refine w_skip ?_)
    refine w_yes rfl (rfl) ?_
    repeat (first | refine w_seq ?_ | refine w_blk ?_ | refine z_seq ?_ | refine z_blk ?_ | refine w_skip ?_)
    refine w_reg 1 rfl rfl (j' := 28) ?_
    refine n_op .no (q := 27) rfl (s_as rfl ?_)
    refine n_nil ?_
    repeat (first | refine w_ret ?_ | refine w_seq ?_ | refine w_blk ?_ | refine z_seq ?_ | refine z_blk ?_ | refine w_skip ?_)
    refine z_r1 rfl rfl ?_
    exact ⟨⟨_, rfl, ⟨fun h => (by cases h), fun h => by obtain ⟨⟨q1, q2, q3, q4, _⟩, _⟩ := h; omega⟩⟩, (by repeat (first | exact Kp.refl _ _ _ | refine Kp.new ?_ (by omega) _))⟩
  by_cases b3 : x.id ≤ 1099511627776
  rotate_left
  · repeat (first | refine w_seq ?_ | refine w_blk ?_ | refine z_seq ?_ | refine z_blk ?_ | refine w_skip ?_)
    refine w_drw (T6 69 1) [(0, []), (1, []), (2, []), (3, []), (4, []), (5, []), (6, []), (7, []), (8, []), (9, []), (10, []), (11, []), (12, []), (13, []), (14, []), (15, []), (16, []), (17, []), (18, []), (19, []), (20, [19]), (21, [19]), (22, []), (23, []), (24, [])] 25 (by kernel_rfl) rfl rfl (j' := 27) ?_
    first | refine d_op rfl rfl .no (q := 2) rfl (s_fa0 rfl fo_55_0 ⟨⟨rfl, rfl⟩, ?_⟩) | refine d_op rfl rfl .no (q := 2) rfl (s_fa rfl fo_55_0 ⟨⟨rfl, rfl⟩, ?_⟩)
    refine d_tc rfl rfl rfl .no (q := 3) rfl (s_ld rfl (by repeat (first | exact gs_same _ _ _ | refine (gs_ne (by omega) _).trans ?_)) ag_3 (by first | exact rfl) ⟨clash_nil, ?_⟩)
    refine d_op rfl rfl .no (q := 4) rfl (s_bin rfl rfl rfl ⟨⟨rfl, rfl⟩, ?_⟩)
    refine d_op rfl rfl .no (q := 5) rfl (s_mv rfl ⟨⟨rfl, rfl⟩, ?_⟩)
    first | refine d_op rfl rfl (.yes rfl rfl (decide_eq_false (by omega))) (q := 6) rfl (s_fa0 rfl fo_55_0 ⟨⟨rfl, rfl⟩, ?_⟩) | refine d_op rfl rfl (.yes rfl rfl (decide_eq_false (by omega))) (q := 6) rfl (s_fa rfl fo_55_0 ⟨⟨rfl, rfl⟩, ?_⟩)
    refine d_tc rfl rfl rfl (.yes rfl rfl (decide_eq_false (by omega))) (q := 7) rfl (s_ld rfl (by repeat (first | exact gs_same _ _ _ | refine (gs_ne (by omega) _).trans ?_)) ag_3 (by first | exact rfl) ⟨clash_nil, ?_⟩)
    refine d_op rfl rfl (.yes rfl rfl (decide_eq_false (by omega))) (q := 8) rfl (s_bin rfl rfl rfl ⟨⟨rfl, rfl⟩, ?_⟩)
    refine d_op rfl rfl .no (q := 9) rfl (s_pf rfl (decide_eq_false (by omega)) rfl ⟨⟨rfl, rfl⟩, ?_⟩)
    refine d_op rfl rfl .no (q := 10) rfl (s_mv rfl ⟨⟨rfl, rfl⟩, ?_⟩)
    first | refine d_op rfl rfl (.yes rfl rfl (decide_eq_false (by omega))) (q := 11) rfl (s_fa0 rfl fo_55_1 ⟨⟨rfl, rfl⟩, ?_⟩) | refine d_op rfl rfl (.yes rfl rfl (decide_eq_false (by omega))) (q := 11) rfl (s_fa rfl fo_55_1 ⟨⟨rfl, rfl⟩, ?_⟩)
    refine d_tc rfl rfl rfl (.yes rfl rfl (decide_eq_false (by omega))) (q := 12) rfl (s_ld rfl (by repeat (first | exact gs_same _ _ _ | refine (gs_ne (by omega) _).trans ?_)) ag_2 (by first | exact rfl) ⟨clash_nil, ?_⟩)
    refine d_op rfl rfl (.yes rfl rfl (decide_eq_false (by omega))) (q := 13) rfl (s_bin rfl rfl rfl ⟨⟨rfl, rfl⟩, ?_⟩)
    refine d_op rfl rfl .no (q := 14) rfl (s_pf rfl (decide_eq_false (by omega)) rfl ⟨⟨rfl, rfl⟩, ?_⟩)
    refine d_op rfl rfl .no (q := 15) rfl (s_mv rfl ⟨⟨rfl, rfl⟩, ?_⟩)
    first | refine d_op rfl rfl (.yes rfl rfl (decide_eq_false (by omega))) (q := 16) rfl (s_fa0 rfl fo_55_1 ⟨⟨rfl, rfl⟩, ?_⟩) | refine d_op rfl rfl (.yes rfl rfl (decide_eq_false (by omega))) (q := 16) rfl (s_fa rfl fo_55_1 ⟨⟨rfl, rfl⟩, ?_⟩)
    refine d_tc rfl rfl rfl (.yes rfl rfl (decide_eq_false (by omega))) (q := 17) rfl (s_ld rfl (by repeat (first | exact gs_same _ _ _ | refine (gs_ne (by omega) _).trans ?_)) ag_2 (by first | exact rfl) ⟨clash_nil, ?_⟩)
    refine d_op rfl rfl (.yes rfl rfl (decide_eq_false (by omega))) (q := 18) rfl (s_bin rfl rfl rfl ⟨⟨rfl, rfl⟩, ?_⟩)
    refine d_op rfl rfl .no (q := 19) rfl (s_pf rfl (decide_eq_false (by omega)) rfl ⟨⟨rfl, rfl⟩, ?_⟩)
    refine d_op rfl rfl .no (q := 20) rfl (s_mv rfl ⟨⟨rfl, rfl⟩, ?_⟩)
    refine d_sk rfl rfl rfl (decide_eq_true (by omega)) ?_
    refine d_sk rfl rfl rfl (decide_eq_true (by omega)) ?_
    refine d_sk rfl rfl rfl (decide_eq_true (by omega)) ?_
    refine d_sk rfl rfl rfl (decide_eq_true (by omega)) ?_
    refine d_sk rfl rfl rfl (decide_eq_true (by omega)) ?_
    refine d_op rfl rfl .no (q := 26) rfl (s_pt rfl (decide_eq_true (by omega)) rfl ⟨⟨rfl, rfl⟩, ?_⟩)
    refine d_nil ?_
    repeat (first | refine w_seq ?_ | refine w_blk ?_ | refine z_seq ?_ | refine z_blk ?_ | refine w_skip ?_)
    refine w_yes rfl (rfl) ?_
    repeat (first | refine w_seq ?_ | refine w_blk ?_ | refine z_seq ?_ | refine z_blk ?_ | refine w_skip ?_)
    refine w_reg 1 rfl rfl (j' := 28) ?_
    refine n_op .no (q := 27) rfl (s_as rfl ?_)
    refine n_nil ?_
    repeat (first | refine w_ret ?_ | refine w_seq ?_ | refine w_blk ?_ | refine z_seq ?_ | refine z_blk ?_ | refine w_skip ?_)
    refine z_r1 rfl rfl ?_
    exact ⟨⟨_, rfl, ⟨fun h => (by cases h), fun h => by obtain ⟨⟨q1, q2, q3, q4, _⟩, _⟩ := h; omega⟩⟩, (by repeat (first | exact Kp.refl _ _ _ | refine Kp.new ?_ (by omega) _))⟩
  repeat (first | refine w_seq ?_ | refine w_blk ?_ | refine z_seq ?_ | refine z_blk ?_ | refine w_skip ?_)
  refine w_drw (T6 69 1) [(0, []), (1, []), (2, []), (3, []), (4, []), (5, []), (6, []), (7, []), (8, []), (9, []), (10, []), (11, []), (12, []), (13, []), (14, []), (15, []), (16, []), (17, []), (18, []), (19, []), (20, [19]), (21, [19]), (22, []), (23, []), (24, [])] 25 (by kernel_rfl) rfl rfl (j' := 27) ?_
  first | refine d_op rfl rfl .no (q := 2) rfl (s_fa0 rfl fo_55_0 ⟨⟨rfl, rfl⟩, ?_⟩) | refine d_op rfl rfl .no (q := 2) rfl (s_fa rfl fo_55_0 ⟨⟨rfl, rfl⟩, ?_⟩)
  refine d_tc rfl rfl rfl .no (q := 3) rfl (s_ld rfl (by repeat (first | exact gs_same _ _ _ | refine (gs_ne (by omega) _).trans ?_)) ag_3 (by first | exact rfl) ⟨clash_nil, ?_⟩)
  refine d_op rfl rfl .no (q := 4) rfl (s_bin rfl rfl rfl ⟨⟨rfl, rfl⟩, ?_⟩)
  refine d_op rfl rfl .no (q := 5) rfl (s_mv rfl ⟨⟨rfl, rfl⟩, ?_⟩)
  first | refine d_op rfl rfl (.yes rfl rfl (decide_eq_false (by omega))) (q := 6) rfl (s_fa0 rfl fo_55_0 ⟨⟨rfl, rfl⟩, ?_⟩) | refine d_op rfl rfl (.yes rfl rfl (decide_eq_false (by omega))) (q := 6) rfl (s_fa rfl fo_55_0 ⟨⟨rfl, rfl⟩, ?_⟩)
  refine d_tc rfl rfl rfl (.yes rfl rfl (decide_eq_false (by omega))) (q := 7) rfl (s_ld rfl (by repeat (first | exact gs_same _ _ _ | refine (gs_ne (by omega) _).trans ?_)) ag_3 (by first | exact rfl) ⟨clash_nil, ?_⟩)
  refine d_op rfl rfl (.yes rfl rfl (decide_eq_false (by omega))) (q := 8) rfl (s_bin rfl rfl rfl ⟨⟨rfl, rfl⟩, ?_⟩)
  refine d_op rfl rfl .no (q := 9) rfl (s_pf rfl (decide_eq_false (by omega)) rfl ⟨⟨rfl, rfl⟩, ?_⟩)
  refine d_op rfl rfl .no (q := 10) rfl (s_mv rfl ⟨⟨rfl, rfl⟩, ?_⟩)
  first | refine d_op rfl rfl (.yes rfl rfl (decide_eq_false (by omega))) (q := 11) rfl (s_fa0 rfl fo_55_1 ⟨⟨rfl, rfl⟩, ?_⟩) | refine d_op rfl rfl (.yes rfl rfl (decide_eq_false (by omega))) (q := 11) rfl (s_fa rfl fo_55_1 ⟨⟨rfl, rfl⟩, ?_⟩)
  refine d_tc rfl rfl rfl (.yes rfl rfl (decide_eq_false (by omega))) (q := 12) rfl (s_ld rfl (by repeat (first | exact gs_same _ _ _ | refine (gs_ne (by omega) _).trans ?_)) ag_2 (by first | exact rfl) ⟨clash_nil, ?_⟩)
  refine d_op rfl rfl (.yes rfl rfl (decide_eq_false (by omega))) (q := 13) rfl (s_bin rfl rfl rfl ⟨⟨rfl, rfl⟩, ?_⟩)
  refine d_op rfl rfl .no (q := 14) rfl (s_pf rfl (decide_eq_false (by omega)) rfl ⟨⟨rfl, rfl⟩, ?_⟩)
  refine d_op rfl rfl .no (q := 15) rfl (s_mv rfl ⟨⟨rfl, rfl⟩, ?_⟩)
  first | refine d_op rfl rfl (.yes rfl rfl (decide_eq_false (by omega))) (q := 16) rfl (s_fa0 rfl fo_55_1 ⟨⟨rfl, rfl⟩, ?_⟩) | refine d_op rfl rfl (.yes rfl rfl (decide_eq_false (by omega))) (q := 16) rfl (s_fa rfl fo_55_1 ⟨⟨rfl, rfl⟩, ?_⟩)
  refine d_tc rfl rfl rfl (.yes rfl rfl (decide_eq_false (by omega))) (q := 17) rfl (s_ld rfl (by repeat (first | exact gs_same _ _ _ | refine (gs_ne (by omega) _).trans ?_)) ag_2 (by first | exact rfl) ⟨clash_nil, ?_⟩)
  refine d_op rfl rfl (.yes rfl rfl (decide_eq_false (by omega))) (q := 18) rfl (s_bin rfl rfl rfl ⟨⟨rfl, rfl⟩, ?_⟩)
  refine d_op rfl rfl .no (q := 19) rfl (s_pf rfl (decide_eq_false (by omega)) rfl ⟨⟨rfl, rfl⟩, ?_⟩)
  refine d_op rfl rfl .no (q := 20) rfl (s_mv rfl ⟨⟨rfl, rfl⟩, ?_⟩)
  refine d_tc rfl rfl rfl (.yes rfl rfl (decide_eq_false (by omega))) (q := 21) rfl (s_ldf rfl (by repeat (first | exact gs_same _ _ _ | refine (gs_ne (by omega) _).trans ?_)) ag_55 sz_55 (by exact rfl) ⟨clash_nil, ?_⟩)
  refine d_tc rfl rfl rfl (.yes rfl rfl (decide_eq_false (by omega))) (q := 22) rfl (s_ldf rfl (by repeat (first | exact gs_same _ _ _ | refine (gs_ne (by omega) _).trans ?_)) ag_55 sz_55 (by exact rfl) ⟨clash_rd rfl, ?_⟩)
  refine d_call rfl (.yes rfl rfl (decide_eq_false (by omega))) rfl rfl rfl (call_rd rfl) ?_
  refine C.use (bare_c (h1.kp0 (n := n) (by repeat (first | exact Kp.refl _ _ _ | refine Kp.new ?_ (by omega) _)) hw)) fun v g1 n1 hw1 hn1 hq => ?_
  obtain ⟨gv', wv', rfl, hA, k1⟩ := hq
  refine ⟨?_, ?_⟩
  · repeat' (first | exact trivial | exact kept1 k1 (by omega) (gs_same _ _ _) | apply And.intro)
  have k2 : K0 g n g1 := Kp.trans0 (by repeat (first | exact Kp.refl _ _ _ | refine Kp.new ?_ (by omega) _)) k1 (by omega)
  refine d_call rfl (.yes rfl rfl (decide_eq_false (by omega))) rfl rfl rfl call_nil ?_
  refine C.use (callEq_c (h1.kp0 k2 hw) hA hn) fun v g2 n2 hw2 hn2 hq => ?_
  obtain ⟨⟨r, rfl, hr⟩, k3⟩ := hq
  refine ⟨kept_nil, ?_⟩
  have k4 : K0 g n g2 := k2.trans0 k3 (by omega)
  by_cases b4 : x = x.bare
  rotate_left
  · have : r = false := by
      cases r with
      | false => rfl
      | true => exact absurd (hr.1 rfl) b4
    subst this
    refine d_op rfl rfl (.yes rfl rfl (decide_eq_false (by omega))) (q := 25) rfl (s_not rfl ⟨⟨rfl, rfl⟩, ?_⟩)
    refine d_op rfl rfl .no (q := 26) rfl (s_pf rfl (decide_eq_false (by omega)) rfl ⟨⟨rfl, rfl⟩, ?_⟩)
    refine d_nil ?_
    repeat (first | refine w_seq ?_ | refine w_blk ?_ | refine z_seq ?_ | refine z_blk ?_ | refine w_skip ?_)
    refine w_yes rfl (rfl) ?_
    repeat (first | refine w_seq ?_ | refine w_blk ?_ | refine z_seq ?_ | refine z_blk ?_ | refine w_skip ?_)
    refine w_reg 1 rfl rfl (j' := 1) ?_
    refine n_op .no (q := 0) rfl (s_as rfl ?_)
    refine n_nil ?_
    repeat (first | refine w_ret ?_ | refine w_seq ?_ | refine w_blk ?_ | refine z_seq ?_ | refine z_blk ?_ | refine w_skip ?_)
    refine z_r1 rfl rfl ?_
    exact ⟨⟨_, rfl, ⟨fun h => (by cases h), fun h => absurd h.1.2.2.2.2 b4⟩⟩, k4⟩
  obtain rfl : r = true := hr.2 b4
  refine d_op rfl rfl (.yes rfl rfl (decide_eq_false (by omega))) (q := 25) rfl (s_not rfl ⟨⟨rfl, rfl⟩, ?_⟩)
  refine d_op rfl rfl .no (q := 26) rfl (s_pf rfl (decide_eq_false (by omega)) rfl ⟨⟨rfl, rfl⟩, ?_⟩)
  refine d_nil ?_
  repeat (first | refine w_seq ?_ | refine w_blk ?_ | refine z_seq ?_ | refine z_blk ?_ | refine w_skip ?_)
  refine w_no rfl (rfl) ?_
  have hcell : g2 n = some (.cells (calC x (.slice a1 x.gs.length c1) (.slice a2 x.ws.length c2)) 0 false) := k3.lt (by omega) (k1.lt (by omega) (gs_same _ _ _))
  have h3 := h1.kp0 k4 hw
  have hp : 0 ≤ x.from_ ∧ x.from_ ≤ 7 ∧ 1 ≤ x.id ∧ x.id ≤ 1099511627776 ∧ x = x.bare := ⟨b0, b1, b2, b3, b4⟩
  repeat (first | refine w_seq ?_ | refine w_blk ?_ | refine z_seq ?_ | refine z_blk ?_ | refine w_skip ?_)
  refine w_reg 2 rfl rfl (j' := 2) ?_
  first | refine n_op .no (q := 0) rfl (s_fa0 rfl fo_55_2 ?_) | refine n_op .no (q := 0) rfl (s_fa rfl fo_55_2 ?_)
  refine n_op .no (q := 1) rfl (s_ld rfl (by repeat (first | exact gs_same _ _ _ | exact hcell | refine (gs_ne (by omega) _).trans ?_)) ag_3 (by first | exact rfl | exact hcell) ?_)
  refine n_nil ?_
  repeat (first | refine w_seq ?_ | refine w_blk ?_ | refine z_seq ?_ | refine z_blk ?_ | refine w_skip ?_)
  refine w_reg 2 rfl rfl (j' := 4) ?_
  refine n_op .no (q := 2) rfl (s_bin rfl rfl rfl ?_)
  refine n_op .no (q := 3) rfl (s_as rfl ?_)
  refine n_nil ?_
  by_cases d1 : x.kind = 1
  · repeat (first | refine w_seq ?_ | refine w_blk ?_ | refine z_seq ?_ | refine z_blk ?_ | refine w_skip ?_)
    refine w_yes rfl (beq_iff_eq.2 d1) ?_
    repeat (first | refine w_seq ?_ | refine w_blk ?_ | refine z_seq ?_ | refine z_blk ?_ | refine w_skip ?_)
    refine w_reg 4 rfl rfl (j' := 8) ?_
    first | refine n_op .no (q := 4) rfl (s_fa0 rfl fo_55_3 ?_) | refine n_op .no (q := 4) rfl (s_fa rfl fo_55_3 ?_)
    refine n_op .no (q := 5) rfl (s_ld rfl (by repeat (first | exact gs_same _ _ _ | exact hcell | refine (gs_ne (by omega) _).trans ?_)) ag_9 (by first | exact rfl | exact hcell) ?_)
    refine n_call .no rfl rfl rfl ?_
    refine C.use (key_c _) fun v g3 n3 hw3 hn3 hq => ?_
    obtain ⟨⟨r, rfl, hr⟩, k5⟩ := hq
    refine n_op .no (q := 7) rfl (s_as rfl ?_)
    refine n_nil ?_
    repeat (first | refine w_ret ?_ | refine w_seq ?_ | refine w_blk ?_ | refine z_seq ?_ | refine z_blk ?_ | refine w_skip ?_)
    refine z_r1 rfl rfl ?_
    exact ⟨⟨_, rfl, ⟨fun h => ⟨hp, .inl ⟨d1, hr.1 h⟩⟩, fun h => hr.2 (by rcases h.2 with h | h | h | h <;> first | exact h.2 | omega)⟩⟩, k4.trans0 k5 (by omega)⟩
  repeat (first | refine w_seq ?_ | refine w_blk ?_ | refine z_seq ?_ | refine z_blk ?_ | refine w_skip ?_)
  refine w_no rfl (beq_eq_false_iff_ne.2 d1) ?_
  repeat (first | refine w_seq ?_ | refine w_blk ?_ | refine z_seq ?_ | refine z_blk ?_ | refine w_skip ?_)
  refine w_reg 2 rfl rfl (j' := 6) ?_
  refine n_op .no (q := 4) rfl (s_bin rfl rfl rfl ?_)
  refine n_op .no (q := 5) rfl (s_as rfl ?_)
  refine n_nil ?_
  by_cases d2 : x.kind = 2
  · repeat (first | refine w_seq ?_ | refine w_blk ?_ | refine z_seq ?_ | refine z_blk ?_ | refine w_skip ?_)
    refine w_yes rfl (beq_iff_eq.2 d2) ?_
    repeat (first | refine w_seq ?_ | refine w_blk ?_ | refine z_seq ?_ | refine z_blk ?_ | refine w_skip ?_)
    refine w_reg 1 rfl rfl (j' := 7) ?_
    refine n_op .no (q := 6) rfl (s_as rfl ?_)
    refine n_nil ?_
    repeat (first | refine w_ret ?_ | refine w_seq ?_ | refine w_blk ?_ | refine z_seq ?_ | refine z_blk ?_ | refine w_skip ?_)
    refine z_r1 rfl rfl ?_
    exact ⟨⟨_, rfl, ⟨fun h => ⟨hp, .inr (.inl d2)⟩, fun h => rfl⟩⟩, k4⟩
  repeat (first | refine w_seq ?_ | refine w_blk ?_ | refine z_seq ?_ | refine z_blk ?_ | refine w_skip ?_)
  refine w_no rfl (beq_eq_false_iff_ne.2 d2) ?_
  repeat (first | refine w_seq ?_ | refine w_blk ?_ | refine z_seq ?_ | refine z_blk ?_ | refine w_skip ?_)
  refine w_reg 2 rfl rfl (j' := 8) ?_
  refine n_op .no (q := 6) rfl (s_bin rfl rfl rfl ?_)
  refine n_op .no (q := 7) rfl (s_as rfl ?_)
  refine n_nil ?_
  by_cases d3 : x.kind = 3
  · repeat (first | refine w_seq ?_ | refine w_blk ?_ | refine z_seq ?_ | refine z_blk ?_ | refine w_skip ?_)
    refine w_yes rfl (beq_iff_eq.2 d3) ?_
    repeat (first | refine w_seq ?_ | refine w_blk ?_ | refine z_seq ?_ | refine z_blk ?_ | refine w_skip ?_)
    refine w_reg 4 rfl rfl (j' := 12) ?_
    first | refine n_op .no (q := 8) rfl (s_fa0 rfl fo_55_4 ?_) | refine n_op .no (q := 8) rfl (s_fa rfl fo_55_4 ?_)
    refine n_op .no (q := 9) rfl (s_ld rfl (by repeat (first | exact gs_same _ _ _ | exact hcell | refine (gs_ne (by omega) _).trans ?_)) ag_2 (by first | exact rfl | exact hcell) ?_)
    refine n_call .no rfl rfl rfl ?_
    refine C.use (rev_c _) fun v g3 n3 hw3 hn3 hq => ?_
    obtain ⟨⟨r, rfl, hr⟩, k5⟩ := hq
    refine n_op .no (q := 11) rfl (s_as rfl ?_)
    refine n_nil ?_
    repeat (first | refine w_ret ?_ | refine w_seq ?_ | refine w_blk ?_ | refine z_seq ?_ | refine z_blk ?_ | refine w_skip ?_)
    refine z_r1 rfl rfl ?_
    exact ⟨⟨_, rfl, ⟨fun h => ⟨hp, .inr (.inr (.inl ⟨d3, hr.1 h⟩))⟩, fun h => hr.2 (by rcases h.2 with h | h | h | h <;> first | exact h.2 | omega)⟩⟩, k4.trans0 k5 (by omega)⟩
  repeat (first | refine w_seq ?_ | refine w_blk ?_ | refine z_seq ?_ | refine z_blk ?_ | refine w_skip ?_)
  refine w_no rfl (beq_eq_false_iff_ne.2 d3) ?_
  repeat (first | refine w_seq ?_ | refine w_blk ?_ | refine z_seq ?_ | refine z_blk ?_ | refine w_skip ?_)
  refine w_reg 2 rfl rfl (j' := 10) ?_
  refine n_op .no (q := 8) rfl (s_bin rfl rfl rfl ?_)
  refine n_op .no (q := 9) rfl (s_as rfl ?_)
  refine n_nil ?_
  by_cases d4 : x.kind = 4
  · repeat (first | refine w_seq ?_ | refine w_blk ?_ | refine z_seq ?_ | refine z_blk ?_ | refine w_skip ?_)
    refine w_yes rfl (beq_iff_eq.2 d4) ?_
    repeat (first | refine w_seq ?_ | refine w_blk ?_ | refine z_seq ?_ | refine z_blk ?_ | refine w_skip ?_)
    refine w_reg 4 rfl rfl (j' := 14) ?_
    first | refine n_op .no (q := 10) rfl (s_fa0 rfl fo_55_5 ?_) | refine n_op .no (q := 10) rfl (s_fa rfl fo_55_5 ?_)
    refine n_op .no (q := 11) rfl (s_ldf rfl (by repeat (first | exact gs_same _ _ _ | exact hcell | refine (gs_ne (by omega) _).trans ?_)) ag_42 sz_42 (by exact rfl) ?_)
    refine n_call .no rfl rfl rfl ?_
    refine C.use (mayTxn_c h3.gs h3.ws) fun v g3 n3 hw3 hn3 hq => ?_
    obtain ⟨⟨r, rfl, hr⟩, k5⟩ := hq
    refine n_op .no (q := 13) rfl (s_as rfl ?_)
    refine n_nil ?_
    repeat (first | refine w_ret ?_ | refine w_seq ?_ | refine w_blk ?_ | refine z_seq ?_ | refine z_blk ?_ | refine w_skip ?_)
    refine z_r1 rfl rfl ?_
    exact ⟨⟨_, rfl, ⟨fun h => ⟨hp, .inr (.inr (.inr ⟨d4, hr.1 h⟩))⟩, fun h => hr.2 (by rcases h.2 with h | h | h | h <;> first | exact h.2 | omega)⟩⟩, k4.trans0 k5 (by omega)⟩
  repeat (first | refine w_seq ?_ | refine w_blk ?_ | refine z_seq ?_ | refine z_blk ?_ | refine w_skip ?_)
  refine w_no rfl (beq_eq_false_iff_ne.2 d4) ?_
  repeat (first | refine w_seq ?_ | refine w_blk ?_ | refine z_seq ?_ | refine z_blk ?_ | refine w_skip ?_)
  refine w_reg 1 rfl rfl (j' := 11) ?_
  refine n_op .no (q := 10) rfl (s_as rfl ?_)
  refine n_nil ?_
  repeat (first | refine w_ret ?_ | refine w_seq ?_ | refine w_blk ?_ | refine z_seq ?_ | refine z_blk ?_ | refine w_skip ?_)
  refine z_r1 rfl rfl ?_
  exact ⟨⟨_, rfl, ⟨fun h => (by cases h), fun h => by rcases h.2 with h | h | h | h <;> omega⟩⟩, k4⟩

end Go.Proofs.YtehmailaabjdjaaGreat
end
