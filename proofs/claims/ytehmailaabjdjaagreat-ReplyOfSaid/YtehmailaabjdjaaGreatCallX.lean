/-
  CALLS IN BYTES, without a program: what Put writes of a call that may be; two such calls that are written alike are one. No condition. / More operations: shifts, |, int64 of a byte, guards side by side, parts of slices, great structs. No condition. / CALLS IN MEMORY; key, rev, cut, Equal, EqualFunc, Eq, bare, mayTxn, May, by contract. No condition. / call.May, by contract; what package wire writes. No condition.
-/
import Derived.WalkKit
import Derived.Test.YtehmailaabjdjaaGreatCalS
section
namespace Go.Proofs.YtehmailaabjdjaaGreat
set_option linter.unusedSimpArgs false
set_option linter.unusedVariables false

def be : Nat → Nat → Bs
 | 0, _ => []
 | s + 1, n => UInt8.ofNat (n / 256 ^ s) :: be s n

structure Cal where
 from_ : Int
 id : Int
 kind : Int
 key : Bs
 rev : Int
 gs : List Gd
 ws : List Wr

def revOk (n : Int) : Prop := 0 ≤ n ∧ n ≤ 1099511627776
def Gd.may (x : Gd) : Prop := keyOk x.key ∧ revOk x.rev
def Wr.may (x : Wr) : Prop := keyOk x.key ∧ x.val.length ≤ 4000
def txnOk (gs : List Gd) (ws : List Wr) : Prop := gs.length ≤ 20 ∧ ws.length ≤ 64 ∧ (∀ x ∈ gs, x.may) ∧ ∀ x ∈ ws, x.may

def Cal.bare (c : Cal) : Cal := ⟨c.from_, c.id, c.kind, if c.kind = 1 then c.key else [], if c.kind = 3 then c.rev else 0, if c.kind = 4 then c.gs else [], if c.kind = 4 then c.ws else []⟩
def Cal.may (c : Cal) : Prop := (0 ≤ c.from_ ∧ c.from_ ≤ 7 ∧ 1 ≤ c.id ∧ c.id ≤ 1099511627776 ∧ c = c.bare) ∧
 (c.kind = 1 ∧ keyOk c.key ∨ c.kind = 2 ∨ c.kind = 3 ∧ revOk c.rev ∨ c.kind = 4 ∧ txnOk c.gs c.ws)

theorem Cal.ext' {a b : Cal} (h1 : a.from_ = b.from_) (h2 : a.id = b.id) (h3 : a.kind = b.kind) (h4 : a.key = b.key) (h5 : a.rev = b.rev) (h6 : a.gs = b.gs) (h7 : a.ws = b.ws) : a = b := by
 cases a; cases b; simp_all

end Go.Proofs.YtehmailaabjdjaaGreat
end

section
open Go.Proofs
namespace Go.Proofs.YtehmailaabjdjaaGreat
set_option linter.unusedSimpArgs false
set_option linter.unusedVariables false
set_option maxRecDepth 100000

section
variable {N : Nat} {f : Nat → Value} {s : Sls} {g : Gm} {n nm : Nat} {k : Sls → Gm → List Nat → List Nat → Prop} {d : Tmp} {ty : TypeId} {pos : String} {af : Array Edge} {gd : Option (Nat × Bool)}

theorem st_bin {op : BinOp} {t t2 : TypeId} {x y : Operand} {u v r : Value} (hx : ov N s x = some u) (hy : ov N s y = some v) (hu : plainV u = true) (hv : plainV v = true) (hr : plainV r = true)
  (h : pureRun E6.P (do eqGuard op t x y u v; Go.binOp op t u v) = some r) (hk : k ((d, r) :: s) g [] []) : ST N f s g n nm ⟨some d, .binOp op t x y t2, ty, pos, af, gd⟩ k := by
 refine st_val (v := r) rfl ?_ hk
 simp only [aop, aBin, ov_ok hx, ov_ok hy, Option.bind_some, hu, hv, Bool.and_self, if_true, pureVal, h, hr, Option.map_some]

theorem s_hiC {t e : TypeId} {kk : Nat} {x hi : Operand} {v : Value} {m j : Nat} {cs : List Value} (ht : E6.P.underlying t = some (.slice e)) (hz : szO E6.P e = some kk) (hx : ov N s x = some v) {gg : Gm} (hb : SlC gg kk v m cs) (hj : ov N s hi = some (.int .i64 (j : Int))) (hjl : j ≤ m)
  (h : ∀ a c, SlC gg kk (.slice a j c) j (cs.take (j * kk)) → (∀ x, vname (.slice a j c) = some x → vname v = some x) → k ((d, .slice a j c) :: s) g [] []) : ST N f s g n nm ⟨some d, .slice t x none (some hi) none, ty, pos, af, gd⟩ k := by
 obtain ⟨h1, ⟨rfl, h2⟩ | ⟨rfl, h2⟩ | ⟨l, o, c, rfl, h3, h4⟩⟩ := hb
 ·subst h2
  have : cs = [] := List.eq_nil_of_length_eq_zero (by omega)
  subst this
  have : j = 0 := by omega
  subst this
  exact s_slh0 ht hz hx hj (h _ _ (by simpa using SlC.nil gg kk) fun x hx => hx)
 ·subst h2
  have : cs = [] := List.eq_nil_of_length_eq_zero (by omega)
  subst this
  have : j = 0 := by omega
  subst this
  exact s_slhE ht hz hx hj (h _ _ ⟨by simp, .inr (.inl ⟨rfl, rfl⟩)⟩ fun x hx => hx)
 ·have hm : j * kk ≤ m * kk := Nat.mul_le_mul_right _ hjl
  refine s_slh ht hz hx hj (by omega) (h _ _ ⟨by rw [List.length_take]; omega, .inr (.inr ⟨l, o, c, rfl, by omega, ?_⟩)⟩ fun x hx => hx)
  rcases h4 with h4 | ⟨cl, ro, h4, h5, h6⟩
  ·left; omega
  ·refine .inr ⟨cl, ro, h4, by omega, ?_⟩
   rw [← h6, List.take_take, Nat.min_eq_left hm]

end

theorem pr_program (P : Program) : pureRun P program = some P := rfl
theorem pr_struct {P : Program} (d : Nat) (t : TypeId) (xs ys : Array Value) {fs : Array Field} (ht : P.underlying t = some (.struct fs)) (hp : P.stoodInHeld t = false) :
  pureRun P (Op.equalIn (d + 1) t (.agg xs) (.agg ys)) = pureRun P (Op.eqFields d xs ys fs.toList) := by
 simp only [Op.equalIn, pureRun_bind2, pureRun_underlying ht, Option.bind_some, pr_program, hp, Bool.false_eq_true, if_false]
 rw [← Array.forIn_toList]
 generalize fs.toList = l
 clear ht
 induction l with
 | nil => rfl
 | cons f l ih =>
  simp only [List.forIn_cons, Op.eqFields]
  by_cases hf : f.name ≠ "_"
  ·rw [if_pos hf, if_pos hf]
   simp only [pureRun_bind2]
   cases h1 : pureRun P (part f.type xs f.offset) with
   | none => rfl
   | some a =>
    simp only [Option.bind_some]
    cases h2 : pureRun P (part f.type ys f.offset) with
    | none => rfl
    | some b =>
     simp only [Option.bind_some]
     cases h3 : pureRun P (Op.equalIn d f.type a b) with
     | none => rfl
     | some r =>
      cases r
      ·rfl
      ·exact ih
  ·rw [if_neg hf, if_neg hf]
   exact ih

theorem eq36 (a b : Bs) (c d : Int) (e f : Bool) : pureRun E6.P (Op.equal 36 (.agg [.string (str a), .int .i64 c, .bool e].toArray) (.agg [.string (str b), .int .i64 d, .bool f].toArray)) = some (decide (a = b ∧ c = d ∧ e = f)) := by
 have hst : E6.P.stoodInHeld 36 = false := id (by kernel_rfl)
 have g9 : ∀ (x y : Bs), pureRun E6.P (Op.equalIn 9999 9 (.string (str x)) (.string (str y))) = some (decide (x = y)) := fun x y => by
  unfold Op.equalIn
  rw [pureRun_bind E6.P _ _ (pureRun_underlying un_9)]
  show some ((str x) == (str y)) = _
  rw [beq_toListBytes, str_eq]
 have g2 : ∀ (x y : Int), pureRun E6.P (Op.equalIn 9999 2 (.int .i64 x) (.int .i64 y)) = some (decide (x = y)) := fun x y => by
  unfold Op.equalIn
  rw [pureRun_bind E6.P _ _ (pureRun_underlying un_2)]
  show some (x == y) = _
  congr 1
 have g4 : ∀ (x y : Bool), pureRun E6.P (Op.equalIn 9999 4 (.bool x) (.bool y)) = some (decide (x = y)) := fun x y => by
  unfold Op.equalIn
  rw [pureRun_bind E6.P _ _ (pureRun_underlying un_4)]
  show some (x == y) = _
  cases x <;> cases y <;> rfl
 have ia : ∀ t dd, E6.P.underlying t = some dd → (∀ fs, dd ≠ .struct fs) → (∀ n e, dd ≠ .array n e) → pureRun E6.P (isAgg t) = some false := fun t dd h h1 h2 => by
  unfold isAgg
  rw [pureRun_bind E6.P _ _ (pureRun_underlying h)]
  cases dd <;> first | rfl | exact absurd rfl (h1 _) | exact absurd rfl (h2 _ _)
 have i9 := ia 9 _ un_9 (fun _ h => by cases h) (fun _ _ h => by cases h)
 have i2 := ia 2 _ un_2 (fun _ h => by cases h) (fun _ _ h => by cases h)
 have i4 := ia 4 _ un_4 (fun _ h => by cases h) (fun _ _ h => by cases h)
 have p9 : ∀ (x : ByteArray) (y z : Value), pureRun E6.P (part 9 [.string x, y, z].toArray 0) = some (.string x) := fun x y z => by
  unfold part; rw [pureRun_bind E6.P _ _ i9]; rfl
 have p2 : ∀ (x : Value) (y : Int) (z : Value), pureRun E6.P (part 2 [x, .int .i64 y, z].toArray 1) = some (.int .i64 y) := fun x y z => by
  unfold part; rw [pureRun_bind E6.P _ _ i2]; rfl
 have p4 : ∀ (x y : Value) (z : Bool), pureRun E6.P (part 4 [x, y, .bool z].toArray 2) = some (.bool z) := fun x y z => by
  unfold part; rw [pureRun_bind E6.P _ _ i4]; rfl
 unfold Op.equal Op.maxDepth
 rw [pr_struct 9999 36 _ _ (show E6.P.underlying 36 = _ from Tryz.underlying36) hst]
 simp only [Op.eqFields]
 rw [if_pos (by decide), if_pos (by decide), if_pos (by decide)]
 simp only [pureRun_bind2, p9, p2, p4, g9, g2, g4, Option.bind_some]
 by_cases h1 : a = b
 ·by_cases h2 : c = d
  ·by_cases h3 : e = f
   ·simp [h1, h2, h3, pureRun_pure, pureRun_bind2, p9, p2, p4, g9, g2, g4]
   ·simp [h1, h2, h3, pureRun_pure, pureRun_bind2, p9, p2, p4, g9, g2, g4]
  ·simp [h1, h2, pureRun_pure, pureRun_bind2, p9, p2, p4, g9, g2, g4]
 ·simp [h1, pureRun_pure, pureRun_bind2, p9, p2, p4, g9, g2, g4]

section
variable {N : Nat} {f : Nat → Value} {s : Sls} {g : Gm} {n nm : Nat} {k : Sls → Gm → List Nat → List Nat → Prop} {d : Tmp} {ty : TypeId} {pos : String} {af : Array Edge} {gd : Option (Nat × Bool)}
theorem s_neG {t2 : TypeId} {x y : Operand} (p q : Gd) (hx : ov N s x = some (.agg [.string (str p.key), .int .i64 p.rev, .bool p.under].toArray)) (hy : ov N s y = some (.agg [.string (str q.key), .int .i64 q.rev, .bool q.under].toArray))
    (hk : k ((d, .bool (!(decide (p = q)))) :: s) g [] []) : ST N f s g n nm ⟨some d, .binOp .neq 36 x y t2, ty, pos, af, gd⟩ k := by
  have hd : decide (p = q) = decide (p.key = q.key ∧ p.rev = q.rev ∧ p.under = q.under) := by
    cases p; cases q; simp
  rw [hd] at hk
  refine st_bin hx hy rfl rfl rfl ?_ hk
  have h1 : (do eqGuard .neq 36 x y (.agg [.string (str p.key), .int .i64 p.rev, .bool p.under].toArray) (.agg [.string (str q.key), .int .i64 q.rev, .bool q.under].toArray); Go.binOp .neq 36 (.agg [.string (str p.key), .int .i64 p.rev, .bool p.under].toArray) (.agg [.string (str q.key), .int .i64 q.rev, .bool q.under].toArray) : Sem Value) =
      (do (do if !(← program).eqGuardType (← program).depth 36 then return
              if ← Op.eqGuardIn Op.maxDepth 36 (.agg [.string (str p.key), .int .i64 p.rev, .bool p.under].toArray) (.agg [.string (str q.key), .int .i64 q.rev, .bool q.under].toArray) then unsupported (.noEntry "binop/eql: two nil values of an interface type with methods, in a part of a struct or an array") : Sem Unit)
          pure (.bool (!(← Op.equal 36 (.agg [.string (str p.key), .int .i64 p.rev, .bool p.under].toArray) (.agg [.string (str q.key), .int .i64 q.rev, .bool q.under].toArray))))) := rfl
  rw [h1]
  have hg : E6.P.eqGuardType E6.P.depth 36 = false := id (by kernel_rfl)
  simp only [pureRun_bind2, pr_program, Option.bind_some, hg, eq36]
  rfl
end

end Go.Proofs.YtehmailaabjdjaaGreat
end

section
open Go.Proofs
namespace Go.Proofs.YtehmailaabjdjaaGreat
set_option linter.unusedSimpArgs false
set_option linter.unusedVariables false
set_option maxRecDepth 100000

def calC (x : Cal) (gv wv : Value) : List Value := [.int .i64 x.from_, .int .i64 x.id, .int .i64 x.kind, .string (str x.key), .int .i64 x.rev, gv, wv]
structure CalAt (g : Gm) (x : Cal) (gv wv : Value) : Prop where
 gs : GdsRd g gv x.gs
 ws : WrsRd g wv x.ws

section
variable {F : Nat → AObj → Prop} {g g' : Gm} {n n' : Nat} {v w : Value} {gs hs : List Gd} {ws xs : List Wr}

theorem CalAt.kp0 {x : Cal} {gv wv : Value} (h : CalAt g x gv wv) (hk : K0 g n g') (hw : WF g n) : CalAt g' x gv wv := ⟨h.gs.kp0 hk hw, h.ws.kp0 hk hw⟩

theorem bytesEqual_c {bs cs : List UInt8} (h1 : BytesAt g v bs) (h2 : BytesAt g w cs) : C 80 #[v, w] g n fun u g' n' => u = .bool (decide (bs = cs)) ∧ K0 g n g' := by
 refine c_in2 Tryz.func80 rfl Tryz.ntmps80 rfl fun hw => (Na (w_reg 1 rfl rfl (j' := 1) (nA rfl (n_nil (Nc (Na (w_reg 6 rfl rfl (j' := 7) (nM rfl (n_op .no (q := 2) rfl (s_b2s un_26 un_9 un_5 rfl h1 fun tc => (nM rfl (n_op .no (q := 4) rfl (s_b2s un_26 un_9 un_5 rfl h2 fun tc => (nO (s_bin rfl rfl rfl (nA rfl (n_nil (Nc (Nf (z_r1 rfl rfl ?_))))))))))))))))))))
 exact ⟨by rw [str_eq], (by repeat (first | exact Kp.refl _ _ _ | refine Kp.new ?_ (by omega) _))⟩

theorem key_c (k : List UInt8) : C 108 #[.string (str k)] g n fun u g' n' => (∃ r, u = .bool r ∧ (r = true ↔ keyOk k)) ∧ K0 g n g' := by
 have hk := str_size k
 refine c_in1 Tryz.func108 rfl Tryz.ntmps108 rfl fun hw => (Na (w_reg 1 rfl rfl (j' := 1) (nA rfl (n_nil ?_))))
 by_cases h1 : 1 ≤ k.length
 ·refine Nc (Na (w_reg 9 rfl rfl (j' := 10) (nM rfl (nO (s_len rfl rfl un_9 rfl (nO (s_bin rfl rfl rfl (nM rfl (nG rfl rfl (decide_eq_true (by omega)) rfl (nY rfl rfl (decide_eq_true (by omega)) (s_len rfl rfl un_9 rfl (nY rfl rfl (decide_eq_true (by omega)) (s_bin rfl rfl rfl (nO (s_pt rfl (decide_eq_true (by omega)) rfl (nA rfl (n_nil (Nc (Nf (z_r1 rfl rfl ?_))))))))))))))))))))
  exact ⟨⟨_, rfl, by simp only [decide_eq_true_eq, keyOk]; omega⟩, (by repeat (first | exact Kp.refl _ _ _ | refine Kp.new ?_ (by omega) _))⟩
 ·refine Nc (Na (w_reg 9 rfl rfl (j' := 10) (nM rfl (nO (s_len rfl rfl un_9 rfl (nO (s_bin rfl rfl rfl (nM rfl (nSk rfl rfl (decide_eq_false (by omega)) rfl 2 rfl (nO (s_pf rfl (decide_eq_false (by omega)) rfl (nA rfl (n_nil (Nc (Nf (z_r1 rfl rfl ?_))))))))))))))))
  exact ⟨⟨_, rfl, by simp [keyOk]; omega⟩, (by repeat (first | exact Kp.refl _ _ _ | refine Kp.new ?_ (by omega) _))⟩

theorem rev_c (z : Int) : C 109 #[.int .i64 z] g n fun u g' n' => (∃ r, u = .bool r ∧ (r = true ↔ revOk z)) ∧ K0 g n g' := by
 refine c_in1 Tryz.func109 rfl Tryz.ntmps109 rfl fun hw => (Na (w_reg 1 rfl rfl (j' := 1) (nA rfl (n_nil ?_))))
 by_cases h1 : 0 ≤ z
 ·refine Nc (Na (w_reg 7 rfl rfl (j' := 8) (nM rfl (nO (s_bin rfl rfl rfl (nM rfl (nG rfl rfl (decide_eq_true h1) rfl (nY rfl rfl (decide_eq_true h1) (s_bin rfl rfl rfl (nO (s_pt rfl (decide_eq_true h1) rfl (nA rfl (n_nil (Nc (Nf (z_r1 rfl rfl ?_))))))))))))))))
  exact ⟨⟨_, rfl, by simp only [decide_eq_true_eq, revOk]; omega⟩, (by repeat (first | exact Kp.refl _ _ _ | refine Kp.new ?_ (by omega) _))⟩
 ·refine Nc (Na (w_reg 7 rfl rfl (j' := 8) (nM rfl (nO (s_bin rfl rfl rfl (nM rfl (n_sk rfl rfl (decide_eq_false h1) (n_sk rfl rfl (decide_eq_false h1) (nO (s_pf rfl (decide_eq_false h1) rfl (nA rfl (n_nil (Nc (Nf (z_r1 rfl rfl ?_)))))))))))))))
  exact ⟨⟨_, rfl, by simp [revOk]; omega⟩, (by repeat (first | exact Kp.refl _ _ _ | refine Kp.new ?_ (by omega) _))⟩

theorem cut_c (h1 : GdsRd g v gs) (h2 : WrsRd g w ws) : C 28 #[.agg [v, w].toArray] g n fun u g' n' => ∃ v' w', u = .agg [v', w'].toArray ∧ GdsRd g' v' (gs.take 25) ∧ WrsRd g' w' (ws.take 70) ∧ K0 g n g' := by
 obtain ⟨a1, c1, rfl⟩ := h1.len
 obtain ⟨a2, c2, rfl⟩ := h2.len
 obtain ⟨cs, s1, s2⟩ := h1
 obtain ⟨ds, t1, t2⟩ := h2
 refine c_in1 Tryz.func28 rfl Tryz.ntmps28 rfl fun hw => (Na (w_reg 2 rfl rfl (j' := 2) (n_op .no (q := 0) rfl (s_boxa rfl (n_op .no (q := 1) rfl (s_al zl_42 (n_nil (Nc (Na (w_drw (T6 28 1) [(0, []), (1, []), (2, [1]), (3, [1]), (4, [1]), (5, [1]), (6, []), (7, [1, 3, 4, 6]), (8, [1, 3, 4, 6]), (9, [1, 3, 4, 6, 8]), (10, [1, 3, 4, 6, 8]), (11, [1, 3, 4, 6, 8]), (12, [1, 3, 4, 6, 8]), (13, [1, 3, 4, 6]), (14, []), (15, [])] 16 (by kernel_rfl) rfl rfl (j' := 18) (dO rfl rfl (s_fa0 rfl fo_42_0 ⟨⟨rfl, rfl⟩, (dT rfl rfl rfl (sL rfl ag_37 ⟨clash_nil, ?_⟩))⟩))))))))))))
 refine dO rfl rfl (s_fa0 rfl fo_42_0 ⟨⟨rfl, rfl⟩, (dT rfl rfl rfl (sL rfl ag_37 ⟨clash_rd rfl, ?_⟩))⟩)
 refine dT rfl rfl rfl (s_len rfl rfl un_37 rfl ⟨clash_rd rfl, (dO rfl rfl (s_min rfl rfl (c := ((min gs.length 25 : Nat) : Int)) (by omega) ⟨⟨rfl, rfl⟩, (d_tc rfl rfl rfl .no (q := 8) rfl (s_hiC un_37 sz_36 rfl s1 rfl (Nat.min_le_left _ _) fun a c hs hn => ⟨clash_nil, (dO rfl rfl (s_fa0 rfl fo_42_1 ⟨⟨rfl, rfl⟩, (dT rfl rfl rfl (sL rfl ag_40 ⟨clash_rd rfl, ?_⟩))⟩))⟩))⟩))⟩)
 refine dO rfl rfl (s_fa0 rfl fo_42_1 ⟨⟨rfl, rfl⟩, (dT rfl rfl rfl (sL rfl ag_40 ⟨clash_rd rfl, ?_⟩))⟩)
 refine dT rfl rfl rfl (s_len rfl rfl un_40 rfl ⟨clash_rd rfl, (dO rfl rfl (s_min rfl rfl (c := ((min ws.length 70 : Nat) : Int)) (by omega) ⟨⟨rfl, rfl⟩, (d_tc rfl rfl rfl .no (q := 15) rfl (s_hiC un_40 sz_39 rfl t1 rfl (Nat.min_le_left _ _) fun a' c' hs' hn' => ⟨clash_rd rfl, (dO rfl rfl (s_bld pl_42 zl_42 rfl rfl rfl ⟨⟨rfl, rfl⟩, (dT rfl rfl rfl (sSw rfl rfl sz_42 rfl rfl ⟨clash_nil, ?_⟩))⟩))⟩))⟩))⟩)
 refine d_nil (Nc (Nf (z_rc rfl rfl (by repeat first | exact gS | refine gN (by omega) ?_) ag_42 sz_42 (by exact rfl) (by exact Nat.le_of_ble_eq_true rfl) ?_)))
 have e1 : (gs.take 25).length = min gs.length 25 := by rw [List.length_take, Nat.min_comm]
 have e2 : (ws.take 70).length = min ws.length 70 := by rw [List.length_take, Nat.min_comm]
 have r1 : GdsRd g (.slice a (min gs.length 25) c) (gs.take 25) := by
  refine ⟨_, ?_, Rows.take 25 s2⟩
  rw [e1]
  have : cs.take (min gs.length 25 * 3) = cs.take (25 * 3) := by
   have := s2.length
   rcases Nat.le_total gs.length 25 with h | h
   ·rw [Nat.min_eq_left h, ← this, List.take_length, List.take_of_length_le (by omega)]
   ·rw [Nat.min_eq_right h]
  rw [← this]; exact hs
 have r2 : WrsRd g (.slice a' (min ws.length 70) c') (ws.take 70) := by
  refine ⟨_, ?_, Rows.take 70 t2⟩
  rw [e2]
  have : ds.take (min ws.length 70 * 3) = ds.take (70 * 3) := by
   have := t2.length
   rcases Nat.le_total ws.length 70 with h | h
   ·rw [Nat.min_eq_left h, ← this, List.take_length, List.take_of_length_le (by omega)]
   ·rw [Nat.min_eq_right h]
  rw [← this]; exact hs'
 exact ⟨_, _, rfl, r1.kp0 (n := n) (by repeat (first | exact Kp.refl _ _ _ | refine Kp.new ?_ (by omega) _)) hw, r2.kp0 (n := n) (by repeat (first | exact Kp.refl _ _ _ | refine Kp.new ?_ (by omega) _)) hw, (by repeat (first | exact Kp.refl _ _ _ | refine Kp.new ?_ (by omega) _))⟩

theorem gdsEq_c (h1 : GdsRd g v gs) (h2 : GdsRd g w hs) (hn : gs.length < 2 ^ 40) : C 85 #[v, w] g n fun u g' n' => (∃ r, u = .bool r ∧ (r = true ↔ gs = hs)) ∧ K0 g n g' := by
 obtain ⟨a1, c1, rfl⟩ := h1.len
 obtain ⟨a2, c2, rfl⟩ := h2.len
 refine c_in2 Tryz.func85 rfl Tryz.ntmps85 rfl fun hw => (Na (w_reg 1 rfl rfl (j' := 1) (nA rfl (n_nil (Nc (Na (Na (w_reg 5 rfl rfl (j' := 6) (nM rfl (nO (s_len rfl rfl un_37 rfl (nM rfl (nO (s_len rfl rfl un_37 rfl (nO (s_bin rfl rfl rfl (n_nil ?_)))))))))))))))))
 by_cases hl : gs.length = hs.length
 ·refine Nc (w_no rfl (bne_eq_false_iff_eq.2 (by omega)) (Ne (Nc (Na (Na (w_reg 3 rfl rfl (j' := 9) (nM rfl (nO (s_len rfl rfl un_37 rfl (nM rfl (n_nil ?_)))))))))))
  repeat first | refine Na ?_ | refine Nb ?_ | refine Nc ?_ | refine Nd ?_ | refine Ne ?_
  refine w_loop (β := Nat) (fun i => [(0, .slice a1 gs.length c1), (1, .slice a2 hs.length c2), (12, .int .i64 gs.length), (13, .int .i64 i)])
   (fun i g' n' => i ≤ gs.length ∧ n ≤ n' ∧ K0 g n g' ∧ gs.take i = hs.take i) (fun i => gs.length - i) 0 ⟨rfl, rfl, rfl, rfl, trivial⟩ ⟨by omega, by omega, (by repeat (first | exact Kp.refl _ _ _ | refine Kp.new ?_ (by omega) _)), rfl⟩ ?_
  rintro i f g1 n1 hw1 ⟨hi, hn1, k1, ht⟩
  repeat first | refine Na ?_ | refine Nb ?_ | refine Nc ?_ | refine Nd ?_ | refine Ne ?_
  refine w_reg 1 rfl rfl (j' := 1) (nO (s_bin rfl rfl rfl (n_nil (Nc (Na (w_if rfl (fun hb => ?_) (fun hb => ?_)))))))
  ·have hi : i < gs.length := by simpa using hb
   have hi2 : i < hs.length := by omega
   obtain ⟨l3, o3, c3, cl3, ro3, x1, x2, x0, x5⟩ := (h1.kp0 k1 hw).at hi
   cases x1
   obtain ⟨l4, o4, c4, cl4, ro4, y1, y2, y0, y5⟩ := (h2.kp0 k1 hw).at hi2
   cases y1
   repeat first | refine Na ?_ | refine Nb ?_ | refine Nc ?_ | refine Nd ?_ | refine Ne ?_
   refine w_reg 2 rfl rfl (j' := 3) (nM rfl (nA rfl (n_nil (Nc (Na (w_drw (T6 85 6) [(0, []), (1, []), (2, []), (3, []), (4, [3]), (5, [3]), (6, [3]), (7, [3]), (8, [])] 9 (by kernel_rfl) rfl rfl (j' := 12) (dM rfl rfl (dM rfl rfl (dO rfl rfl (s_ia rfl rfl el_37 (by first | assumption | omega) ⟨⟨rfl, rfl⟩, (dT rfl rfl rfl (sLa rfl ag_36 sz_36 ⟨clash_nil, ?_⟩))⟩))))))))))
   refine dM rfl rfl (dM rfl rfl (dO rfl rfl (s_ia rfl rfl el_37 (by first | assumption | omega) ⟨⟨rfl, rfl⟩, (dT rfl rfl rfl (sLa rfl ag_36 sz_36 ⟨clash_rd rfl, ?_⟩))⟩)))
   refine dO rfl rfl (s_neG gs[i] hs[i] rfl rfl ⟨⟨rfl, rfl⟩, (d_nil ?_)⟩)
   by_cases he : gs[i] = hs[i]
   ·refine Nc (w_no rfl (by simp [he]) ?_)
    repeat first | refine Na ?_ | refine Nb ?_ | refine Nc ?_ | refine Nd ?_ | refine Ne ?_
    repeat first | refine Na ?_ | refine Nb ?_ | refine Nc ?_ | refine Nd ?_ | refine Ne ?_
    refine w_reg 2 rfl rfl (j' := 14) (nO (s_bin rfl rfl (by first | exact bi_inc (by omega) | exact bi_add rfl (by omega) (by omega)) ?_))
    refine nM rfl (n_nil ?_)
    exact z_round (i + 1) ⟨rfl, rfl, rfl, rfl, trivial⟩ ⟨hi, by omega, k1, by rw [List.take_succ_eq_append_getElem hi, List.take_succ_eq_append_getElem hi2, ht, he]⟩ (by omega)
   ·refine Nc (w_yes rfl (by simp [he]) (Na (w_reg 1 rfl rfl (j' := 13) (nA rfl (n_nil (Nc (Nf (z_r1 rfl rfl ?_))))))))
    exact ⟨⟨_, rfl, ⟨fun h => (by cases h), fun h => absurd (by simp only [h]) he⟩⟩, k1⟩
  ·refine w_exit rfl ?_
   repeat first | refine Na ?_ | refine Nb ?_ | refine Nc ?_ | refine Nd ?_ | refine Ne ?_
   refine w_reg 1 rfl rfl (j' := 2) (nA rfl (n_nil (Nc (Nf (z_r1 rfl rfl ?_)))))
   have : i = gs.length := by simp at hb; omega
   subst this
   rw [List.take_length, hl, List.take_length] at ht
   exact ⟨⟨_, rfl, ⟨fun _ => ht, fun _ => rfl⟩⟩, k1⟩
 ·refine Nc (w_yes rfl (bne_iff_ne.2 (by omega)) (Na (w_reg 1 rfl rfl (j' := 7) (nA rfl (n_nil (Nc (Nf (z_r1 rfl rfl ?_))))))))
  exact ⟨⟨_, rfl, ⟨fun h => (by cases h), fun h => absurd (by rw [h]) hl⟩⟩, (by repeat (first | exact Kp.refl _ _ _ | refine Kp.new ?_ (by omega) _))⟩

theorem wrEq_c {x y : Wr} (h1 : BytesAt g v x.val) (h2 : BytesAt g w y.val) : C 87 #[.agg (wrC x v).toArray, .agg (wrC y w).toArray] g n fun u g' n' => (∃ r, u = .bool r ∧ (r = true ↔ x = y)) ∧ K0 g n g' := by
 refine c_in2 Tryz.func87 rfl Tryz.ntmps87 rfl fun hw => (Na (w_reg 3 rfl rfl (j' := 3) (n_op .no (q := 0) rfl (s_boxa rfl (n_op .no (q := 1) rfl (s_boxa rfl (nA rfl (n_nil ?_))))))))
 by_cases a2 : x.key = y.key
 ·by_cases a3 : x.val = y.val
  ·refine Nc (Na (w_reg 20 rfl rfl (j' := 23) (nO (s_fa0 rfl fo_39_0 (nO (sL rfl ag_9 ?_))))))
   refine nO (s_fa0 rfl fo_39_0 (nO (sL rfl ag_9 ?_)))
   refine nO (s_bin rfl rfl rfl (nM rfl (nY rfl rfl (str_t a2) (s_fa0 rfl fo_39_1 (nY rfl rfl (str_t a2) (sL rfl ag_26 ?_))))))
   refine nY rfl rfl (str_t a2) (s_fa0 rfl fo_39_1 (nY rfl rfl (str_t a2) (sL rfl ag_26 ?_)))
   refine n_call (.yes rfl rfl (str_t a2)) rfl rfl rfl (C.use (bytesEqual_c (BytesAt.kp0 h1 (by repeat (first | exact Kp.refl _ _ _ | refine Kp.new ?_ (by omega) _)) hw) (BytesAt.kp0 h2 (by repeat (first | exact Kp.refl _ _ _ | refine Kp.new ?_ (by omega) _)) hw)) fun v g1 n1 hw1 hn1 hq => ?_)
   obtain ⟨rfl, k1⟩ := hq
   refine nO (s_pt rfl (str_t a2) rfl (nM rfl (nY rfl rfl (decide_eq_true a3) (s_fa0 rfl fo_39_2 (nY rfl rfl (decide_eq_true a3) (s_ld rfl (by repeat first | exact gS | refine Kp.lt k1 (by omega) ?_ | refine gN (by omega) ?_) ag_4 (by first | exact rfl) ?_))))))
   refine nY rfl rfl (decide_eq_true a3) (s_fa0 rfl fo_39_2 (nY rfl rfl (decide_eq_true a3) (s_ld rfl (by repeat first | exact gS | refine Kp.lt k1 (by omega) ?_ | refine gN (by omega) ?_) ag_4 (by first | exact rfl) ?_)))
   refine nY rfl rfl (decide_eq_true a3) (s_bin rfl rfl (bi_d un_4 rfl) ?_)
   refine nO (s_pt rfl (decide_eq_true a3) rfl (nA rfl (n_nil (Nc (Nf (z_r1 rfl rfl ?_))))))
   refine ⟨⟨_, rfl, ⟨fun h => ?_, fun h => by rw [h]; simp⟩⟩, Kp.trans0 (by repeat (first | exact Kp.refl _ _ _ | refine Kp.new ?_ (by omega) _)) k1 (by omega)⟩
   have a4 : x.gone = y.gone := by simpa using h
   cases x; cases y; simp_all
  ·refine Nc (Na (w_reg 20 rfl rfl (j' := 23) (nO (s_fa0 rfl fo_39_0 (nO (sL rfl ag_9 ?_))))))
   refine nO (s_fa0 rfl fo_39_0 (nO (sL rfl ag_9 ?_)))
   refine nO (s_bin rfl rfl rfl (nM rfl (nY rfl rfl (str_t a2) (s_fa0 rfl fo_39_1 (nY rfl rfl (str_t a2) (sL rfl ag_26 ?_))))))
   refine nY rfl rfl (str_t a2) (s_fa0 rfl fo_39_1 (nY rfl rfl (str_t a2) (sL rfl ag_26 ?_)))
   refine n_call (.yes rfl rfl (str_t a2)) rfl rfl rfl (C.use (bytesEqual_c (BytesAt.kp0 h1 (by repeat (first | exact Kp.refl _ _ _ | refine Kp.new ?_ (by omega) _)) hw) (BytesAt.kp0 h2 (by repeat (first | exact Kp.refl _ _ _ | refine Kp.new ?_ (by omega) _)) hw)) fun v g1 n1 hw1 hn1 hq => ?_)
   obtain ⟨rfl, k1⟩ := hq
   refine nO (s_pt rfl (str_t a2) rfl (nM rfl (nSk rfl rfl (decide_eq_false a3) rfl 4 rfl (nO (s_pf rfl (decide_eq_false a3) rfl (nA rfl (n_nil (Nc (Nf (z_r1 rfl rfl ?_))))))))))
   exact ⟨⟨_, rfl, ⟨fun h => by simp at h, fun h => absurd (by rw [h]) a3⟩⟩, Kp.trans0 (by repeat (first | exact Kp.refl _ _ _ | refine Kp.new ?_ (by omega) _)) k1 (by omega)⟩
 ·refine Nc (Na (w_reg 20 rfl rfl (j' := 23) (nO (s_fa0 rfl fo_39_0 (nO (sL rfl ag_9 ?_))))))
  refine nO (s_fa0 rfl fo_39_0 (nO (sL rfl ag_9 ?_)))
  refine nO (s_bin rfl rfl rfl (nM rfl (nSk rfl rfl (str_f a2) rfl 4 rfl (nO (s_pf rfl (str_f a2) rfl (nM rfl (nSk rfl rfl (rfl) rfl 4 rfl (nO (s_pf rfl (rfl) rfl (nA rfl (n_nil (Nc (Nf (z_r1 rfl rfl ?_))))))))))))))
  exact ⟨⟨_, rfl, ⟨fun h => by simp at h, fun h => absurd (by rw [h]) a2⟩⟩, (by repeat (first | exact Kp.refl _ _ _ | refine Kp.new ?_ (by omega) _))⟩

theorem wrsEq_c (h1 : WrsRd g v ws) (h2 : WrsRd g w xs) (hn : ws.length < 2 ^ 40) : C 86 #[v, w, .func (.func 87) #[] #[]] g n fun u g' n' => (∃ r, u = .bool r ∧ (r = true ↔ ws = xs)) ∧ K0 g n g' := by
 obtain ⟨a1, c1, rfl⟩ := h1.len
 obtain ⟨a2, c2, rfl⟩ := h2.len
 refine c_in3 Tryz.func86 rfl Tryz.ntmps86 rfl fun hw => (Na (w_reg 1 rfl rfl (j' := 1) (nA rfl (n_nil (Nc (Na (Na (w_reg 5 rfl rfl (j' := 6) (nM rfl (nO (s_len rfl rfl un_40 rfl (nM rfl (nO (s_len rfl rfl un_40 rfl (nO (s_bin rfl rfl rfl (n_nil ?_)))))))))))))))))
 by_cases hl : ws.length = xs.length
 ·refine Nc (w_no rfl (bne_eq_false_iff_eq.2 (by omega)) (Ne (Nc (Na (Na (w_reg 3 rfl rfl (j' := 9) (nM rfl (nO (s_len rfl rfl un_40 rfl (nM rfl (n_nil ?_)))))))))))
  repeat first | refine Na ?_ | refine Nb ?_ | refine Nc ?_ | refine Nd ?_ | refine Ne ?_
  refine w_loop (β := Nat) (fun i => [(1, .slice a2 xs.length c2), (2, .func (.func 87) #[] #[]), (15, .slice a1 ws.length c1), (16, .int .i64 ws.length), (17, .int .i64 i)])
   (fun i g' n' => i ≤ ws.length ∧ n ≤ n' ∧ K0 g n g' ∧ ws.take i = xs.take i) (fun i => ws.length - i) 0 ⟨rfl, rfl, rfl, rfl, rfl, trivial⟩ ⟨by omega, by omega, (by repeat (first | exact Kp.refl _ _ _ | refine Kp.new ?_ (by omega) _)), rfl⟩ ?_
  rintro i f g1 n1 hw1 ⟨hi, hn1, k1, ht⟩
  repeat first | refine Na ?_ | refine Nb ?_ | refine Nc ?_ | refine Nd ?_ | refine Ne ?_
  refine w_reg 1 rfl rfl (j' := 1) (nO (s_bin rfl rfl rfl (n_nil (Nc (Na (w_if rfl (fun hb => ?_) (fun hb => ?_)))))))
  ·have hi : i < ws.length := by simpa using hb
   have hi2 : i < xs.length := by omega
   obtain ⟨l3, o3, c3, cl3, ro3, p3, q3, x1, x2, x0, x5, x6⟩ := (h1.kp0 k1 hw).at hi
   cases x1
   obtain ⟨l4, o4, c4, cl4, ro4, p4, q4, y1, y2, y0, y5, y6⟩ := (h2.kp0 k1 hw).at hi2
   cases y1
   have hx2 := hw1 _ _ x2
   have hy2 := hw1 _ _ y2
   repeat first | refine Na ?_ | refine Nb ?_ | refine Nc ?_ | refine Nd ?_ | refine Ne ?_
   refine w_reg 6 rfl rfl (j' := 7) (nM rfl (nO (s_ia rfl rfl el_40 (by first | assumption | omega) (nO (sLa rfl ag_39 sz_39 ?_)))))
   refine n_op .no (q := 4) rfl (s_al zl_39 (nA rfl (nO (sSw rfl rfl sz_39 rfl rfl ?_))))
   refine n_nil (Nc (Na (w_reg 6 rfl rfl (j' := 13) (nM rfl (nM rfl (nO (s_ia rfl rfl el_40 (by first | assumption | omega) (nO (sLa rfl ag_39 sz_39 ?_)))))))))
   refine n_op .no (q := 11) rfl (s_al zl_39 (nO (sSw rfl rfl sz_39 rfl rfl ?_)))
   refine n_nil (Nc (Na (w_reg 5 rfl rfl (j' := 18) (nM rfl (nO (sLf rfl ag_39 sz_39 ?_))))))
   refine nO (sLf rfl ag_39 sz_39 ?_)
   refine n_callv .no rfl rfl rfl rfl rfl rfl (C.use (wrEq_c (BytesAt.kp0 x6 (by repeat (first | exact Kp.refl _ _ _ | refine Kp.new ?_ (by omega) _)) hw1) (BytesAt.kp0 y6 (by repeat (first | exact Kp.refl _ _ _ | refine Kp.new ?_ (by omega) _)) hw1)) fun v g2 n2 hw2 hn2 hq => ?_)
   obtain ⟨⟨r, rfl, hr⟩, k2⟩ := hq
   have k3 : K0 g n g2 := k1.trans0 (n' := n1) (Kp.trans0 (by repeat (first | exact Kp.refl _ _ _ | refine Kp.new ?_ (by omega) _)) k2 (by omega)) (by omega)
   refine nO (s_not rfl (n_nil ?_))
   by_cases he : ws[i] = xs[i]
   ·refine Nc (w_no rfl (by simp [hr.2 he]) ?_)
    repeat first | refine Na ?_ | refine Nb ?_ | refine Nc ?_ | refine Nd ?_ | refine Ne ?_
    repeat first | refine Na ?_ | refine Nb ?_ | refine Nc ?_ | refine Nd ?_ | refine Ne ?_
    refine w_reg 2 rfl rfl (j' := 2) (nO (s_bin rfl rfl (by first | exact bi_inc (by omega) | exact bi_add rfl (by omega) (by omega)) ?_))
    refine nM rfl (n_nil ?_)
    exact z_round (i + 1) ⟨rfl, rfl, rfl, rfl, rfl, trivial⟩ ⟨hi, by omega, k3, by rw [List.take_succ_eq_append_getElem hi, List.take_succ_eq_append_getElem hi2, ht, he]⟩ (by omega)
   ·have hrf : r = false := by
     cases r with
     | false => rfl
     | true => exact absurd (hr.1 rfl) he
    refine Nc (w_yes rfl (by simp [hrf]) (Na (w_reg 1 rfl rfl (j' := 1) (nA rfl (n_nil (Nc (Nf (z_r1 rfl rfl ?_))))))))
    exact ⟨⟨_, rfl, ⟨fun h => (by cases h), fun h => absurd (by simp only [h]) he⟩⟩, k3⟩
  ·refine w_exit rfl ?_
   repeat first | refine Na ?_ | refine Nb ?_ | refine Nc ?_ | refine Nd ?_ | refine Ne ?_
   refine w_reg 1 rfl rfl (j' := 2) (nA rfl (n_nil (Nc (Nf (z_r1 rfl rfl ?_)))))
   have : i = ws.length := by simp at hb; omega
   subst this
   rw [List.take_length, hl, List.take_length] at ht
   exact ⟨⟨_, rfl, ⟨fun _ => ht, fun _ => rfl⟩⟩, k1⟩
 ·refine Nc (w_yes rfl (bne_iff_ne.2 (by omega)) (Na (w_reg 1 rfl rfl (j' := 7) (nA rfl (n_nil (Nc (Nf (z_r1 rfl rfl ?_))))))))
  exact ⟨⟨_, rfl, ⟨fun h => (by cases h), fun h => absurd (by rw [h]) hl⟩⟩, (by repeat (first | exact Kp.refl _ _ _ | refine Kp.new ?_ (by omega) _))⟩

end

theorem strn_t {a b : List UInt8} (h : a ≠ b) : (!((str a).toList == (str b).toList)) = true := by rw [str_eq]; simpa using h
theorem strn_f {a b : List UInt8} (h : a = b) : (!((str a).toList == (str b).toList)) = false := by rw [str_eq]; simpa using h

theorem callEq_c {g : Gm} {n : Nat} {x y : Cal} {gv wv gw ww : Value} (h1 : CalAt g x gv wv) (h2 : CalAt g y gw ww) (hn : x.gs.length < 2 ^ 40 ∧ x.ws.length < 2 ^ 40) :
  C 46 #[.agg (calC x gv wv).toArray, .agg (calC y gw ww).toArray] g n fun u g' n' => (∃ r, u = .bool r ∧ (r = true ↔ x = y)) ∧ K0 g n g' := by
 refine c_in2 Tryz.func46 rfl Tryz.ntmps46 rfl fun hw => (Na (w_reg 3 rfl rfl (j' := 3) (n_op .no (q := 0) rfl (s_boxa rfl (n_op .no (q := 1) rfl (s_boxa rfl (nA rfl (n_nil ?_))))))))
 by_cases a1 : x.from_ = y.from_
 rotate_left
 ·refine Nc (Na (Na (w_reg 43 rfl rfl (j' := 46) (nO (s_fa0 rfl fo_55_0 (nO (sL rfl ag_3 ?_)))))))
  refine nO (s_fa0 rfl fo_55_0 (nO (sL rfl ag_3 ?_)))
  refine nO (s_bin rfl rfl rfl (nM rfl (nSk rfl rfl (bne_iff_ne.2 a1) rfl 4 rfl (nO (s_pt rfl (bne_iff_ne.2 a1) rfl (nM rfl (nSk rfl rfl (rfl) rfl 4 rfl (nO (s_pt rfl (rfl) rfl (nM rfl (nSk rfl rfl (rfl) rfl 4 rfl (nO (s_pt rfl (rfl) rfl (nM rfl (nSk rfl rfl (rfl) rfl 4 rfl (nO (s_pt rfl (rfl) rfl (nM rfl (nSk rfl rfl (rfl) rfl 7 rfl (nO (s_pt rfl (rfl) rfl (n_nil (Nc (w_yes rfl (rfl) (Na (w_reg 1 rfl rfl (j' := 47) (nA rfl (n_nil (Nc (Nf (z_r1 rfl rfl ?_)))))))))))))))))))))))))))))))
  exact ⟨⟨_, rfl, ⟨fun h => (by cases h), fun h => absurd (by rw [h]) a1⟩⟩, (by repeat (first | exact Kp.refl _ _ _ | refine Kp.new ?_ (by omega) _))⟩
 by_cases a2 : x.id = y.id
 rotate_left
 ·refine Nc (Na (Na (w_reg 43 rfl rfl (j' := 46) (nO (s_fa0 rfl fo_55_0 (nO (sL rfl ag_3 ?_)))))))
  refine nO (s_fa0 rfl fo_55_0 (nO (sL rfl ag_3 ?_)))
  refine nO (s_bin rfl rfl rfl (nM rfl (nY rfl rfl (bne_eq_false_iff_eq.2 a1) (s_fa0 rfl fo_55_1 (nY rfl rfl (bne_eq_false_iff_eq.2 a1) (sL rfl ag_2 ?_))))))
  refine nY rfl rfl (bne_eq_false_iff_eq.2 a1) (s_fa0 rfl fo_55_1 (nY rfl rfl (bne_eq_false_iff_eq.2 a1) (sL rfl ag_2 ?_)))
  refine nY rfl rfl (bne_eq_false_iff_eq.2 a1) (s_bin rfl rfl rfl (nO (s_pf rfl (bne_eq_false_iff_eq.2 a1) rfl (nM rfl (nSk rfl rfl (bne_iff_ne.2 a2) rfl 4 rfl (nO (s_pt rfl (bne_iff_ne.2 a2) rfl (nM rfl (nSk rfl rfl (rfl) rfl 4 rfl (nO (s_pt rfl (rfl) rfl (nM rfl (nSk rfl rfl (rfl) rfl 4 rfl (nO (s_pt rfl (rfl) rfl (nM rfl (nSk rfl rfl (rfl) rfl 7 rfl (nO (s_pt rfl (rfl) rfl (n_nil (Nc (w_yes rfl (rfl) (Na (w_reg 1 rfl rfl (j' := 47) (nA rfl (n_nil (Nc (Nf (z_r1 rfl rfl ?_)))))))))))))))))))))))))))))
  exact ⟨⟨_, rfl, ⟨fun h => (by cases h), fun h => absurd (by rw [h]) a2⟩⟩, (by repeat (first | exact Kp.refl _ _ _ | refine Kp.new ?_ (by omega) _))⟩
 by_cases a3 : x.kind = y.kind
 rotate_left
 ·refine Nc (Na (Na (w_reg 43 rfl rfl (j' := 46) (nO (s_fa0 rfl fo_55_0 (nO (sL rfl ag_3 ?_)))))))
  refine nO (s_fa0 rfl fo_55_0 (nO (sL rfl ag_3 ?_)))
  refine nO (s_bin rfl rfl rfl (nM rfl (nY rfl rfl (bne_eq_false_iff_eq.2 a1) (s_fa0 rfl fo_55_1 (nY rfl rfl (bne_eq_false_iff_eq.2 a1) (sL rfl ag_2 ?_))))))
  refine nY rfl rfl (bne_eq_false_iff_eq.2 a1) (s_fa0 rfl fo_55_1 (nY rfl rfl (bne_eq_false_iff_eq.2 a1) (sL rfl ag_2 ?_)))
  refine nY rfl rfl (bne_eq_false_iff_eq.2 a1) (s_bin rfl rfl rfl (nO (s_pf rfl (bne_eq_false_iff_eq.2 a1) rfl (nM rfl (nY rfl rfl (bne_eq_false_iff_eq.2 a2) (s_fa0 rfl fo_55_2 (nY rfl rfl (bne_eq_false_iff_eq.2 a2) (sL rfl ag_3 ?_))))))))
  refine nY rfl rfl (bne_eq_false_iff_eq.2 a2) (s_fa0 rfl fo_55_2 (nY rfl rfl (bne_eq_false_iff_eq.2 a2) (sL rfl ag_3 ?_)))
  refine nY rfl rfl (bne_eq_false_iff_eq.2 a2) (s_bin rfl rfl rfl (nO (s_pf rfl (bne_eq_false_iff_eq.2 a2) rfl (nM rfl (nSk rfl rfl (bne_iff_ne.2 a3) rfl 4 rfl (nO (s_pt rfl (bne_iff_ne.2 a3) rfl (nM rfl (nSk rfl rfl (rfl) rfl 4 rfl (nO (s_pt rfl (rfl) rfl (nM rfl (nSk rfl rfl (rfl) rfl 7 rfl (nO (s_pt rfl (rfl) rfl (n_nil (Nc (w_yes rfl (rfl) (Na (w_reg 1 rfl rfl (j' := 47) (nA rfl (n_nil (Nc (Nf (z_r1 rfl rfl ?_)))))))))))))))))))))))))
  exact ⟨⟨_, rfl, ⟨fun h => (by cases h), fun h => absurd (by rw [h]) a3⟩⟩, (by repeat (first | exact Kp.refl _ _ _ | refine Kp.new ?_ (by omega) _))⟩
 by_cases a4 : x.key = y.key
 rotate_left
 ·refine Nc (Na (Na (w_reg 43 rfl rfl (j' := 46) (nO (s_fa0 rfl fo_55_0 (nO (sL rfl ag_3 ?_)))))))
  refine nO (s_fa0 rfl fo_55_0 (nO (sL rfl ag_3 ?_)))
  refine nO (s_bin rfl rfl rfl (nM rfl (nY rfl rfl (bne_eq_false_iff_eq.2 a1) (s_fa0 rfl fo_55_1 (nY rfl rfl (bne_eq_false_iff_eq.2 a1) (sL rfl ag_2 ?_))))))
  refine nY rfl rfl (bne_eq_false_iff_eq.2 a1) (s_fa0 rfl fo_55_1 (nY rfl rfl (bne_eq_false_iff_eq.2 a1) (sL rfl ag_2 ?_)))
  refine nY rfl rfl (bne_eq_false_iff_eq.2 a1) (s_bin rfl rfl rfl (nO (s_pf rfl (bne_eq_false_iff_eq.2 a1) rfl (nM rfl (nY rfl rfl (bne_eq_false_iff_eq.2 a2) (s_fa0 rfl fo_55_2 (nY rfl rfl (bne_eq_false_iff_eq.2 a2) (sL rfl ag_3 ?_))))))))
  refine nY rfl rfl (bne_eq_false_iff_eq.2 a2) (s_fa0 rfl fo_55_2 (nY rfl rfl (bne_eq_false_iff_eq.2 a2) (sL rfl ag_3 ?_)))
  refine nY rfl rfl (bne_eq_false_iff_eq.2 a2) (s_bin rfl rfl rfl (nO (s_pf rfl (bne_eq_false_iff_eq.2 a2) rfl (nM rfl (nY rfl rfl (bne_eq_false_iff_eq.2 a3) (s_fa0 rfl fo_55_3 (nY rfl rfl (bne_eq_false_iff_eq.2 a3) (sL rfl ag_9 ?_))))))))
  refine nY rfl rfl (bne_eq_false_iff_eq.2 a3) (s_fa0 rfl fo_55_3 (nY rfl rfl (bne_eq_false_iff_eq.2 a3) (sL rfl ag_9 ?_)))
  refine nY rfl rfl (bne_eq_false_iff_eq.2 a3) (s_bin rfl rfl rfl (nO (s_pf rfl (bne_eq_false_iff_eq.2 a3) rfl (nM rfl (nSk rfl rfl (strn_t a4) rfl 4 rfl (nO (s_pt rfl (strn_t a4) rfl (nM rfl (nSk rfl rfl (rfl) rfl 7 rfl (nO (s_pt rfl (rfl) rfl (n_nil (Nc (w_yes rfl (rfl) (Na (w_reg 1 rfl rfl (j' := 47) (nA rfl (n_nil (Nc (Nf (z_r1 rfl rfl ?_)))))))))))))))))))))
  exact ⟨⟨_, rfl, ⟨fun h => (by cases h), fun h => absurd (by rw [h]) a4⟩⟩, (by repeat (first | exact Kp.refl _ _ _ | refine Kp.new ?_ (by omega) _))⟩
 by_cases a5 : x.rev = y.rev
 rotate_left
 ·refine Nc (Na (Na (w_reg 43 rfl rfl (j' := 46) (nO (s_fa0 rfl fo_55_0 (nO (sL rfl ag_3 ?_)))))))
  refine nO (s_fa0 rfl fo_55_0 (nO (sL rfl ag_3 ?_)))
  refine nO (s_bin rfl rfl rfl (nM rfl (nY rfl rfl (bne_eq_false_iff_eq.2 a1) (s_fa0 rfl fo_55_1 (nY rfl rfl (bne_eq_false_iff_eq.2 a1) (sL rfl ag_2 ?_))))))
  refine nY rfl rfl (bne_eq_false_iff_eq.2 a1) (s_fa0 rfl fo_55_1 (nY rfl rfl (bne_eq_false_iff_eq.2 a1) (sL rfl ag_2 ?_)))
  refine nY rfl rfl (bne_eq_false_iff_eq.2 a1) (s_bin rfl rfl rfl (nO (s_pf rfl (bne_eq_false_iff_eq.2 a1) rfl (nM rfl (nY rfl rfl (bne_eq_false_iff_eq.2 a2) (s_fa0 rfl fo_55_2 (nY rfl rfl (bne_eq_false_iff_eq.2 a2) (sL rfl ag_3 ?_))))))))
  refine nY rfl rfl (bne_eq_false_iff_eq.2 a2) (s_fa0 rfl fo_55_2 (nY rfl rfl (bne_eq_false_iff_eq.2 a2) (sL rfl ag_3 ?_)))
  refine nY rfl rfl (bne_eq_false_iff_eq.2 a2) (s_bin rfl rfl rfl (nO (s_pf rfl (bne_eq_false_iff_eq.2 a2) rfl (nM rfl (nY rfl rfl (bne_eq_false_iff_eq.2 a3) (s_fa0 rfl fo_55_3 (nY rfl rfl (bne_eq_false_iff_eq.2 a3) (sL rfl ag_9 ?_))))))))
  refine nY rfl rfl (bne_eq_false_iff_eq.2 a3) (s_fa0 rfl fo_55_3 (nY rfl rfl (bne_eq_false_iff_eq.2 a3) (sL rfl ag_9 ?_)))
  refine nY rfl rfl (bne_eq_false_iff_eq.2 a3) (s_bin rfl rfl rfl (nO (s_pf rfl (bne_eq_false_iff_eq.2 a3) rfl (nM rfl (nY rfl rfl (strn_f a4) (s_fa0 rfl fo_55_4 (nY rfl rfl (strn_f a4) (sL rfl ag_2 ?_))))))))
  refine nY rfl rfl (strn_f a4) (s_fa0 rfl fo_55_4 (nY rfl rfl (strn_f a4) (sL rfl ag_2 ?_)))
  refine nY rfl rfl (strn_f a4) (s_bin rfl rfl rfl (nO (s_pf rfl (strn_f a4) rfl (nM rfl (nSk rfl rfl (bne_iff_ne.2 a5) rfl 7 rfl (nO (s_pt rfl (bne_iff_ne.2 a5) rfl (n_nil (Nc (w_yes rfl (rfl) (Na (w_reg 1 rfl rfl (j' := 47) (nA rfl (n_nil (Nc (Nf (z_r1 rfl rfl ?_)))))))))))))))))
  exact ⟨⟨_, rfl, ⟨fun h => (by cases h), fun h => absurd (by rw [h]) a5⟩⟩, (by repeat (first | exact Kp.refl _ _ _ | refine Kp.new ?_ (by omega) _))⟩
 refine Nc (Na (Na (w_reg 43 rfl rfl (j' := 46) (nO (s_fa0 rfl fo_55_0 (nO (sL rfl ag_3 ?_)))))))
 refine nO (s_fa0 rfl fo_55_0 (nO (sL rfl ag_3 ?_)))
 refine nO (s_bin rfl rfl rfl (nM rfl (nY rfl rfl (bne_eq_false_iff_eq.2 a1) (s_fa0 rfl fo_55_1 (nY rfl rfl (bne_eq_false_iff_eq.2 a1) (sL rfl ag_2 ?_))))))
 refine nY rfl rfl (bne_eq_false_iff_eq.2 a1) (s_fa0 rfl fo_55_1 (nY rfl rfl (bne_eq_false_iff_eq.2 a1) (sL rfl ag_2 ?_)))
 refine nY rfl rfl (bne_eq_false_iff_eq.2 a1) (s_bin rfl rfl rfl (nO (s_pf rfl (bne_eq_false_iff_eq.2 a1) rfl (nM rfl (nY rfl rfl (bne_eq_false_iff_eq.2 a2) (s_fa0 rfl fo_55_2 (nY rfl rfl (bne_eq_false_iff_eq.2 a2) (sL rfl ag_3 ?_))))))))
 refine nY rfl rfl (bne_eq_false_iff_eq.2 a2) (s_fa0 rfl fo_55_2 (nY rfl rfl (bne_eq_false_iff_eq.2 a2) (sL rfl ag_3 ?_)))
 refine nY rfl rfl (bne_eq_false_iff_eq.2 a2) (s_bin rfl rfl rfl (nO (s_pf rfl (bne_eq_false_iff_eq.2 a2) rfl (nM rfl (nY rfl rfl (bne_eq_false_iff_eq.2 a3) (s_fa0 rfl fo_55_3 (nY rfl rfl (bne_eq_false_iff_eq.2 a3) (sL rfl ag_9 ?_))))))))
 refine nY rfl rfl (bne_eq_false_iff_eq.2 a3) (s_fa0 rfl fo_55_3 (nY rfl rfl (bne_eq_false_iff_eq.2 a3) (sL rfl ag_9 ?_)))
 refine nY rfl rfl (bne_eq_false_iff_eq.2 a3) (s_bin rfl rfl rfl (nO (s_pf rfl (bne_eq_false_iff_eq.2 a3) rfl (nM rfl (nY rfl rfl (strn_f a4) (s_fa0 rfl fo_55_4 (nY rfl rfl (strn_f a4) (sL rfl ag_2 ?_))))))))
 refine nY rfl rfl (strn_f a4) (s_fa0 rfl fo_55_4 (nY rfl rfl (strn_f a4) (sL rfl ag_2 ?_)))
 refine nY rfl rfl (strn_f a4) (s_bin rfl rfl rfl (nO (s_pf rfl (strn_f a4) rfl (nM rfl (nY rfl rfl (bne_eq_false_iff_eq.2 a5) (s_fa0 rfl fo_55_5 (nY rfl rfl (bne_eq_false_iff_eq.2 a5) (s_fa rfl fo_42_0 (nY rfl rfl (bne_eq_false_iff_eq.2 a5) (sL rfl ag_37 ?_))))))))))
 refine nY rfl rfl (bne_eq_false_iff_eq.2 a5) (s_fa0 rfl fo_55_5 (nY rfl rfl (bne_eq_false_iff_eq.2 a5) (s_fa rfl fo_42_0 (nY rfl rfl (bne_eq_false_iff_eq.2 a5) (sL rfl ag_37 ?_)))))
 refine n_call (.yes rfl rfl (bne_eq_false_iff_eq.2 a5)) rfl rfl rfl (C.use (gdsEq_c (h1.gs.kp0 (by repeat (first | exact Kp.refl _ _ _ | refine Kp.new ?_ (by omega) _)) hw) (h2.gs.kp0 (by repeat (first | exact Kp.refl _ _ _ | refine Kp.new ?_ (by omega) _)) hw) hn.1) fun v g1 n1 hw1 hn1 hq => ?_)
 obtain ⟨⟨r, rfl, hr⟩, k1⟩ := hq
 have k2 : K0 g n g1 := Kp.trans0 (by repeat (first | exact Kp.refl _ _ _ | refine Kp.new ?_ (by omega) _)) k1 (by omega)
 by_cases a6 : x.gs = y.gs
 ·obtain rfl : r = true := hr.2 a6
  refine nY rfl rfl (bne_eq_false_iff_eq.2 a5) (s_not rfl (nO (s_pf rfl (bne_eq_false_iff_eq.2 a5) rfl (n_nil (Nc (w_no rfl (rfl) (Ne (Nc (Na (w_reg 8 rfl rfl (j' := 8) (nO (s_fa0 rfl fo_55_5 (nO (s_fa rfl fo_42_1 (nO (s_ld rfl (by repeat first | exact gS | refine Kp.lt k1 (by omega) ?_ | refine gN (by omega) ?_) ag_40 (by first | exact rfl) ?_))))))))))))))))
  refine nO (s_fa0 rfl fo_55_5 (nO (s_fa rfl fo_42_1 (nO (s_ld rfl (by repeat first | exact gS | refine Kp.lt k1 (by omega) ?_ | refine gN (by omega) ?_) ag_40 (by first | exact rfl) ?_)))))
  refine n_call .no rfl rfl rfl (C.use (wrsEq_c (h1.ws.kp0 k2 hw) (h2.ws.kp0 k2 hw) hn.2) fun v g2 n2 hw2 hn2 hq => ?_)
  obtain ⟨⟨r, rfl, hr2⟩, k3⟩ := hq
  refine nA rfl (n_nil (Nc (Nf (z_r1 rfl rfl ?_))))
  exact ⟨⟨_, rfl, ⟨fun h => Cal.ext' a1 a2 a3 a4 a5 a6 (hr2.1 h), fun h => hr2.2 (by rw [h])⟩⟩, k2.trans0 k3 (by omega)⟩
 ·have hrf : r = false := by
   cases r with
   | false => rfl
   | true => exact absurd (hr.1 rfl) a6
  subst hrf
  refine nY rfl rfl (bne_eq_false_iff_eq.2 a5) (s_not rfl (nO (s_pf rfl (bne_eq_false_iff_eq.2 a5) rfl (n_nil (Nc (w_yes rfl (rfl) (Na (w_reg 1 rfl rfl (j' := 1) (nA rfl (n_nil (Nc (Nf (z_r1 rfl rfl ?_)))))))))))))
  exact ⟨⟨_, rfl, ⟨fun h => (by cases h), fun h => absurd (by rw [h]) a6⟩⟩, k2⟩

theorem bare_c {g : Gm} {n : Nat} {x : Cal} {gv wv : Value} (h1 : CalAt g x gv wv) :
  C 107 #[.agg (calC x gv wv).toArray] g n fun u g' n' => ∃ gv' wv', u = .agg (calC x.bare gv' wv').toArray ∧ CalAt g' x.bare gv' wv' ∧ K0 g n g' := by
 obtain ⟨a1, c1, rfl⟩ := h1.gs.len
 obtain ⟨a2, c2, rfl⟩ := h1.ws.len
 refine c_in1 Tryz.func107 rfl Tryz.ntmps107 rfl fun hw => (Na (w_reg 2 rfl rfl (j' := 2) (n_op .no (q := 0) rfl (s_boxa rfl (n_op .no (q := 1) rfl (s_al zl_55 (n_nil (Nc (Na (w_reg 9 rfl rfl (j' := 11) (nO (s_fa0 rfl fo_55_0 (nO (sL rfl ag_3 ?_))))))))))))))
 refine nO (s_fa0 rfl fo_55_1 (nO (sL rfl ag_2 ?_)))
 refine nO (s_fa0 rfl fo_55_2 (nO (sL rfl ag_3 ?_)))
 refine nO (s_bld pl_55 zl_55 rfl rfl rfl (n_op .no (q := 9) rfl (s_al zl_55 (nO (sSw rfl rfl sz_55 rfl rfl ?_)))))
 refine n_nil (Nc (Na (Na (w_reg 2 rfl rfl (j' := 13) (nO (s_fa0 rfl fo_55_2 (nO (sL rfl ag_3 ?_))))))))
 refine n_nil (Nc (Nb (Na (w_reg 2 rfl rfl (j' := 15) (nO (s_bin rfl rfl rfl (nA rfl (n_nil ?_))))))))
 by_cases c1 : x.kind = 1
 ·refine Nc (w_yes rfl (beq_iff_eq.2 c1) (w_reg 4 rfl rfl (j' := 19) (nO (s_fa0 rfl fo_55_3 (nO (sL rfl ag_9 ?_))))))
  refine nO (s_fa0 rfl fo_55_3 (nO (sS rfl rfl sz_9 rfl rfl ?_)))
  refine n_nil (Nd (Nc (Na (w_reg 2 rfl rfl (j' := 21) (nO (sLf rfl ag_55 sz_55 ?_))))))
  refine nO (sSw rfl rfl sz_55 rfl rfl ?_)
  refine n_nil (Nc (Nf (z_rc rfl rfl (by repeat first | exact gS | refine gN (by omega) ?_) ag_55 sz_55 (by exact rfl) (by exact Nat.le_of_ble_eq_true rfl) ?_)))
  have e : x.bare = ⟨x.from_, x.id, x.kind, x.key, 0, [], []⟩ := by simp [Cal.bare, c1]
  rw [e]
  exact ⟨_, _, rfl, ⟨GdsRd.nil _, WrsRd.nil _⟩, (by repeat (first | exact Kp.refl _ _ _ | refine Kp.new ?_ (by omega) _))⟩
 refine Nc (w_no rfl (beq_eq_false_iff_ne.2 c1) (Na (w_reg 2 rfl rfl (j' := 17) (nO (s_bin rfl rfl rfl (nA rfl (n_nil ?_)))))))
 by_cases c3 : x.kind = 3
 ·refine Nc (w_yes rfl (beq_iff_eq.2 c3) (w_reg 4 rfl rfl (j' := 21) (nO (s_fa0 rfl fo_55_4 (nO (sL rfl ag_2 ?_))))))
  refine nO (s_fa0 rfl fo_55_4 (nO (sS rfl rfl sz_2 rfl rfl ?_)))
  refine n_nil (Nd (Nc (Na (w_reg 2 rfl rfl (j' := 23) (nO (sLf rfl ag_55 sz_55 ?_))))))
  refine nO (sSw rfl rfl sz_55 rfl rfl ?_)
  refine n_nil (Nc (Nf (z_rc rfl rfl (by repeat first | exact gS | refine gN (by omega) ?_) ag_55 sz_55 (by exact rfl) (by exact Nat.le_of_ble_eq_true rfl) ?_)))
  have e : x.bare = ⟨x.from_, x.id, x.kind, [], x.rev, [], []⟩ := by simp [Cal.bare, c3]
  rw [e]
  exact ⟨_, _, rfl, ⟨GdsRd.nil _, WrsRd.nil _⟩, (by repeat (first | exact Kp.refl _ _ _ | refine Kp.new ?_ (by omega) _))⟩
 refine Nc (w_no rfl (beq_eq_false_iff_ne.2 c3) (Na (w_reg 2 rfl rfl (j' := 19) (nO (s_bin rfl rfl rfl (nA rfl (n_nil ?_)))))))
 by_cases c4 : x.kind = 4
 ·refine Nc (w_yes rfl (beq_iff_eq.2 c4) (w_reg 4 rfl rfl (j' := 23) (nO (s_fa0 rfl fo_55_5 (nO (sLf rfl ag_42 sz_42 ?_))))))
  refine nO (s_fa0 rfl fo_55_5 (nO (sSa rfl rfl sz_42 rfl rfl ?_)))
  refine n_nil (Nd (Nc (Na (w_reg 2 rfl rfl (j' := 25) (nO (sLf rfl ag_55 sz_55 ?_))))))
  refine nO (sSw rfl rfl sz_55 rfl rfl ?_)
  refine n_nil (Nc (Nf (z_rc rfl rfl (by repeat first | exact gS | refine gN (by omega) ?_) ag_55 sz_55 (by exact rfl) (by exact Nat.le_of_ble_eq_true rfl) ?_)))
  have e : x.bare = ⟨x.from_, x.id, x.kind, [], 0, x.gs, x.ws⟩ := by simp [Cal.bare, c4]
  rw [e]
  exact ⟨_, _, rfl, ⟨h1.gs.kp0 (n := n) (by repeat (first | exact Kp.refl _ _ _ | refine Kp.new ?_ (by omega) _)) hw, h1.ws.kp0 (n := n) (by repeat (first | exact Kp.refl _ _ _ | refine Kp.new ?_ (by omega) _)) hw⟩, (by repeat (first | exact Kp.refl _ _ _ | refine Kp.new ?_ (by omega) _))⟩
 refine Nc (w_no rfl (beq_eq_false_iff_ne.2 c4) (Ne (Nd (Nc (Na (w_reg 2 rfl rfl (j' := 21) (nO (sLf rfl ag_55 sz_55 ?_))))))))
 refine nO (sSw rfl rfl sz_55 rfl rfl ?_)
 refine n_nil (Nc (Nf (z_rc rfl rfl (by repeat first | exact gS | refine gN (by omega) ?_) ag_55 sz_55 (by exact rfl) (by exact Nat.le_of_ble_eq_true rfl) ?_)))
 have e : x.bare = ⟨x.from_, x.id, x.kind, [], 0, [], []⟩ := by simp [Cal.bare, c1, c3, c4]
 rw [e]
 exact ⟨_, _, rfl, ⟨GdsRd.nil _, WrsRd.nil _⟩, (by repeat (first | exact Kp.refl _ _ _ | refine Kp.new ?_ (by omega) _))⟩

theorem mayTxn_c {g : Gm} {n : Nat} {gv wv : Value} {gs : List Gd} {ws : List Wr} (h1 : GdsRd g gv gs) (h2 : WrsRd g wv ws) :
  C 110 #[.agg [gv, wv].toArray] g n fun u g' n' => (∃ r, u = .bool r ∧ (r = true ↔ txnOk gs ws)) ∧ K0 g n g' := by
 obtain ⟨a1, c1, rfl⟩ := h1.len
 obtain ⟨a2, c2, rfl⟩ := h2.len
 refine c_in1 Tryz.func110 rfl Tryz.ntmps110 rfl fun hw => (Na (w_reg 2 rfl rfl (j' := 2) (n_op .no (q := 0) rfl (s_boxa rfl (nA rfl (n_nil ?_))))))
 by_cases d1 : gs.length ≤ 20
 rotate_left
 ·refine Nc (Na (Na (w_reg 10 rfl rfl (j' := 12) (nO (s_fa0 rfl fo_42_0 (nO (sL rfl ag_37 ?_)))))))
  refine nO (s_len rfl rfl un_37 rfl (nO (s_bin rfl rfl rfl (nM rfl (nSk rfl rfl (decide_eq_true (by omega)) rfl 3 rfl (nO (s_pt rfl (decide_eq_true (by omega)) rfl (n_nil (Nc (w_yes rfl (rfl) (Na (w_reg 1 rfl rfl (j' := 13) (nA rfl (n_nil (Nc (Nf (z_r1 rfl rfl ?_)))))))))))))))))
  exact ⟨⟨_, rfl, ⟨fun h => (by cases h), fun h => absurd h.1 d1⟩⟩, (by repeat (first | exact Kp.refl _ _ _ | refine Kp.new ?_ (by omega) _))⟩
 by_cases d2 : ws.length ≤ 64
 rotate_left
 ·refine Nc (Na (Na (w_reg 10 rfl rfl (j' := 12) (nO (s_fa0 rfl fo_42_0 (nO (sL rfl ag_37 ?_)))))))
  refine nO (s_len rfl rfl un_37 rfl (nO (s_bin rfl rfl rfl (nM rfl (nY rfl rfl (decide_eq_false (by omega)) (s_fa0 rfl fo_42_1 (nY rfl rfl (decide_eq_false (by omega)) (sL rfl ag_40 ?_))))))))
  refine nY rfl rfl (decide_eq_false (by omega)) (s_len rfl rfl un_40 rfl (nY rfl rfl (decide_eq_false (by omega)) (s_bin rfl rfl rfl (nO (s_pf rfl (decide_eq_false (by omega)) rfl (n_nil (Nc (w_yes rfl (decide_eq_true (by omega)) (Na (w_reg 1 rfl rfl (j' := 13) (nA rfl (n_nil (Nc (Nf (z_r1 rfl rfl ?_)))))))))))))))
  exact ⟨⟨_, rfl, ⟨fun h => (by cases h), fun h => absurd h.2.1 d2⟩⟩, (by repeat (first | exact Kp.refl _ _ _ | refine Kp.new ?_ (by omega) _))⟩
 refine Nc (Na (Na (w_reg 10 rfl rfl (j' := 12) (nO (s_fa0 rfl fo_42_0 (nO (sL rfl ag_37 ?_)))))))
 refine nO (s_len rfl rfl un_37 rfl (nO (s_bin rfl rfl rfl (nM rfl (nY rfl rfl (decide_eq_false (by omega)) (s_fa0 rfl fo_42_1 (nY rfl rfl (decide_eq_false (by omega)) (sL rfl ag_40 ?_))))))))
 refine nY rfl rfl (decide_eq_false (by omega)) (s_len rfl rfl un_40 rfl (nY rfl rfl (decide_eq_false (by omega)) (s_bin rfl rfl rfl (nO (s_pf rfl (decide_eq_false (by omega)) rfl (n_nil (Nc (w_no rfl (decide_eq_false (by omega)) (Ne (Nc (Na (Na (w_reg 4 rfl rfl (j' := 16) (nO (s_fa0 rfl fo_42_0 (nO (sL rfl ag_37 ?_)))))))))))))))))
 refine nO (s_len rfl rfl un_37 rfl (nM rfl (n_nil ?_)))
 refine z_seq ?_
 refine z_meet (β := Unit) (fun _ => [(1, .pointer (some ⟨n, 0, none⟩))]) (fun _ g' n' => n + 1 ≤ n' ∧ K0 g n g' ∧ g' n = some (.cells [.slice a1 gs.length c1, .slice a2 ws.length c2] 0 false) ∧ ∀ x ∈ gs, x.may) ?_ ?_
 ·repeat first | refine Na ?_ | refine Nb ?_ | refine Nc ?_ | refine Nd ?_ | refine Ne ?_
  refine w_loop (β := Nat) (fun i => [(1, .pointer (some ⟨n, 0, none⟩)), (18, .slice a1 gs.length c1), (19, .int .i64 gs.length), (20, .int .i64 i)])
   (fun i g' n' => i ≤ gs.length ∧ n + 1 ≤ n' ∧ K0 g n g' ∧ g' n = some (.cells [.slice a1 gs.length c1, .slice a2 ws.length c2] 0 false) ∧ ∀ j, (h : j < gs.length) → j < i → gs[j].may) (fun i => gs.length - i) 0 ⟨rfl, rfl, rfl, rfl, trivial⟩ ⟨by omega, by omega, (by repeat (first | exact Kp.refl _ _ _ | refine Kp.new ?_ (by omega) _)), gs_same _ _ _, fun j _ h => absurd h (by omega)⟩ ?_
  rintro i f g1 n1 hw1 ⟨hi, hn1, k1, hcell, ht⟩
  repeat first | refine Na ?_ | refine Nb ?_ | refine Nc ?_ | refine Nd ?_ | refine Ne ?_
  refine w_reg 1 rfl rfl (j' := 1) (nO (s_bin rfl rfl rfl (n_nil (Nc (Na (w_if rfl (fun hb => ?_) (fun hb => ?_)))))))
  ·have hi : i < gs.length := by simpa using hb
   obtain ⟨l3, o3, c3, cl3, ro3, x1, x2, x0, x5⟩ := (h1.kp0 k1 hw).at hi
   cases x1
   have hx2 := hw1 _ _ x2
   repeat first | refine Na ?_ | refine Nb ?_ | refine Nc ?_ | refine Nd ?_ | refine Ne ?_
   refine w_reg 4 rfl rfl (j' := 5) (nO (s_ia rfl rfl el_37 (by first | assumption | omega) (nO (sLa rfl ag_36 sz_36 ?_))))
   refine n_op .no (q := 3) rfl (s_al zl_36 (nO (sSw rfl rfl sz_36 rfl rfl ?_)))
   refine n_nil (Nc (Na (w_reg 10 rfl rfl (j' := 15) (nO (s_fa0 rfl fo_36_0 (nO (sL rfl ag_9 ?_)))))))
   refine n_call .no rfl rfl rfl (C.use (key_c _) fun v g2 n2 hw2 hn2 hq => ?_)
   obtain ⟨⟨r, rfl, hr⟩, k2⟩ := hq
   have k3 : K0 g1 n1 g2 := Kp.trans0 (by repeat (first | exact Kp.refl _ _ _ | refine Kp.new ?_ (by omega) _)) k2 (by omega)
   by_cases e1 : keyOk gs[i].key
   ·obtain rfl : r = true := hr.2 e1
    refine nO (s_not rfl (nM rfl (nY rfl rfl (rfl) (s_fa0 rfl fo_36_1 (nY rfl rfl (rfl) (s_ld rfl (by repeat first | exact gS | refine Kp.lt k2 (by omega) ?_ | refine gN (by omega) ?_) ag_2 (by first | exact rfl) ?_))))))
    refine n_call (.yes rfl rfl (rfl)) rfl rfl rfl (C.use (rev_c _) fun v g3 n3 hw3 hn3 hq => ?_)
    obtain ⟨⟨q, rfl, hq⟩, k4⟩ := hq
    have k5 : K0 g1 n1 g3 := k3.trans0 k4 (by omega)
    by_cases e2 : revOk gs[i].rev
    ·obtain rfl : q = true := hq.2 e2
     refine nY rfl rfl (rfl) (s_not rfl (nO (s_pf rfl (rfl) rfl (n_nil (Nc (w_no rfl (rfl) ?_))))))
     repeat first | refine Na ?_ | refine Nb ?_ | refine Nc ?_ | refine Nd ?_ | refine Ne ?_
     repeat first | refine Na ?_ | refine Nb ?_ | refine Nc ?_ | refine Nd ?_ | refine Ne ?_
     refine w_reg 2 rfl rfl (j' := 2) (nO (s_bin rfl rfl (by first | exact bi_inc (by omega) | exact bi_add rfl (by omega) (by omega)) ?_))
     refine nM rfl (n_nil ?_)
     exact z_round (i + 1) ⟨rfl, rfl, rfl, rfl, trivial⟩ ⟨hi, by omega, k1.trans0 k5 (by omega), k5.at0 hw1 hcell, fun j hj hlt => by
      by_cases e : j = i
      ·subst e; exact ⟨e1, e2⟩
      ·exact ht j hj (by omega)⟩ (by omega)
    ·have : q = false := by
      cases q with
      | false => rfl
      | true => exact absurd (hq.1 rfl) e2
     subst this
     refine nY rfl rfl (rfl) (s_not rfl (nO (s_pf rfl (rfl) rfl (n_nil (Nc (w_yes rfl (rfl) (Na (w_reg 1 rfl rfl (j' := 1) (nA rfl (n_nil (Nc (Nf (z_r1 rfl rfl ?_)))))))))))))
     exact ⟨⟨_, rfl, ⟨fun h => (by cases h), fun h => absurd (h.2.2.1 _ (List.getElem_mem hi)).2 e2⟩⟩, k1.trans0 k5 (by omega)⟩
   ·have : r = false := by
     cases r with
     | false => rfl
     | true => exact absurd (hr.1 rfl) e1
    subst this
    refine nO (s_not rfl (nM rfl (nSk rfl rfl (rfl) rfl 3 rfl (nO (s_pt rfl (rfl) rfl (n_nil (Nc (w_yes rfl (rfl) (Na (w_reg 1 rfl rfl (j' := 1) (nA rfl (n_nil (Nc (Nf (z_r1 rfl rfl ?_)))))))))))))))
    exact ⟨⟨_, rfl, ⟨fun h => (by cases h), fun h => absurd (h.2.2.1 _ (List.getElem_mem hi)).1 e1⟩⟩, k1.trans0 k3 (by omega)⟩
  ·refine w_exit rfl ?_
   have : i = gs.length := by simp at hb; omega
   subst this
   exact z_met () ⟨rfl, trivial⟩ ⟨by omega, k1, hcell, fun x hx => by
    obtain ⟨j, hj, rfl⟩ := List.mem_iff_getElem.1 hx
    exact ht j hj hj⟩
 rintro _ f g1 n1 hw1 ⟨hn1, k1, hcell, hg⟩
 repeat first | refine Na ?_ | refine Nb ?_ | refine Nc ?_ | refine Nd ?_ | refine Ne ?_
 refine w_reg 4 rfl rfl (j' := 4) (nO (s_fa0 rfl fo_42_1 (nO (sL rfl ag_40 ?_))))
 refine nO (s_len rfl rfl un_40 rfl (nM rfl (n_nil ?_)))
 repeat first | refine Na ?_ | refine Nb ?_ | refine Nc ?_ | refine Nd ?_ | refine Ne ?_
 refine w_loop (β := Nat) (fun i => [(36, .slice a2 ws.length c2), (37, .int .i64 ws.length), (38, .int .i64 i)])
  (fun i g' n' => i ≤ ws.length ∧ n ≤ n' ∧ K0 g n g' ∧ ∀ j, (h : j < ws.length) → j < i → ws[j].may) (fun i => ws.length - i) 0 ⟨rfl, rfl, rfl, trivial⟩ ⟨by omega, by omega, k1, fun j _ h => absurd h (by omega)⟩ ?_
 rintro i f g1 n1 hw1 ⟨hi, hn1, k1, ht⟩
 repeat first | refine Na ?_ | refine Nb ?_ | refine Nc ?_ | refine Nd ?_ | refine Ne ?_
 refine w_reg 1 rfl rfl (j' := 1) (nO (s_bin rfl rfl rfl (n_nil (Nc (Na (w_if rfl (fun hb => ?_) (fun hb => ?_)))))))
 ·have hi : i < ws.length := by simpa using hb
  obtain ⟨l3, o3, c3, cl3, ro3, p3, q3, x1, x2, x0, x5, x6⟩ := (h2.kp0 k1 hw).at hi
  cases x1
  have hx2 := hw1 _ _ x2
  repeat first | refine Na ?_ | refine Nb ?_ | refine Nc ?_ | refine Nd ?_ | refine Ne ?_
  refine w_reg 4 rfl rfl (j' := 5) (nO (s_ia rfl rfl el_40 (by first | assumption | omega) (nO (sLa rfl ag_39 sz_39 ?_))))
  refine n_op .no (q := 3) rfl (s_al zl_39 (nO (sSw rfl rfl sz_39 rfl rfl ?_)))
  refine n_nil (Nc (Na (w_reg 10 rfl rfl (j' := 15) (nO (s_fa0 rfl fo_39_0 (nO (sL rfl ag_9 ?_)))))))
  refine n_call .no rfl rfl rfl (C.use (key_c _) fun v g2 n2 hw2 hn2 hq => ?_)
  obtain ⟨⟨r, rfl, hr⟩, k2⟩ := hq
  have k3 : K0 g1 n1 g2 := Kp.trans0 (by repeat (first | exact Kp.refl _ _ _ | refine Kp.new ?_ (by omega) _)) k2 (by omega)
  by_cases e1 : keyOk ws[i].key
  ·obtain rfl : r = true := hr.2 e1
   by_cases e2 : ws[i].val.length ≤ 4000
   ·refine nO (s_not rfl (nM rfl (nY rfl rfl (rfl) (s_fa0 rfl fo_39_1 (nY rfl rfl (rfl) (s_ld rfl (by repeat first | exact gS | refine Kp.lt k2 (by omega) ?_ | refine gN (by omega) ?_) ag_26 (by first | exact rfl) ?_))))))
    refine nY rfl rfl (rfl) (s_len rfl rfl un_26 rfl (nY rfl rfl (rfl) (s_bin rfl rfl rfl (nO (s_pf rfl (rfl) rfl (n_nil (Nc (w_no rfl (decide_eq_false (by omega)) ?_))))))))
    repeat first | refine Na ?_ | refine Nb ?_ | refine Nc ?_ | refine Nd ?_ | refine Ne ?_
    repeat first | refine Na ?_ | refine Nb ?_ | refine Nc ?_ | refine Nd ?_ | refine Ne ?_
    refine w_reg 2 rfl rfl (j' := 2) (nO (s_bin rfl rfl (by first | exact bi_inc (by omega) | exact bi_add rfl (by omega) (by omega)) ?_))
    refine nM rfl (n_nil ?_)
    exact z_round (i + 1) ⟨rfl, rfl, rfl, trivial⟩ ⟨hi, by omega, k1.trans0 k3 (by omega), fun j hj hlt => by
     by_cases e : j = i
     ·subst e; exact ⟨e1, e2⟩
     ·exact ht j hj (by omega)⟩ (by omega)
   ·refine nO (s_not rfl (nM rfl (nY rfl rfl (rfl) (s_fa0 rfl fo_39_1 (nY rfl rfl (rfl) (s_ld rfl (by repeat first | exact gS | refine Kp.lt k2 (by omega) ?_ | refine gN (by omega) ?_) ag_26 (by first | exact rfl) ?_))))))
    refine nY rfl rfl (rfl) (s_len rfl rfl un_26 rfl (nY rfl rfl (rfl) (s_bin rfl rfl rfl (nO (s_pf rfl (rfl) rfl (n_nil (Nc (w_yes rfl (decide_eq_true (by omega)) (Na (w_reg 1 rfl rfl (j' := 1) (nA rfl (n_nil (Nc (Nf (z_r1 rfl rfl ?_)))))))))))))))
    exact ⟨⟨_, rfl, ⟨fun h => (by cases h), fun h => absurd (h.2.2.2 _ (List.getElem_mem hi)).2 e2⟩⟩, k1.trans0 k3 (by omega)⟩
  ·have : r = false := by
    cases r with
    | false => rfl
    | true => exact absurd (hr.1 rfl) e1
   subst this
   refine nO (s_not rfl (nM rfl (nSk rfl rfl (rfl) rfl 3 rfl (nO (s_pt rfl (rfl) rfl (n_nil (Nc (w_yes rfl (rfl) (Na (w_reg 1 rfl rfl (j' := 1) (nA rfl (n_nil (Nc (Nf (z_r1 rfl rfl ?_)))))))))))))))
   exact ⟨⟨_, rfl, ⟨fun h => (by cases h), fun h => absurd (h.2.2.2 _ (List.getElem_mem hi)).1 e1⟩⟩, k1.trans0 k3 (by omega)⟩
 ·refine w_exit rfl ?_
  repeat first | refine Na ?_ | refine Nb ?_ | refine Nc ?_ | refine Nd ?_ | refine Ne ?_
  refine w_reg 1 rfl rfl (j' := 2) (nA rfl (n_nil (Nc (Nf (z_r1 rfl rfl ?_)))))
  have : i = ws.length := by simp at hb; omega
  subst this
  exact ⟨⟨_, rfl, ⟨fun _ => ⟨d1, d2, hg, fun x hx => by
   obtain ⟨j, hj, rfl⟩ := List.mem_iff_getElem.1 hx
   exact ht j hj hj⟩, fun _ => rfl⟩⟩, k1⟩

end Go.Proofs.YtehmailaabjdjaaGreat
end

section
open Go.Proofs
namespace Go.Proofs.YtehmailaabjdjaaGreat
set_option linter.unusedSimpArgs false
set_option linter.unusedVariables false
set_option maxRecDepth 100000

theorem may_c {g : Gm} {n : Nat} {x : Cal} {gv wv : Value} (h1 : CalAt g x gv wv) (hn : x.gs.length < 2 ^ 40 ∧ x.ws.length < 2 ^ 40) :
  C 69 #[.agg (calC x gv wv).toArray] g n fun u g' n' => (∃ r, u = .bool r ∧ (r = true ↔ x.may)) ∧ K0 g n g' := by
 obtain ⟨a1, c1, rfl⟩ := h1.gs.len
 obtain ⟨a2, c2, rfl⟩ := h1.ws.len
 refine c_in1 Tryz.func69 rfl Tryz.ntmps69 rfl fun hw => (Na (w_reg 2 rfl rfl (j' := 2) (n_op .no (q := 0) rfl (s_boxa rfl (nA rfl (n_nil ?_))))))
 by_cases b0 : 0 ≤ x.from_
 rotate_left
 ·refine Nc (Na (Na (w_drw (T6 69 1) [(0, []), (1, []), (2, []), (3, []), (4, []), (5, []), (6, []), (7, []), (8, []), (9, []), (10, []), (11, []), (12, []), (13, []), (14, []), (15, []), (16, []), (17, []), (18, []), (19, []), (20, [19]), (21, [19]), (22, []), (23, []), (24, [])] 25 (by kernel_rfl) rfl rfl (j' := 27) (dO rfl rfl (s_fa0 rfl fo_55_0 ⟨⟨rfl, rfl⟩, (dT rfl rfl rfl (sL rfl ag_3 ⟨clash_nil, ?_⟩))⟩)))))
  refine dO rfl rfl (s_bin rfl rfl rfl ⟨⟨rfl, rfl⟩, (dM rfl rfl (d_sk rfl rfl rfl (decide_eq_true (by omega)) (d_sk rfl rfl rfl (decide_eq_true (by omega)) (d_sk rfl rfl rfl (decide_eq_true (by omega)) (dO rfl rfl (s_pt rfl (decide_eq_true (by omega)) rfl ⟨⟨rfl, rfl⟩, (dM rfl rfl (d_sk rfl rfl rfl (rfl) (d_sk rfl rfl rfl (rfl) (d_sk rfl rfl rfl (rfl) (dO rfl rfl (s_pt rfl (rfl) rfl ⟨⟨rfl, rfl⟩, (dM rfl rfl (d_sk rfl rfl rfl (rfl) (d_sk rfl rfl rfl (rfl) (d_sk rfl rfl rfl (rfl) (dO rfl rfl (s_pt rfl (rfl) rfl ⟨⟨rfl, rfl⟩, (dM rfl rfl (d_sk rfl rfl rfl (rfl) (d_sk rfl rfl rfl (rfl) (d_sk rfl rfl rfl (rfl) (d_sk rfl rfl rfl (rfl) (d_sk rfl rfl rfl (rfl) (dO rfl rfl (s_pt rfl (rfl) rfl ⟨⟨rfl, rfl⟩, (d_nil (Nc (w_yes rfl (rfl) (Na (w_reg 1 rfl rfl (j' := 28) (nA rfl (n_nil (Nc (Nf (z_r1 rfl rfl ?_))))))))))⟩))))))))⟩))))))⟩))))))⟩))))))⟩)
  exact ⟨⟨_, rfl, ⟨fun h => (by cases h), fun h => by obtain ⟨⟨q1, q2, q3, q4, _⟩, _⟩ := h; omega⟩⟩, (by repeat (first | exact Kp.refl _ _ _ | refine Kp.new ?_ (by omega) _))⟩
 by_cases b1 : x.from_ ≤ 7
 rotate_left
 ·refine Nc (Na (Na (w_drw (T6 69 1) [(0, []), (1, []), (2, []), (3, []), (4, []), (5, []), (6, []), (7, []), (8, []), (9, []), (10, []), (11, []), (12, []), (13, []), (14, []), (15, []), (16, []), (17, []), (18, []), (19, []), (20, [19]), (21, [19]), (22, []), (23, []), (24, [])] 25 (by kernel_rfl) rfl rfl (j' := 27) (dO rfl rfl (s_fa0 rfl fo_55_0 ⟨⟨rfl, rfl⟩, (dT rfl rfl rfl (sL rfl ag_3 ⟨clash_nil, ?_⟩))⟩)))))
  refine dO rfl rfl (s_bin rfl rfl rfl ⟨⟨rfl, rfl⟩, (dM rfl rfl (d_op rfl rfl (.yes rfl rfl (decide_eq_false (by omega))) (q := 6) rfl (s_fa0 rfl fo_55_0 ⟨⟨rfl, rfl⟩, (d_tc rfl rfl rfl (.yes rfl rfl (decide_eq_false (by omega))) (q := 7) rfl (sL rfl ag_3 ⟨clash_nil, ?_⟩))⟩)))⟩)
  refine d_op rfl rfl (.yes rfl rfl (decide_eq_false (by omega))) (q := 8) rfl (s_bin rfl rfl rfl ⟨⟨rfl, rfl⟩, (dO rfl rfl (s_pf rfl (decide_eq_false (by omega)) rfl ⟨⟨rfl, rfl⟩, (dM rfl rfl (d_sk rfl rfl rfl (decide_eq_true (by omega)) (d_sk rfl rfl rfl (decide_eq_true (by omega)) (d_sk rfl rfl rfl (decide_eq_true (by omega)) (dO rfl rfl (s_pt rfl (decide_eq_true (by omega)) rfl ⟨⟨rfl, rfl⟩, (dM rfl rfl (d_sk rfl rfl rfl (rfl) (d_sk rfl rfl rfl (rfl) (d_sk rfl rfl rfl (rfl) (dO rfl rfl (s_pt rfl (rfl) rfl ⟨⟨rfl, rfl⟩, (dM rfl rfl (d_sk rfl rfl rfl (rfl) (d_sk rfl rfl rfl (rfl) (d_sk rfl rfl rfl (rfl) (d_sk rfl rfl rfl (rfl) (d_sk rfl rfl rfl (rfl) (dO rfl rfl (s_pt rfl (rfl) rfl ⟨⟨rfl, rfl⟩, (d_nil (Nc (w_yes rfl (rfl) (Na (w_reg 1 rfl rfl (j' := 28) (nA rfl (n_nil (Nc (Nf (z_r1 rfl rfl ?_))))))))))⟩))))))))⟩))))))⟩))))))⟩))⟩)
  exact ⟨⟨_, rfl, ⟨fun h => (by cases h), fun h => by obtain ⟨⟨q1, q2, q3, q4, _⟩, _⟩ := h; omega⟩⟩, (by repeat (first | exact Kp.refl _ _ _ | refine Kp.new ?_ (by omega) _))⟩
 by_cases b2 : 1 ≤ x.id
 rotate_left
 ·refine Nc (Na (Na (w_drw (T6 69 1) [(0, []), (1, []), (2, []), (3, []), (4, []), (5, []), (6, []), (7, []), (8, []), (9, []), (10, []), (11, []), (12, []), (13, []), (14, []), (15, []), (16, []), (17, []), (18, []), (19, []), (20, [19]), (21, [19]), (22, []), (23, []), (24, [])] 25 (by kernel_rfl) rfl rfl (j' := 27) (dO rfl rfl (s_fa0 rfl fo_55_0 ⟨⟨rfl, rfl⟩, (dT rfl rfl rfl (sL rfl ag_3 ⟨clash_nil, ?_⟩))⟩)))))
  refine dO rfl rfl (s_bin rfl rfl rfl ⟨⟨rfl, rfl⟩, (dM rfl rfl (d_op rfl rfl (.yes rfl rfl (decide_eq_false (by omega))) (q := 6) rfl (s_fa0 rfl fo_55_0 ⟨⟨rfl, rfl⟩, (d_tc rfl rfl rfl (.yes rfl rfl (decide_eq_false (by omega))) (q := 7) rfl (sL rfl ag_3 ⟨clash_nil, ?_⟩))⟩)))⟩)
  refine d_op rfl rfl (.yes rfl rfl (decide_eq_false (by omega))) (q := 8) rfl (s_bin rfl rfl rfl ⟨⟨rfl, rfl⟩, (dO rfl rfl (s_pf rfl (decide_eq_false (by omega)) rfl ⟨⟨rfl, rfl⟩, (dM rfl rfl (d_op rfl rfl (.yes rfl rfl (decide_eq_false (by omega))) (q := 11) rfl (s_fa0 rfl fo_55_1 ⟨⟨rfl, rfl⟩, (d_tc rfl rfl rfl (.yes rfl rfl (decide_eq_false (by omega))) (q := 12) rfl (sL rfl ag_2 ⟨clash_nil, ?_⟩))⟩)))⟩))⟩)
  refine d_op rfl rfl (.yes rfl rfl (decide_eq_false (by omega))) (q := 13) rfl (s_bin rfl rfl rfl ⟨⟨rfl, rfl⟩, (dO rfl rfl (s_pf rfl (decide_eq_false (by omega)) rfl ⟨⟨rfl, rfl⟩, (dM rfl rfl (d_sk rfl rfl rfl (decide_eq_true (by omega)) (d_sk rfl rfl rfl (decide_eq_true (by omega)) (d_sk rfl rfl rfl (decide_eq_true (by omega)) (dO rfl rfl (s_pt rfl (decide_eq_true (by omega)) rfl ⟨⟨rfl, rfl⟩, (dM rfl rfl (d_sk rfl rfl rfl (rfl) (d_sk rfl rfl rfl (rfl) (d_sk rfl rfl rfl (rfl) (d_sk rfl rfl rfl (rfl) (d_sk rfl rfl rfl (rfl) (dO rfl rfl (s_pt rfl (rfl) rfl ⟨⟨rfl, rfl⟩, (d_nil (Nc (w_yes rfl (rfl) (Na (w_reg 1 rfl rfl (j' := 28) (nA rfl (n_nil (Nc (Nf (z_r1 rfl rfl ?_))))))))))⟩))))))))⟩))))))⟩))⟩)
  exact ⟨⟨_, rfl, ⟨fun h => (by cases h), fun h => by obtain ⟨⟨q1, q2, q3, q4, _⟩, _⟩ := h; omega⟩⟩, (by repeat (first | exact Kp.refl _ _ _ | refine Kp.new ?_ (by omega) _))⟩
 by_cases b3 : x.id ≤ 1099511627776
 rotate_left
 ·refine Nc (Na (Na (w_drw (T6 69 1) [(0, []), (1, []), (2, []), (3, []), (4, []), (5, []), (6, []), (7, []), (8, []), (9, []), (10, []), (11, []), (12, []), (13, []), (14, []), (15, []), (16, []), (17, []), (18, []), (19, []), (20, [19]), (21, [19]), (22, []), (23, []), (24, [])] 25 (by kernel_rfl) rfl rfl (j' := 27) (dO rfl rfl (s_fa0 rfl fo_55_0 ⟨⟨rfl, rfl⟩, (dT rfl rfl rfl (sL rfl ag_3 ⟨clash_nil, ?_⟩))⟩)))))
  refine dO rfl rfl (s_bin rfl rfl rfl ⟨⟨rfl, rfl⟩, (dM rfl rfl (d_op rfl rfl (.yes rfl rfl (decide_eq_false (by omega))) (q := 6) rfl (s_fa0 rfl fo_55_0 ⟨⟨rfl, rfl⟩, (d_tc rfl rfl rfl (.yes rfl rfl (decide_eq_false (by omega))) (q := 7) rfl (sL rfl ag_3 ⟨clash_nil, ?_⟩))⟩)))⟩)
  refine d_op rfl rfl (.yes rfl rfl (decide_eq_false (by omega))) (q := 8) rfl (s_bin rfl rfl rfl ⟨⟨rfl, rfl⟩, (dO rfl rfl (s_pf rfl (decide_eq_false (by omega)) rfl ⟨⟨rfl, rfl⟩, (dM rfl rfl (d_op rfl rfl (.yes rfl rfl (decide_eq_false (by omega))) (q := 11) rfl (s_fa0 rfl fo_55_1 ⟨⟨rfl, rfl⟩, (d_tc rfl rfl rfl (.yes rfl rfl (decide_eq_false (by omega))) (q := 12) rfl (sL rfl ag_2 ⟨clash_nil, ?_⟩))⟩)))⟩))⟩)
  refine d_op rfl rfl (.yes rfl rfl (decide_eq_false (by omega))) (q := 13) rfl (s_bin rfl rfl rfl ⟨⟨rfl, rfl⟩, (dO rfl rfl (s_pf rfl (decide_eq_false (by omega)) rfl ⟨⟨rfl, rfl⟩, (dM rfl rfl (d_op rfl rfl (.yes rfl rfl (decide_eq_false (by omega))) (q := 16) rfl (s_fa0 rfl fo_55_1 ⟨⟨rfl, rfl⟩, (d_tc rfl rfl rfl (.yes rfl rfl (decide_eq_false (by omega))) (q := 17) rfl (sL rfl ag_2 ⟨clash_nil, ?_⟩))⟩)))⟩))⟩)
  refine d_op rfl rfl (.yes rfl rfl (decide_eq_false (by omega))) (q := 18) rfl (s_bin rfl rfl rfl ⟨⟨rfl, rfl⟩, (dO rfl rfl (s_pf rfl (decide_eq_false (by omega)) rfl ⟨⟨rfl, rfl⟩, (dM rfl rfl (d_sk rfl rfl rfl (decide_eq_true (by omega)) (d_sk rfl rfl rfl (decide_eq_true (by omega)) (d_sk rfl rfl rfl (decide_eq_true (by omega)) (d_sk rfl rfl rfl (decide_eq_true (by omega)) (d_sk rfl rfl rfl (decide_eq_true (by omega)) (dO rfl rfl (s_pt rfl (decide_eq_true (by omega)) rfl ⟨⟨rfl, rfl⟩, (d_nil (Nc (w_yes rfl (rfl) (Na (w_reg 1 rfl rfl (j' := 28) (nA rfl (n_nil (Nc (Nf (z_r1 rfl rfl ?_))))))))))⟩))))))))⟩))⟩)
  exact ⟨⟨_, rfl, ⟨fun h => (by cases h), fun h => by obtain ⟨⟨q1, q2, q3, q4, _⟩, _⟩ := h; omega⟩⟩, (by repeat (first | exact Kp.refl _ _ _ | refine Kp.new ?_ (by omega) _))⟩
 refine Nc (Na (Na (w_drw (T6 69 1) [(0, []), (1, []), (2, []), (3, []), (4, []), (5, []), (6, []), (7, []), (8, []), (9, []), (10, []), (11, []), (12, []), (13, []), (14, []), (15, []), (16, []), (17, []), (18, []), (19, []), (20, [19]), (21, [19]), (22, []), (23, []), (24, [])] 25 (by kernel_rfl) rfl rfl (j' := 27) (dO rfl rfl (s_fa0 rfl fo_55_0 ⟨⟨rfl, rfl⟩, (dT rfl rfl rfl (sL rfl ag_3 ⟨clash_nil, ?_⟩))⟩)))))
 refine dO rfl rfl (s_bin rfl rfl rfl ⟨⟨rfl, rfl⟩, (dM rfl rfl (d_op rfl rfl (.yes rfl rfl (decide_eq_false (by omega))) (q := 6) rfl (s_fa0 rfl fo_55_0 ⟨⟨rfl, rfl⟩, (d_tc rfl rfl rfl (.yes rfl rfl (decide_eq_false (by omega))) (q := 7) rfl (sL rfl ag_3 ⟨clash_nil, ?_⟩))⟩)))⟩)
 refine d_op rfl rfl (.yes rfl rfl (decide_eq_false (by omega))) (q := 8) rfl (s_bin rfl rfl rfl ⟨⟨rfl, rfl⟩, (dO rfl rfl (s_pf rfl (decide_eq_false (by omega)) rfl ⟨⟨rfl, rfl⟩, (dM rfl rfl (d_op rfl rfl (.yes rfl rfl (decide_eq_false (by omega))) (q := 11) rfl (s_fa0 rfl fo_55_1 ⟨⟨rfl, rfl⟩, (d_tc rfl rfl rfl (.yes rfl rfl (decide_eq_false (by omega))) (q := 12) rfl (sL rfl ag_2 ⟨clash_nil, ?_⟩))⟩)))⟩))⟩)
 refine d_op rfl rfl (.yes rfl rfl (decide_eq_false (by omega))) (q := 13) rfl (s_bin rfl rfl rfl ⟨⟨rfl, rfl⟩, (dO rfl rfl (s_pf rfl (decide_eq_false (by omega)) rfl ⟨⟨rfl, rfl⟩, (dM rfl rfl (d_op rfl rfl (.yes rfl rfl (decide_eq_false (by omega))) (q := 16) rfl (s_fa0 rfl fo_55_1 ⟨⟨rfl, rfl⟩, (d_tc rfl rfl rfl (.yes rfl rfl (decide_eq_false (by omega))) (q := 17) rfl (sL rfl ag_2 ⟨clash_nil, ?_⟩))⟩)))⟩))⟩)
 refine d_op rfl rfl (.yes rfl rfl (decide_eq_false (by omega))) (q := 18) rfl (s_bin rfl rfl rfl ⟨⟨rfl, rfl⟩, (dO rfl rfl (s_pf rfl (decide_eq_false (by omega)) rfl ⟨⟨rfl, rfl⟩, (dM rfl rfl (d_tc rfl rfl rfl (.yes rfl rfl (decide_eq_false (by omega))) (q := 21) rfl (sLf rfl ag_55 sz_55 ⟨clash_nil, ?_⟩)))⟩))⟩)
 refine d_tc rfl rfl rfl (.yes rfl rfl (decide_eq_false (by omega))) (q := 22) rfl (sLf rfl ag_55 sz_55 ⟨clash_rd rfl, ?_⟩)
 refine d_call rfl (.yes rfl rfl (decide_eq_false (by omega))) rfl rfl rfl (call_rd rfl) (C.use (bare_c (h1.kp0 (n := n) (by repeat (first | exact Kp.refl _ _ _ | refine Kp.new ?_ (by omega) _)) hw)) fun v g1 n1 hw1 hn1 hq => ?_)
 obtain ⟨gv', wv', rfl, hA, k1⟩ := hq
 refine ⟨?_, ?_⟩
 ·repeat' (first | exact trivial | exact kept1 k1 (by omega) (gs_same _ _ _) | apply And.intro)
 have k2 : K0 g n g1 := Kp.trans0 (by repeat (first | exact Kp.refl _ _ _ | refine Kp.new ?_ (by omega) _)) k1 (by omega)
 refine d_call rfl (.yes rfl rfl (decide_eq_false (by omega))) rfl rfl rfl call_nil (C.use (callEq_c (h1.kp0 k2 hw) hA hn) fun v g2 n2 hw2 hn2 hq => ?_)
 obtain ⟨⟨r, rfl, hr⟩, k3⟩ := hq
 refine ⟨kept_nil, ?_⟩
 have k4 : K0 g n g2 := k2.trans0 k3 (by omega)
 by_cases b4 : x = x.bare
 rotate_left
 ·have : r = false := by
   cases r with
   | false => rfl
   | true => exact absurd (hr.1 rfl) b4
  subst this
  refine d_op rfl rfl (.yes rfl rfl (decide_eq_false (by omega))) (q := 25) rfl (s_not rfl ⟨⟨rfl, rfl⟩, (dO rfl rfl (s_pf rfl (decide_eq_false (by omega)) rfl ⟨⟨rfl, rfl⟩, (d_nil (Nc (w_yes rfl (rfl) (Na (w_reg 1 rfl rfl (j' := 1) (nA rfl (n_nil (Nc (Nf (z_r1 rfl rfl ?_))))))))))⟩))⟩)
  exact ⟨⟨_, rfl, ⟨fun h => (by cases h), fun h => absurd h.1.2.2.2.2 b4⟩⟩, k4⟩
 obtain rfl : r = true := hr.2 b4
 refine d_op rfl rfl (.yes rfl rfl (decide_eq_false (by omega))) (q := 25) rfl (s_not rfl ⟨⟨rfl, rfl⟩, (dO rfl rfl (s_pf rfl (decide_eq_false (by omega)) rfl ⟨⟨rfl, rfl⟩, (d_nil (Nc (w_no rfl (rfl) ?_)))⟩))⟩)
 have hcell : g2 n = some (.cells (calC x (.slice a1 x.gs.length c1) (.slice a2 x.ws.length c2)) 0 false) := k3.lt (by omega) (k1.lt (by omega) (gs_same _ _ _))
 have h3 := h1.kp0 k4 hw
 have hp : 0 ≤ x.from_ ∧ x.from_ ≤ 7 ∧ 1 ≤ x.id ∧ x.id ≤ 1099511627776 ∧ x = x.bare := ⟨b0, b1, b2, b3, b4⟩
 refine Ne (Nc (Na (Na (w_reg 2 rfl rfl (j' := 2) (nO (s_fa0 rfl fo_55_2 (nO (sL rfl ag_3 ?_))))))))
 refine n_nil (Nc (Nb (Na (w_reg 2 rfl rfl (j' := 4) (nO (s_bin rfl rfl rfl (nA rfl (n_nil ?_))))))))
 by_cases d1 : x.kind = 1
 ·refine Nc (w_yes rfl (beq_iff_eq.2 d1) (Na (w_reg 4 rfl rfl (j' := 8) (nO (s_fa0 rfl fo_55_3 (nO (sL rfl ag_9 ?_)))))))
  refine n_call .no rfl rfl rfl (C.use (key_c _) fun v g3 n3 hw3 hn3 hq => ?_)
  obtain ⟨⟨r, rfl, hr⟩, k5⟩ := hq
  refine nA rfl (n_nil (Nc (Nf (z_r1 rfl rfl ?_))))
  exact ⟨⟨_, rfl, ⟨fun h => ⟨hp, .inl ⟨d1, hr.1 h⟩⟩, fun h => hr.2 (by rcases h.2 with h | h | h | h <;> first | exact h.2 | omega)⟩⟩, k4.trans0 k5 (by omega)⟩
 refine Nc (w_no rfl (beq_eq_false_iff_ne.2 d1) (Na (w_reg 2 rfl rfl (j' := 6) (nO (s_bin rfl rfl rfl (nA rfl (n_nil ?_)))))))
 by_cases d2 : x.kind = 2
 ·refine Nc (w_yes rfl (beq_iff_eq.2 d2) (Na (w_reg 1 rfl rfl (j' := 7) (nA rfl (n_nil (Nc (Nf (z_r1 rfl rfl ?_))))))))
  exact ⟨⟨_, rfl, ⟨fun h => ⟨hp, .inr (.inl d2)⟩, fun h => rfl⟩⟩, k4⟩
 refine Nc (w_no rfl (beq_eq_false_iff_ne.2 d2) (Na (w_reg 2 rfl rfl (j' := 8) (nO (s_bin rfl rfl rfl (nA rfl (n_nil ?_)))))))
 by_cases d3 : x.kind = 3
 ·refine Nc (w_yes rfl (beq_iff_eq.2 d3) (Na (w_reg 4 rfl rfl (j' := 12) (nO (s_fa0 rfl fo_55_4 (nO (sL rfl ag_2 ?_)))))))
  refine n_call .no rfl rfl rfl (C.use (rev_c _) fun v g3 n3 hw3 hn3 hq => ?_)
  obtain ⟨⟨r, rfl, hr⟩, k5⟩ := hq
  refine nA rfl (n_nil (Nc (Nf (z_r1 rfl rfl ?_))))
  exact ⟨⟨_, rfl, ⟨fun h => ⟨hp, .inr (.inr (.inl ⟨d3, hr.1 h⟩))⟩, fun h => hr.2 (by rcases h.2 with h | h | h | h <;> first | exact h.2 | omega)⟩⟩, k4.trans0 k5 (by omega)⟩
 refine Nc (w_no rfl (beq_eq_false_iff_ne.2 d3) (Na (w_reg 2 rfl rfl (j' := 10) (nO (s_bin rfl rfl rfl (nA rfl (n_nil ?_)))))))
 by_cases d4 : x.kind = 4
 ·refine Nc (w_yes rfl (beq_iff_eq.2 d4) (Na (w_reg 4 rfl rfl (j' := 14) (nO (s_fa0 rfl fo_55_5 (nO (sLf rfl ag_42 sz_42 ?_)))))))
  refine n_call .no rfl rfl rfl (C.use (mayTxn_c h3.gs h3.ws) fun v g3 n3 hw3 hn3 hq => ?_)
  obtain ⟨⟨r, rfl, hr⟩, k5⟩ := hq
  refine nA rfl (n_nil (Nc (Nf (z_r1 rfl rfl ?_))))
  exact ⟨⟨_, rfl, ⟨fun h => ⟨hp, .inr (.inr (.inr ⟨d4, hr.1 h⟩))⟩, fun h => hr.2 (by rcases h.2 with h | h | h | h <;> first | exact h.2 | omega)⟩⟩, k4.trans0 k5 (by omega)⟩
 refine Nc (w_no rfl (beq_eq_false_iff_ne.2 d4) (Ne (Nd (Nc (Na (w_reg 1 rfl rfl (j' := 11) (nA rfl (n_nil (Nc (Nf (z_r1 rfl rfl ?_)))))))))))
 exact ⟨⟨_, rfl, ⟨fun h => (by cases h), fun h => by rcases h.2 with h | h | h | h <;> omega⟩⟩, k4⟩

end Go.Proofs.YtehmailaabjdjaaGreat
end
