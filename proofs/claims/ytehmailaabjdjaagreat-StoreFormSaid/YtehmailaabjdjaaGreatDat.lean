/-
  WHAT LIES IN MEMORY: bytes, events; entering a function, its results; slices.Clone. No condition.
-/
import Derived.Test.YtehmailaabjdjaaGreatKit2
open Go.Proofs
namespace Go.Proofs.YtehmailaabjdjaaGreat
set_option linter.unusedSimpArgs false
set_option linter.unusedVariables false
set_option maxRecDepth 100000
set_option maxHeartbeats 4000000

def U : Nat → Value := fun _ => undef

theorem entry1 {fn : Func} {n : Nat} (hn : fn.ntmps = n) (h : 1 ≤ n) (a : Value) : aEntry fn #[a] = AA n (fset U 0 a) [] := by
 rw [aEntry_AA hn (by simpa using h)]
 congr 1; funext t
 rcases t with _ | t <;> simp [fset, U]

theorem res1 {P : Program} {fn : Func} {n t : Nat} {f : Nat → Value} {σ : Heap} (hr : fn.results = #[.tmp t]) (ht : t < n) : aRes P fn (AA n f []) σ = some (f t) := by
 unfold aRes
 rw [hr]
 simp only [aResL, aRes1, AA, mkT_getD ht, Option.bind_some, Option.map_some, aOne]

def BytesNew (b : Nat) (g : Gm) (v : Value) (bs : List UInt8) : Prop := SlOwn g 1 v bs.length (u8c bs) ∧ ∀ l, vname v = some l → b ≤ l

theorem BytesNew.at {b : Nat} {g : Gm} {v : Value} {bs : List UInt8} (h : BytesNew b g v bs) : BytesAt g v bs := h.1.slc

theorem SlOwn.at {g : Gm} {k n i : Nat} {v : Value} {cs : List Value} (h : SlOwn g k v n cs) (hi : i < n) : ∃ l o c cl, v = .slice (some ⟨l, o, none⟩) n c ∧ n ≤ c ∧ g l = some (.cells cl k false) ∧ o + (i * k + k) ≤ cl.length ∧ o + c * k ≤ cl.length ∧ (cl.drop (o + i * k)).take k = (cs.drop (i * k)).take k ∧ (cl.drop o).take (n * k) = cs := by
 obtain ⟨h1, ⟨rfl, rfl⟩ | ⟨l, o, c, cl, rfl, h3, h4, h5, h6⟩⟩ := h
 ·omega
 ·have hm : i * k + k ≤ n * k := by rw [← Nat.succ_mul]; exact Nat.mul_le_mul_right _ hi
  have := Nat.mul_le_mul_right k h3
  exact ⟨l, o, c, cl, rfl, h3, h4, by omega, h5, take_part h6 hm, h6⟩

theorem splice_in {cl src : List Value} {o m j : Nat} (h : o + m ≤ cl.length) (hj : j + src.length ≤ m) : ((splice cl (o + j) src).drop o).take m = splice ((cl.drop o).take m) j src := by
 apply List.ext_getElem?
 intro x
 have hs : ((cl.drop o).take m).length = m := by rw [List.length_take, List.length_drop]; omega
 rw [splice_get (by omega), List.getElem?_take, List.getElem?_drop, splice_get (by omega)]
 by_cases hx : x < m
 ·rw [if_pos hx, List.getElem?_take, if_pos hx, List.getElem?_drop]
  by_cases h1 : j ≤ x ∧ x < j + src.length
  ·rw [if_pos (by omega), if_pos (by omega), show o + x - (o + j) = x - j by omega]
  ·rw [if_neg (by omega), if_neg (by omega)]
 ·rw [if_neg hx, if_neg (by omega), List.getElem?_eq_none (by omega)]

def AppT (P : Program) (t u k b : Nat) : Prop := ∃ e z, P.underlying t = some (.slice e) ∧ szO P e = some k ∧ bytesO P e = some b ∧ zeroP P e = some z ∧ z.cells.size = k ∧ 0 < k ∧ 0 < b ∧ isSeqT (P.underlying u) = true

def Src (g : Gm) (k : Nat) (w : Value) (m : Nat) (ds : List Value) : Prop := ∃ rs get objs, srcOf k w = some (rs, get, m) ∧ getAll g rs = some objs ∧ get objs = some ds ∧ ds.length = m * k

theorem SlC.src {g : Gm} {k n : Nat} {v : Value} {cs : List Value} (h : SlC g k v n cs) : Src g k v n cs := by
 obtain ⟨rs, get, objs, h1, h2, h3⟩ := src_slc h
 exact ⟨rs, get, objs, h1, h2, h3, h.1⟩

structure Grown (σ τ : Heap) (nm : Nat) (v v' : Value) : Prop where
 same : ∀ l, l ≠ nm → vname v ≠ some l → τ.get l = σ.get l
 nxt : τ.nxt = σ.nxt
 name : vname v' = none ∨ vname v' = vname v ∨ vname v' = some nm

theorem grow_app {P : Program} {t u k b : Nat} (hT : AppT P t u k b) {σ : Heap} {nm n m : Nat} {v x : Value} {cs ds : List Value} (hv : SlOwn σ.get k v n cs) (hs : Src σ.get k x m ds) (hone : plainL oneCell ds = true) (hfit : (n + m) * b ≤ 2 ^ 46) :
  ∃ p eff, aAppend P t u v x = some p ∧ p.run σ nm = some eff ∧ wrOk p eff = true ∧ SlOwn (σ.app nm eff).get k eff.val (n + m) (cs ++ ds) ∧ Grown σ (σ.app nm eff) nm v eff.val := by
 obtain ⟨e, z, h1, h2, h3, h4, h5, h6, h7, h8⟩ := hT
 obtain ⟨rs, get, objs, k1, k2, k3, k4⟩ := hs
 obtain ⟨p, eff, q1, q2, q3, q4, q5, q6, q7⟩ := grow_ok h1 h2 h3 h4 h5 h6 h7 h8 hv k1 k2 k3 k4 hone hfit (nm := nm)
 exact ⟨p, eff, q1, q2, q3, q4, q5, q6, q7⟩

theorem at_append {E : Env} {ops : Array Oper} {base i : Nat} {dst : Option Tmp} {ty : TypeId} {pos : String} {af : Array Edge} {gd : Option (Nat × Bool)} {x y : Operand} {t u k b : Nat} {os : List Oper} {a : Act} {σ : Heap} {K : Act → Heap → Prop} {n m : Nat} {v w : Value} {cs ds : List Value}
  (hT : AppT E.P t u k b) (hx : aeval a x = some v) (hy : aeval a y = some w) (hv : SlOwn σ.get k v n cs) (hs : Src σ.get k w m ds) (hone : plainL oneCell ds = true) (hfit : (n + m) * b ≤ 2 ^ 46)
  (h : ∀ v' τ, SlOwn τ.get k v' (n + m) (cs ++ ds) → Grown σ τ (base + i) v v' → runN E ops base (i + 1) os (a.put dst v') τ K) : At E ops base i ⟨dst, .call ⟨.builtin .append, #[x, y], #[t, u]⟩, ty, pos, af, gd⟩ os a σ K := by
 obtain ⟨p, eff, h1, h2, h3, h4, h5⟩ := grow_app hT hv hs hone hfit (nm := base + i)
 refine at_prim (p := p) (eff := eff) ?_ h2 h3 (h _ _ h4 h5)
 simp only [aop, aCall, List.toList_toArray, evList, hx, hy, Option.bind_some, Option.map_some, aBuiltin, h1]

theorem app26 : AppT E6.P 26 26 1 1 := ⟨5, _, un_26, sz_5, by_5, zp_5, rfl, by decide, by decide, by rw [un_26]; rfl⟩
theorem app65 : AppT E6.P 65 65 4 56 := ⟨82, _, un_65, sz_82, by_82, zp_82, rfl, by decide, by decide, by rw [un_65]; rfl⟩

section
variable {ops : Array Oper} {base i : Nat} {os : List Oper} {o : Oper} {a : Act} {σ : Heap} {K : Act → Heap → Prop}

end

theorem Keeps.grown {F : Nat → Prop} {σ τ υ : Heap} {nm : Nat} {v v' : Value} (h : Keeps F σ τ) (hg : Grown τ υ nm v v') (hn : σ.nxt ≤ nm) (hv : ∀ l, vname v = some l → σ.nxt ≤ l ∨ (F l ∧ ∀ o, σ.get l = some o → stable o = false)) : Keeps F σ υ := by
 refine ⟨by rw [hg.nxt]; exact h.1, fun x o hx ho hf => ?_⟩
 by_cases e : vname v = some x
 ·rcases hv x e with h1 | ⟨h1, h2⟩
  ·omega
  ·have := hf h1
   rw [h2 _ ho] at this; cases this
 ·rw [hg.same x (by omega) e]
  exact h.2 x o hx ho hf

theorem clone_ok {σ : Heap} {v : Value} {bs : List UInt8} (h : BytesAt σ.get v bs) (hs : bs.length ≤ 2 ^ 46) :
  ACall E6.P 101 #[v] σ fun u τ => BytesNew σ.nxt τ.get u bs ∧ Keep0 σ τ := by
 refine ACall.wf fun hw => ?_
 obtain ⟨rfl, h2⟩ | ⟨A, N0, c, h2⟩ : (v = .slice none 0 0 ∧ bs.length = 0) ∨ ∃ A N0 c, v = .slice (some A) N0 c := by
  obtain ⟨h1, h2 | ⟨h2, _⟩ | ⟨l, o, c, h2, h3, h4⟩⟩ := id h
  ·exact .inl h2
  ·exact .inr ⟨_, _, _, h2⟩
  ·exact .inr ⟨_, _, _, h2⟩
 ·have : bs = [] := List.eq_nil_of_length_eq_zero h2
  subst this
  refine acall Tryz.func101 rfl ?_
  rw [entry1 Tryz.ntmps101 (by decide)]
  refine awp_seq (awp_region_n envOk6 fun K hK => ?_)
  simp only [push_cast, ↓cases2_t, ↓cases2_f, ↓obind_some, ↓cbind_true, ↓tbind_true, ↓tbind_false, Nat.reduceLT, Nat.reduceAdd, Nat.reduceMul, Nat.reduceSub, Nat.reduceEqDiff, Nat.reduceLeDiff, Nat.reduceBEq, reduceCtorEq, reduceIte]
  refine hK _ _ ?_; clear hK K
  refine awp_seq ?_
  refine awp_seq (awp_region_n envOk6 fun K hK => ?_)
  simp only [push_cast, ↓cases2_t, ↓cases2_f, ↓obind_some, ↓cbind_true, ↓tbind_true, ↓tbind_false, Nat.reduceLT, Nat.reduceAdd, Nat.reduceMul, Nat.reduceSub, Nat.reduceEqDiff, Nat.reduceLeDiff, Nat.reduceBEq, reduceCtorEq, reduceIte]
  refine hK _ _ ?_; clear hK K
  refine awp_yes (by simp only [push_cast, ↓cases2_t, ↓cases2_f, ↓obind_some, ↓cbind_true, ↓tbind_true, ↓tbind_false, Nat.reduceLT, Nat.reduceAdd, Nat.reduceMul, Nat.reduceSub, Nat.reduceEqDiff, Nat.reduceLeDiff, Nat.reduceBEq, reduceCtorEq, reduceIte]) ?_
  refine awp_seq (awp_region_n envOk6 fun K hK => ?_)
  simp only [push_cast, ↓cases2_t, ↓cases2_f, ↓obind_some, ↓cbind_true, ↓tbind_true, ↓tbind_false, Nat.reduceLT, Nat.reduceAdd, Nat.reduceMul, Nat.reduceSub, Nat.reduceEqDiff, Nat.reduceLeDiff, Nat.reduceBEq, reduceCtorEq, reduceIte]
  refine hK _ _ ?_; clear hK K
  refine awp_ret ⟨rfl, _, res1 rfl (by decide), ?_⟩
  simp only [push_cast, ↓cases2_t, ↓cases2_f, ↓obind_some, ↓cbind_true, ↓tbind_true, ↓tbind_false, Nat.reduceLT, Nat.reduceAdd, Nat.reduceMul, Nat.reduceSub, Nat.reduceEqDiff, Nat.reduceLeDiff, Nat.reduceBEq, reduceCtorEq, reduceIte]
  exact ⟨⟨SlOwn.nil _ _, fun l hl => by cases hl⟩, (((Keeps.refl _ _).bump _).bump _).bump _⟩
 ·subst h2
  refine acall Tryz.func101 rfl ?_
  rw [entry1 Tryz.ntmps101 (by decide)]
  refine awp_seq (awp_region_n envOk6 fun K hK => ?_)
  simp only [push_cast, ↓cases2_t, ↓cases2_f, ↓obind_some, ↓cbind_true, ↓tbind_true, ↓tbind_false, Nat.reduceLT, Nat.reduceAdd, Nat.reduceMul, Nat.reduceSub, Nat.reduceEqDiff, Nat.reduceLeDiff, Nat.reduceBEq, reduceCtorEq, reduceIte]
  refine hK _ _ ?_; clear hK K
  refine awp_seq ?_
  refine awp_seq (awp_region_n envOk6 fun K hK => ?_)
  simp only [push_cast, ↓cases2_t, ↓cases2_f, ↓obind_some, ↓cbind_true, ↓tbind_true, ↓tbind_false, Nat.reduceLT, Nat.reduceAdd, Nat.reduceMul, Nat.reduceSub, Nat.reduceEqDiff, Nat.reduceLeDiff, Nat.reduceBEq, reduceCtorEq, reduceIte]
  refine hK _ _ ?_; clear hK K
  refine awp_no (by simp only [push_cast, ↓cases2_t, ↓cases2_f, ↓obind_some, ↓cbind_true, ↓tbind_true, ↓tbind_false, Nat.reduceLT, Nat.reduceAdd, Nat.reduceMul, Nat.reduceSub, Nat.reduceEqDiff, Nat.reduceLeDiff, Nat.reduceBEq, reduceCtorEq, reduceIte]) ?_
  refine awp_skip ?_
  refine awp_seq (awp_region_n envOk6 fun K hK => ?_)
  simp only [push_cast, ↓cases2_t, ↓cases2_f, ↓obind_some, ↓cbind_true, ↓tbind_true, ↓tbind_false, Nat.reduceLT, Nat.reduceAdd, Nat.reduceMul, Nat.reduceSub, Nat.reduceEqDiff, Nat.reduceLeDiff, Nat.reduceBEq, reduceCtorEq, reduceIte]
  have hk : Keep0 σ ((((σ.bump 1).bump 2).bump 4).upd (σ.nxt + 3) (some (AObj.cells [] 1 false))) := ((((Keeps.refl _ _).bump _).bump _).bump _).updNew (by omega) _
  refine at_append app26 (n := 0) (cs := []) (by simp only [push_cast, ↓cases2_t, ↓cases2_f, ↓obind_some, ↓cbind_true, ↓tbind_true, ↓tbind_false, Nat.reduceLT, Nat.reduceAdd, Nat.reduceMul, Nat.reduceSub, Nat.reduceEqDiff, Nat.reduceLeDiff, Nat.reduceBEq, reduceCtorEq, reduceIte]) (by simp only [push_cast, ↓cases2_t, ↓cases2_f, ↓obind_some, ↓cbind_true, ↓tbind_true, ↓tbind_false, Nat.reduceLT, Nat.reduceAdd, Nat.reduceMul, Nat.reduceSub, Nat.reduceEqDiff, Nat.reduceLeDiff, Nat.reduceBEq, reduceCtorEq, reduceIte]) ⟨rfl, .inr ⟨_, 0, 0, [], rfl, Nat.le_refl _, Heap.upd_same _ _ _, Nat.le_refl _, rfl⟩⟩ (h.keep hk hw).src (u8c_one _) (by omega) fun v' τ hv' hg => ?_
  simp only [push_cast, ↓cases2_t, ↓cases2_f, ↓obind_some, ↓cbind_true, ↓tbind_true, ↓tbind_false, Nat.reduceLT, Nat.reduceAdd, Nat.reduceMul, Nat.reduceSub, Nat.reduceEqDiff, Nat.reduceLeDiff, Nat.reduceBEq, reduceCtorEq, reduceIte]
  refine hK _ _ ?_; clear hK K
  refine awp_ret ⟨rfl, _, res1 rfl (by decide), ?_⟩
  simp only [push_cast, ↓cases2_t, ↓cases2_f, ↓obind_some, ↓cbind_true, ↓tbind_true, ↓tbind_false, Nat.reduceLT, Nat.reduceAdd, Nat.reduceMul, Nat.reduceSub, Nat.reduceEqDiff, Nat.reduceLeDiff, Nat.reduceBEq, reduceCtorEq, reduceIte]
  rw [Nat.zero_add, List.nil_append] at hv'
  refine ⟨⟨hv', fun l hl => ?_⟩, hk.grown hg (by omega) fun l hl => ?_⟩
  ·rcases hg.name with e | e | e <;> rw [e] at hl <;> cases hl <;> omega
  ·cases hl; left; omega

end Go.Proofs.YtehmailaabjdjaaGreat
