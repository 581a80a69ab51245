/-
  WHAT STAYS; SLICES AND BYTES IN AN ABSTRACT HEAP; the rules for stepping, as one set. No condition.
-/
import Derived.Test.YtehmailaabjdjaaGreatFacts2
import Derived.Lib.Strings
namespace Go.Proofs.YtehmailaabjdjaaGreat
set_option linter.unusedSimpArgs false
set_option linter.unusedVariables false

@[congr] theorem acall_congr {P : Program} {f : FuncId} {args args' : Array Value} {σ σ' : Heap} (h : args = args') (h2 : σ = σ') (R : Value → Heap → Prop) : ACall P f args σ R = ACall P f args' σ' R := by rw [h, h2]

theorem eq_self_iff' {α : Type} (a : α) : (a = a) = True := by simp
theorem ne_lt {l N : Nat} (h : l < N) (i : Nat) : (l = N + i) = False := by simp; omega
theorem ne_lt' {l N : Nat} (h : l < N) (i : Nat) : (N + i = l) = False := by simp; omega
theorem ne_lt0 {l N : Nat} (h : l < N) : (l = N) = False := by simp; omega
theorem ne_lt0' {l N : Nat} (h : l < N) : (N = l) = False := by simp; omega
theorem app_def (σ : Heap) (nm : Nat) (v : Value) (w : Option (Nat × Option AObj)) (n : Option AObj) : σ.app nm ⟨v, w, n⟩ = (σ.wr w).nw nm n := rfl
theorem wr_none (σ : Heap) : σ.wr none = σ := rfl
theorem wr_some (σ : Heap) (l : Nat) (o : Option AObj) : σ.wr (some (l, o)) = σ.upd l o := rfl
theorem nw_none (σ : Heap) (nm : Nat) : σ.nw nm none = σ := rfl
theorem nw_some (σ : Heap) (nm : Nat) (o : AObj) : σ.nw nm (some o) = σ.upd nm (some o) := rfl

theorem cells_agg (a : Array Value) : (Value.agg a).cells = a := rfl
theorem cells_int (k : IntKind) (i : Int) : (Value.int k i).cells = #[.int k i] := rfl
theorem cells_bool (b : Bool) : (Value.bool b).cells = #[.bool b] := rfl
theorem cells_str (s : ByteArray) : (Value.string s).cells = #[.string s] := rfl
theorem cells_ptr (p : Option Addr) : (Value.pointer p).cells = #[.pointer p] := rfl
theorem cells_sl (p : Option Addr) (n c : Nat) : (Value.slice p n c).cells = #[.slice p n c] := rfl
theorem cells_map (p : Option Nat) : (Value.map p).cells = #[.map p] := rfl
theorem cells_fun (f : Fn) (a b : Array Value) : (Value.func f a b).cells = #[.func f a b] := rfl
theorem one_int (k : IntKind) (i : Int) : oneCell (.int k i) = true := rfl
theorem one_bool (b : Bool) : oneCell (.bool b) = true := rfl
theorem one_str (s : ByteArray) : oneCell (.string s) = true := rfl
theorem one_ptr (p : Option Addr) : oneCell (.pointer p) = true := rfl
theorem one_sl (p : Option Addr) (n c : Nat) : oneCell (.slice p n c) = true := rfl
theorem one_map (p : Option Nat) : oneCell (.map p) = true := rfl
theorem one_fun (f : Fn) (a b : Array Value) : oneCell (.func f a b) = true := rfl
attribute [push_cast] easy_move tch_move easy_assign tch_assign easy_pick tch_pick easy_alloc tch_alloc easy_box tch_box easy_load tch_load easy_store tch_store easy_nilc tch_nilc easy_bin tch_bin easy_fa tch_fa easy_fld tch_fld easy_ia tch_ia easy_ext tch_ext easy_un tch_un easy_bld tch_bld easy_mf tch_mf easy_bs tch_bs easy_len tch_len easy_min tch_min easy_max tch_max easy_app tch_app easy_del tch_del easy_clr tch_clr easy_cpy tch_cpy easy_val tch_val easy_conv tch_conv easy_lk tch_lk easy_mu tch_mu easy_sl tch_sl easy_mm tch_mm easy_ms tch_ms easy_ix tch_ix easy_df tch_df easy_rg tch_rg easy_nx tch_nx easy_en tch_en
attribute [push_cast] runN_nil runN_n runN_g runT_nil runT_cons runU_n runU_g asPtr_p asCells_c asB_b asI_i asSl_s asAgg_a asTup_t unV_n lenV_s lenV_t fnId_f gdst_l ops_l binS_i binS_s binS_b binS_p binS_l aev_bool aev_int aev_string aev_nilptr aev_nilslice aev_nilmap aev_func intV_add intV_sub intV_mul intV_eql intV_neq intV_lss intV_leq intV_gtr intV_geq strV_eql strV_neq strV_lss strV_gtr optbind_some
attribute [push_cast] stepN stepK lenD binD rep plc fillL Nat.zero_add Nat.add_zero Nat.zero_mul fset_apply if_true if_false AA_put AA_put_none partO Option.map_some ge_zero ge_succ Heap.upd_get Heap.bump_get Heap.bump_nxt Heap.upd_nxt aeval_tmp decide_true decide_false Bool.not_true Bool.not_false beq_self_eq_true bne_self_eq_false cells_agg cells_int cells_bool cells_str cells_ptr cells_sl cells_map cells_fun splice List.take_zero List.take_succ_cons List.drop_zero List.drop_succ_cons List.nil_append List.cons_append List.append_nil List.length_cons List.length_nil plainL one_int one_bool one_str one_ptr one_sl one_map one_fun Bool.and_true Bool.true_and Bool.and_self and_self and_true true_and List.size_toArray
attribute [push_cast] touchT clashS callS keptS sameAt neAll ne1 memN kindOf cases2_t cases2_f Nat.add_assoc eq_self_iff' app_def wr_none wr_some nw_none nw_some ne_lt ne_lt' ne_lt0 ne_lt0'
theorem plain_nilsl (n c : Nat) : plainV (.slice none n c) = true := rfl
theorem plain_nilp : plainV (.pointer none) = true := rfl
theorem plain_nilm : plainV (.map none) = true := rfl
theorem run_mk (r : List Nat) (act : Nat → List AObj → Option Eff) (σ : Heap) (nm : Nat) : (Prim.mk r act).run σ nm = (getAll σ.get r).bind (act nm) := rfl
theorem wrOk_n (p : Prim) (v : Value) (n : Option AObj) : wrOk p ⟨v, none, n⟩ = true := rfl
theorem wrOk_s (r : List Nat) (act : Nat → List AObj → Option Eff) (v : Value) (l : Nat) (o : Option AObj) (n : Option AObj) : wrOk ⟨l :: r, act⟩ ⟨v, some (l, o), n⟩ = true := by simp [wrOk]
theorem wrOf_n (v : Value) (n : Option AObj) : wrOf ⟨v, none, n⟩ = [] := rfl
theorem wrOf_s (v : Value) (l : Nat) (o : Option AObj) (n : Option AObj) : wrOf ⟨v, some (l, o), n⟩ = [l] := rfl
theorem newOf_n (v : Value) (w : Option (Nat × Option AObj)) (nm : Nat) : newOf ⟨v, w, none⟩ nm = [] := rfl
theorem newOf_s (v : Value) (w : Option (Nat × Option AObj)) (o : AObj) (nm : Nat) : newOf ⟨v, w, some o⟩ nm = [nm] := rfl
theorem self_ne (N k : Nat) : (N = N + k) = (k = 0) := by simp
theorem self_ne' (N k : Nat) : (N + k = N) = (k = 0) := by simp
theorem nat_nn (n : Nat) : (0 ≤ (n : Int)) = True := by simp
attribute [push_cast] nat_nn Int.toNat_natCast self_ne self_ne' plain_int plain_bool plain_string plain_nilsl plain_nilp plain_nilm evList Prim.ofVal Prim.newCells Prim.newSlice run_mk getAll wrOk_n wrOk_s tchOf wrtOf newOf_n newOf_s wrOf_n wrOf_s Option.map_none Option.bind_none evParts List.toList_toArray Array.size

def stable : AObj → Bool
 | .cells _ sz ro => ro || sz == 1
 | _ => false

def Keeps (F : Nat → Prop) (σ τ : Heap) : Prop := σ.nxt ≤ τ.nxt ∧ ∀ x o, x < σ.nxt → σ.get x = some o → (F x → stable o = true) → τ.get x = some o

abbrev Keep0 (σ τ : Heap) : Prop := Keeps (fun _ => False) σ τ

theorem Keeps.refl (F : Nat → Prop) (σ : Heap) : Keeps F σ σ := ⟨Nat.le_refl _, fun _ _ _ h _ => h⟩
theorem Keeps.bump {F : Nat → Prop} {σ τ : Heap} (h : Keeps F σ τ) (n : Nat) : Keeps F σ (τ.bump n) := ⟨Nat.le_trans h.1 (Nat.le_add_right _ _), h.2⟩
theorem Keeps.updNew {F : Nat → Prop} {σ τ : Heap} (h : Keeps F σ τ) {n : Nat} (hn : σ.nxt ≤ n) (o : Option AObj) : Keeps F σ (τ.upd n o) :=
 ⟨h.1, fun x o' hx ho hf => by rw [Heap.upd_ne _ _ (by omega)]; exact h.2 x o' hx ho hf⟩

theorem Keeps.at {F : Nat → Prop} {σ τ : Heap} (h : Keeps F σ τ) (hw : σ.WF) {x : Nat} {o : AObj} (hx : σ.get x = some o) (hf : ¬ F x) : τ.get x = some o := h.2 x o (hw x o hx) hx fun k => absurd k hf
theorem Keeps.st {F : Nat → Prop} {σ τ : Heap} (h : Keeps F σ τ) (hw : σ.WF) {x : Nat} {o : AObj} (hx : σ.get x = some o) (hs : stable o = true) : τ.get x = some o := h.2 x o (hw x o hx) hx fun _ => hs

theorem awp_wf {P : Program} {c : Code} {Q : AQ} {a : Act} {σ : Heap} (h : σ.WF → AWP P c Q a σ) : AWP P c Q a σ :=
 fun ρ w ac hr ha => h (fun _ _ hl => hr.lt hl) ρ w ac hr ha

abbrev Gm := Nat → Option AObj

def SlC (g : Gm) (k : Nat) (v : Value) (n : Nat) (cs : List Value) : Prop :=
 cs.length = n * k ∧ ((v = .slice none 0 0 ∧ n = 0) ∨ (v = .slice (some ⟨0, 0, some 0⟩) 0 0 ∧ n = 0) ∨ ∃ l o c, v = .slice (some ⟨l, o, none⟩) n c ∧ n ≤ c ∧ (n = 0 ∨ ∃ cl ro, g l = some (.cells cl k ro) ∧ o + n * k ≤ cl.length ∧ (cl.drop o).take (n * k) = cs))

def SlOwn (g : Gm) (k : Nat) (v : Value) (n : Nat) (cs : List Value) : Prop :=
 cs.length = n * k ∧ ((v = .slice none 0 0 ∧ n = 0) ∨ ∃ l o c cl, v = .slice (some ⟨l, o, none⟩) n c ∧ n ≤ c ∧ g l = some (.cells cl k false) ∧ o + c * k ≤ cl.length ∧ (cl.drop o).take (n * k) = cs)

def vname : Value → Option Nat
 | .slice (some ⟨l, _, none⟩) _ _ => some l
 | .pointer (some ⟨l, _, _⟩) => some l
 | .map (some l) => some l
 | _ => none

theorem SlOwn.slc {g : Gm} {k n : Nat} {v : Value} {cs : List Value} (h : SlOwn g k v n cs) : SlC g k v n cs := by
 obtain ⟨h1, h2 | ⟨l, o, c, cl, h2, h3, h4, h5, h6⟩⟩ := h
 ·exact ⟨h1, .inl h2⟩
 ·exact ⟨h1, .inr (.inr ⟨l, o, c, h2, h3, .inr ⟨cl, false, h4, Nat.le_trans (Nat.add_le_add_left (Nat.mul_le_mul_right _ h3) _) h5, h6⟩⟩)⟩

theorem SlC.nil (g : Gm) (k : Nat) : SlC g k (.slice none 0 0) 0 [] := ⟨by simp, .inl ⟨rfl, rfl⟩⟩
theorem SlOwn.nil (g : Gm) (k : Nat) : SlOwn g k (.slice none 0 0) 0 [] := ⟨by simp, .inl ⟨rfl, rfl⟩⟩

theorem SlC.keep {F : Nat → Prop} {σ τ : Heap} {k n : Nat} {v : Value} {cs : List Value} (h : SlC σ.get k v n cs) (hk : Keeps F σ τ) (hw : σ.WF) (hv : k = 1 ∨ ∀ l, vname v = some l → ¬ F l) : SlC τ.get k v n cs := by
 obtain ⟨h1, h2 | h2 | ⟨l, o, c, h2, h3, h4 | ⟨cl, ro, h4, h5, h6⟩⟩⟩ := h
 ·exact ⟨h1, .inl h2⟩
 ·exact ⟨h1, .inr (.inl h2)⟩
 ·exact ⟨h1, .inr (.inr ⟨l, o, c, h2, h3, .inl h4⟩)⟩
 ·refine ⟨h1, .inr (.inr ⟨l, o, c, h2, h3, .inr ⟨cl, ro, ?_, h5, h6⟩⟩)⟩
  rcases hv with rfl | hv
  ·exact hk.st hw h4 (by simp [stable])
  ·exact hk.at hw h4 (hv l (by rw [h2]; rfl))

theorem SlC.len {g : Gm} {k n : Nat} {v : Value} {cs : List Value} (h : SlC g k v n cs) : ∃ a c, v = .slice a n c ∧ n ≤ c := by
 obtain ⟨h1, ⟨rfl, rfl⟩ | ⟨rfl, rfl⟩ | ⟨l, o, c, rfl, h3, _⟩⟩ := h
 ·exact ⟨_, _, rfl, Nat.le_refl _⟩
 ·exact ⟨_, _, rfl, Nat.le_refl _⟩
 ·exact ⟨_, _, rfl, h3⟩

theorem SlC.pos {g : Gm} {k n : Nat} {v : Value} {cs : List Value} (h : SlC g k v n cs) (hn : 0 < n) : ∃ l o c cl ro, v = .slice (some ⟨l, o, none⟩) n c ∧ n ≤ c ∧ g l = some (.cells cl k ro) ∧ o + n * k ≤ cl.length ∧ (cl.drop o).take (n * k) = cs := by
 obtain ⟨h1, ⟨rfl, rfl⟩ | ⟨rfl, rfl⟩ | ⟨l, o, c, rfl, h3, h4 | ⟨cl, ro, h4, h5, h6⟩⟩⟩ := h
 ·omega
 ·omega
 ·omega
 ·exact ⟨l, o, c, cl, ro, rfl, h3, h4, h5, h6⟩

theorem take_cell {cl cs : List Value} {o m j : Nat} (h : (cl.drop o).take m = cs) (hj : j < m) : cl[o + j]? = cs[j]? := by
 subst h
 rw [List.getElem?_take, if_pos hj, List.getElem?_drop]
theorem take_part {cl cs : List Value} {o m j s : Nat} (h : (cl.drop o).take m = cs) (hj : j + s ≤ m) : (cl.drop (o + j)).take s = (cs.drop j).take s := by
 subst h
 rw [List.drop_take, List.take_take, List.drop_drop, Nat.min_eq_left (by omega)]

theorem splice_end {cl src : List Value} {o n : Nat} (h : o + n + src.length ≤ cl.length) : ((splice cl (o + n) src).drop o).take (n + src.length) = (cl.drop o).take n ++ src := by
 have e : cl.take (o + n) = cl.take o ++ (cl.drop o).take n := by rw [List.take_add]
 have h1 : (cl.take o).length = o := by rw [List.length_take]; omega
 have h2 : ((cl.drop o).take n).length = n := by rw [List.length_take, List.length_drop]; omega
 unfold splice
 rw [e, List.append_assoc, List.append_assoc, List.drop_left' h1, ← List.append_assoc, List.take_left']
 rw [List.length_append, h2]

theorem src_slc {g : Gm} {k n : Nat} {v : Value} {cs : List Value} (h : SlC g k v n cs) : ∃ rs get objs, srcOf k v = some (rs, get, n) ∧ getAll g rs = some objs ∧ get objs = some cs := by
 obtain ⟨h1, ⟨rfl, rfl⟩ | ⟨rfl, rfl⟩ | ⟨l, o, c, rfl, h3, h4⟩⟩ := h
 ·have : cs = [] := List.eq_nil_of_length_eq_zero (by omega)
  subst this
  exact ⟨[], fun _ => some [], [], rfl, rfl, rfl⟩
 ·have : cs = [] := List.eq_nil_of_length_eq_zero (by omega)
  subst this
  exact ⟨[], fun _ => some [], [], rfl, rfl, rfl⟩
 ·by_cases hn : n = 0
  ·subst hn
   have : cs = [] := List.eq_nil_of_length_eq_zero (by omega)
   subst this
   exact ⟨[], fun _ => some [], [], by simp [srcOf], rfl, rfl⟩
  ·obtain ⟨cl, ro, h4, h5, h6⟩ := h4.resolve_left hn
   refine ⟨[l], _, [.cells cl k ro], by simp only [srcOf]; rw [if_neg hn], by simp [getAll, h4], ?_⟩
   simp only
   rw [if_pos h5, h6]

theorem grow_ok {P : Program} {t u e k by_ : Nat} {z : Value} (ht : P.underlying t = some (.slice e)) (hk : szO P e = some k) (hb : bytesO P e = some by_) (hz : zeroP P e = some z) (hzc : z.cells.size = k) (hk0 : 0 < k) (hb0 : 0 < by_)
    (hu : isSeqT (P.underlying u) = true) {σ : Heap} {nm n m : Nat} {v x : Value} {cs ds : List Value} {rs : List Nat} {get : List AObj → Option (List Value)} {objs : List AObj} (hv : SlOwn σ.get k v n cs)
    (hs : srcOf k x = some (rs, get, m)) (hg : getAll σ.get rs = some objs) (hget : get objs = some ds) (hlen : ds.length = m * k) (hone : plainL oneCell ds = true) (hfit : (n + m) * by_ ≤ 2 ^ 46) :
    ∃ p eff, aAppend P t u v x = some p ∧ p.run σ nm = some eff ∧ wrOk p eff = true ∧ SlOwn (σ.app nm eff).get k eff.val (n + m) (cs ++ ds) ∧
      (∀ l, l ≠ nm → vname v ≠ some l → (σ.app nm eff).get l = σ.get l) ∧ (σ.app nm eff).nxt = σ.nxt ∧ (vname eff.val = none ∨ vname eff.val = vname v ∨ vname eff.val = some nm) := by
  have hc : (!(decide (0 < k) && decide (0 < by_) && decide (z.cells.size = k) && isSeqT (P.underlying u))) = false := by simp [hk0, hb0, hzc, hu]
  obtain ⟨h1, ⟨rfl, rfl⟩ | ⟨l, o, c, cl, rfl, h3, h4, h5, h6⟩⟩ := hv
  · have hcs : cs = [] := List.eq_nil_of_length_eq_zero (by omega)
    subst hcs
    by_cases hm : m = 0
    · subst hm
      have hds : ds = [] := List.eq_nil_of_length_eq_zero (by omega)
      subst hds
      refine ⟨.ofVal (.slice none 0 0), ⟨.slice none 0 0, none, none⟩, ?_, rfl, rfl, SlOwn.nil _ _, fun _ _ _ => rfl, rfl, .inl rfl⟩
      unfold aAppend
      simp only [ht, hk, hb, hz, Option.bind_some, hc, hs, if_true, Bool.false_eq_true, if_false]
    · refine ⟨⟨rs, fun nm objs => (get objs).map fun c => ⟨.slice (some ⟨nm, 0, none⟩) m m, none, some (.cells c k false)⟩⟩, ⟨.slice (some ⟨nm, 0, none⟩) m m, none, some (.cells ds k false)⟩, ?_, ?_, rfl, ?_, ?_, rfl, .inr (.inr rfl)⟩
      · unfold aAppend
        simp only [ht, hk, hb, hz, Option.bind_some, hc, hs, if_neg hm, Bool.false_eq_true, if_false]
        rw [if_pos (by rw [Nat.zero_add] at hfit; omega)]
      · simp only [Prim.run, hg, Option.bind_some, hget, Option.map_some]
      · refine ⟨by simpa using hlen, .inr ⟨nm, 0, m, ds, by simp, by omega, ?_, by omega, ?_⟩⟩
        · simp [Heap.app, Heap.wr, Heap.nw]
        · rw [List.drop_zero, Nat.zero_add, ← hlen, List.take_length]; rfl
      · intro l hl _
        simp only [Heap.app, Heap.wr, Heap.nw]
        exact Heap.upd_ne _ _ hl
  · by_cases hm : m = 0
    · subst hm
      have hds : ds = [] := List.eq_nil_of_length_eq_zero (by omega)
      subst hds
      refine ⟨.ofVal (.slice (some ⟨l, o, none⟩) n c), ⟨.slice (some ⟨l, o, none⟩) n c, none, none⟩, ?_, rfl, rfl, ⟨by simpa using h1, .inr ⟨l, o, c, cl, rfl, h3, h4, h5, by simpa using h6⟩⟩, fun _ _ _ => rfl, rfl, .inr (.inl rfl)⟩
      unfold aAppend
      simp only [ht, hk, hb, hz, Option.bind_some, hc, hs, if_true, Bool.false_eq_true, if_false, if_pos h3]
    · by_cases hr : n + m ≤ c
      · have hnk : (n + m) * k ≤ c * k := Nat.mul_le_mul_right _ hr
        have hnk2 : (n + m) * k = n * k + m * k := Nat.add_mul ..
        refine ⟨⟨l :: rs, fun _ objs => match objs with
            | .cells cl sz false :: rest => (get rest).bind fun src => if plainL oneCell src && o + (n + m) * k ≤ cl.length then
                some ⟨.slice (some ⟨l, o, none⟩) (n + m) c, some (l, some (.cells (splice cl (o + n * k) src) sz false)), none⟩ else none
            | _ => none⟩, ⟨.slice (some ⟨l, o, none⟩) (n + m) c, some (l, some (.cells (splice cl (o + n * k) ds) k false)), none⟩, ?_, ?_, ?_, ?_, ?_, rfl, .inr (.inl rfl)⟩
        · unfold aAppend
          simp only [ht, hk, hb, hz, Option.bind_some, hc, hs, if_neg hm, Bool.false_eq_true, if_false, if_pos h3, if_pos hr]
          rfl
        · simp only [Prim.run, getAll, h4, hg, Option.bind_some, Option.map_some, hget, hone, Bool.true_and]
          rw [if_pos (by simp; omega)]
        · simp [wrOk]
        · refine ⟨by rw [List.length_append, h1, hlen, hnk2], .inr ⟨l, o, c, splice cl (o + n * k) ds, rfl, hr, ?_, ?_, ?_⟩⟩
          · simp [Heap.app, Heap.wr, Heap.nw]
          · rw [splice_length (by omega)]; exact h5
          · rw [hnk2, ← hlen, splice_end (by omega), h6]
        · intro x hx hne
          simp only [Heap.app, Heap.wr, Heap.nw]
          exact Heap.upd_ne _ _ (by rintro rfl; exact hne rfl)
      · refine ⟨⟨l :: rs, fun nm objs => match objs with
            | .cells cl sz ro :: rest => (get rest).bind fun src =>
              if sz = k && plainL oneCell src && o + n * k ≤ cl.length then
                if ro then
                  if o + c * sz ≠ cl.length && growFits c (n + m) by_ then
                    some ⟨.slice (some ⟨nm, 0, none⟩) (n + m) (n + m), none, some (.cells ((cl.drop o).take (n * k) ++ src) k false)⟩ else none
                else if (n + m) * by_ ≤ 2 ^ 46 then
                  some ⟨.slice (some ⟨nm, 0, none⟩) (n + m) (n + m), some (l, none), some (.cells ((cl.drop o).take (n * k) ++ src) k false)⟩ else none
              else none
            | _ => none⟩, ⟨.slice (some ⟨nm, 0, none⟩) (n + m) (n + m), some (l, none), some (.cells ((cl.drop o).take (n * k) ++ ds) k false)⟩, ?_, ?_, ?_, ?_, ?_, rfl, .inr (.inr rfl)⟩
        · unfold aAppend
          simp only [ht, hk, hb, hz, Option.bind_some, hc, hs, if_neg hm, Bool.false_eq_true, if_false, if_pos h3, if_neg hr]
          rfl
        · have hnk : n * k ≤ c * k := Nat.mul_le_mul_right _ h3
          simp only [Prim.run, getAll, h4, hg, Option.bind_some, Option.map_some, hget, hone, Bool.and_true, decide_true, Bool.true_and]
          rw [if_pos (by simp; omega)]
          simp only [Bool.false_eq_true, if_false]
          rw [if_pos hfit]
        · simp [wrOk]
        · have e : (n + m) * k = n * k + m * k := Nat.add_mul ..
          refine ⟨by rw [List.length_append, h1, hlen, e], .inr ⟨nm, 0, n + m, cs ++ ds, rfl, Nat.le_refl _, ?_, ?_, ?_⟩⟩
          · simp [Heap.app, Heap.wr, Heap.nw, h6]
          · rw [List.length_append, h1, hlen, e]; omega
          · rw [List.drop_zero, e, ← h1, ← hlen, ← List.length_append, List.take_length]
        · intro x hx hne
          simp only [Heap.app, Heap.wr, Heap.nw]
          rw [Heap.upd_ne _ _ hx]
          exact Heap.upd_ne _ _ (by rintro rfl; exact hne rfl)

def u8c (l : List UInt8) : List Value := l.map fun b => .int .u8 b.toNat
theorem u8c_length (l : List UInt8) : (u8c l).length = l.length := by simp [u8c]
theorem u8c_one (l : List UInt8) : plainL oneCell (u8c l) = true := by
 induction l with
 | nil => rfl
 | cons a l ih => simp only [u8c, List.map_cons, plainL, oneCell, Bool.true_and]; exact ih

def str (l : List UInt8) : ByteArray := ⟨l.toArray⟩
theorem str_size (l : List UInt8) : (str l).size = l.length := by simp [str, ByteArray.size]
theorem str_list (l : List UInt8) : (str l).data.toList = l := by simp [str]
theorem str_of (s : ByteArray) : str s.data.toList = s := by cases s; simp [str]
theorem str_inj {l m : List UInt8} (h : str l = str m) : l = m := by rw [← str_list l, h, str_list]

def BytesAt (g : Gm) (v : Value) (bs : List UInt8) : Prop := SlC g 1 v bs.length (u8c bs)

theorem BytesAt.keep {F : Nat → Prop} {σ τ : Heap} {v : Value} {bs : List UInt8} (h : BytesAt σ.get v bs) (hk : Keeps F σ τ) (hw : σ.WF) : BytesAt τ.get v bs := SlC.keep h hk hw (.inl rfl)

theorem bytesOf_u8c : ∀ (l : List UInt8) (acc : ByteArray), bytesOf (u8c l) acc = some (str (acc.data.toList ++ l))
 | [], acc => by simp [u8c, bytesOf, str_of]
 | b :: l, acc => by
  have : u8c (b :: l) = .int .u8 b.toNat :: u8c l := rfl
  rw [this]
  simp only [bytesOf]
  rw [bytesOf_u8c l]
  congr 2
  simp [ByteArray.push]

end Go.Proofs.YtehmailaabjdjaaGreat
