/-
  WHAT LIES IN MEMORY: bytes, events; entering a function, its results; slices.Clone. No condition.
-/
import Derived.Test.YtehmailaabjdjaaGreatKit2
open Go.Proofs
namespace Go.Proofs.YtehmailaabjdjaaGreat
set_option linter.unusedSimpArgs false
set_option linter.unusedVariables false
set_option maxRecDepth 100000
set_option maxHeartbeats 4000000

def U : Nat → Value := fun _ => undef

theorem entry0 {fn : Func} {n : Nat} (hn : fn.ntmps = n) : aEntry fn #[] = AA n U [] := by
  rw [aEntry_AA hn (by simp)]
  congr 1
theorem entry1 {fn : Func} {n : Nat} (hn : fn.ntmps = n) (h : 1 ≤ n) (a : Value) : aEntry fn #[a] = AA n (fset U 0 a) [] := by
  rw [aEntry_AA hn (by simpa using h)]
  congr 1; funext t
  rcases t with _ | t <;> simp [fset, U]
theorem entry2 {fn : Func} {n : Nat} (hn : fn.ntmps = n) (h : 2 ≤ n) (a b : Value) : aEntry fn #[a, b] = AA n (fset (fset U 0 a) 1 b) [] := by
  rw [aEntry_AA hn (by simpa using h)]
  congr 1; funext t
  rcases t with _ | _ | t <;> simp [fset, U]
theorem entry3 {fn : Func} {n : Nat} (hn : fn.ntmps = n) (h : 3 ≤ n) (a b c : Value) : aEntry fn #[a, b, c] = AA n (fset (fset (fset U 0 a) 1 b) 2 c) [] := by
  rw [aEntry_AA hn (by simpa using h)]
  congr 1; funext t
  rcases t with _ | _ | _ | t <;> simp [fset, U]
theorem entry4 {fn : Func} {n : Nat} (hn : fn.ntmps = n) (h : 4 ≤ n) (a b c d : Value) : aEntry fn #[a, b, c, d] = AA n (fset (fset (fset (fset U 0 a) 1 b) 2 c) 3 d) [] := by
  rw [aEntry_AA hn (by simpa using h)]
  congr 1; funext t
  rcases t with _ | _ | _ | _ | t <;> simp [fset, U]

theorem res1 {P : Program} {fn : Func} {n t : Nat} {f : Nat → Value} {σ : Heap} (hr : fn.results = #[.tmp t]) (ht : t < n) : aRes P fn (AA n f []) σ = some (f t) := by
  unfold aRes
  rw [hr]
  simp only [aResL, aRes1, AA, mkT_getD ht, Option.bind_some, Option.map_some, aOne]
theorem res2 {P : Program} {fn : Func} {n t u : Nat} {f : Nat → Value} {σ : Heap} (hr : fn.results = #[.tmp t, .tmp u]) (ht : t < n) (hu : u < n) : aRes P fn (AA n f []) σ = some (.tuple #[f t, f u]) := by
  unfold aRes
  rw [hr]
  simp only [aResL, aRes1, AA, mkT_getD ht, mkT_getD hu, Option.bind_some, Option.map_some, aOne]
theorem res0 {P : Program} {fn : Func} {n : Nat} {f : Nat → Value} {σ : Heap} (hr : fn.results = #[]) : aRes P fn (AA n f []) σ = some (.tuple #[]) := by
  unfold aRes
  rw [hr]
  rfl
/-- A struct that is handed back. -/
theorem resC {P : Program} {fn : Func} {n t T s o l : Nat} {f : Nat → Value} {σ : Heap} {c : List Value} {sz : Nat} {ro : Bool} (hr : fn.results = #[.cell t T]) (ht : t < n) (hf : f t = .pointer (some ⟨l, o, none⟩)) (hg : σ.get l = some (.cells c sz ro))
    (ha : aggO P T = some true) (hs : szO P T = some s) (hl : o + s ≤ c.length) : aRes P fn (AA n f []) σ = some (.agg ((c.drop o).take s).toArray) := by
  unfold aRes
  rw [hr]
  simp only [aResL, aRes1, AA, mkT_getD ht, hf, hg, partO, ha, hs, Option.bind_some, if_pos hl, Option.map_some, aOne]
theorem resC1 {P : Program} {fn : Func} {n t T s o l u : Nat} {f : Nat → Value} {σ : Heap} {c : List Value} {sz : Nat} {ro : Bool} (hr : fn.results = #[.cell t T, .tmp u]) (ht : t < n) (hu : u < n) (hf : f t = .pointer (some ⟨l, o, none⟩)) (hg : σ.get l = some (.cells c sz ro))
    (ha : aggO P T = some true) (hs : szO P T = some s) (hl : o + s ≤ c.length) : aRes P fn (AA n f []) σ = some (.tuple #[.agg ((c.drop o).take s).toArray, f u]) := by
  unfold aRes
  rw [hr]
  simp only [aResL, aRes1, AA, mkT_getD ht, mkT_getD hu, hf, hg, partO, ha, hs, Option.bind_some, if_pos hl, Option.map_some, aOne]

/-- Bytes that are new: in a row of their own. -/
def BytesNew (b : Nat) (g : Gm) (v : Value) (bs : List UInt8) : Prop := SlOwn g 1 v bs.length (u8c bs) ∧ ∀ l, vname v = some l → b ≤ l

theorem BytesNew.at {b : Nat} {g : Gm} {v : Value} {bs : List UInt8} (h : BytesNew b g v bs) : BytesAt g v bs := h.1.slc

theorem BytesAt.keep0 {σ τ : Heap} {v : Value} {bs : List UInt8} (h : BytesAt σ.get v bs) (hk : Keep0 σ τ) (hw : σ.WF) : BytesAt τ.get v bs := h.keep hk hw
theorem SlC.keep0 {σ τ : Heap} {k n : Nat} {v : Value} {cs : List Value} (h : SlC σ.get k v n cs) (hk : Keep0 σ τ) (hw : σ.WF) : SlC τ.get k v n cs := h.keep hk hw (.inr fun _ _ k => k)
theorem SlOwn.keep0 {σ τ : Heap} {k n : Nat} {v : Value} {cs : List Value} (h : SlOwn σ.get k v n cs) (hk : Keep0 σ τ) (hw : σ.WF) : SlOwn τ.get k v n cs := h.keep hk hw (.inr fun _ _ k => k)

/-- Where an element of a slice lies. -/
theorem SlC.at {g : Gm} {k n i : Nat} {v : Value} {cs : List Value} (h : SlC g k v n cs) (hi : i < n) : ∃ l o c cl ro, v = .slice (some ⟨l, o, none⟩) n c ∧ g l = some (.cells cl k ro) ∧ o + (i * k + k) ≤ cl.length ∧ (cl.drop (o + i * k)).take k = (cs.drop (i * k)).take k := by
  obtain ⟨l, o, c, cl, ro, h1, h2, h3, h4, h5⟩ := h.pos (by omega)
  have hm : i * k + k ≤ n * k := by rw [← Nat.succ_mul]; exact Nat.mul_le_mul_right _ hi
  exact ⟨l, o, c, cl, ro, h1, h3, by omega, take_part h5 hm⟩

theorem SlOwn.at {g : Gm} {k n i : Nat} {v : Value} {cs : List Value} (h : SlOwn g k v n cs) (hi : i < n) : ∃ l o c cl, v = .slice (some ⟨l, o, none⟩) n c ∧ n ≤ c ∧ g l = some (.cells cl k false) ∧ o + (i * k + k) ≤ cl.length ∧ o + c * k ≤ cl.length ∧ (cl.drop (o + i * k)).take k = (cs.drop (i * k)).take k ∧ (cl.drop o).take (n * k) = cs := by
  obtain ⟨h1, ⟨rfl, rfl⟩ | ⟨l, o, c, cl, rfl, h3, h4, h5, h6⟩⟩ := h
  · omega
  · have hm : i * k + k ≤ n * k := by rw [← Nat.succ_mul]; exact Nat.mul_le_mul_right _ hi
    have := Nat.mul_le_mul_right k h3
    exact ⟨l, o, c, cl, rfl, h3, h4, by omega, h5, take_part h6 hm, h6⟩

theorem splice_in {cl src : List Value} {o m j : Nat} (h : o + m ≤ cl.length) (hj : j + src.length ≤ m) : ((splice cl (o + j) src).drop o).take m = splice ((cl.drop o).take m) j src := by
  apply List.ext_getElem?
  intro x
  have hs : ((cl.drop o).take m).length = m := by rw [List.length_take, List.length_drop]; omega
  rw [splice_get (by omega), List.getElem?_take, List.getElem?_drop, splice_get (by omega)]
  by_cases hx : x < m
  · rw [if_pos hx, List.getElem?_take, if_pos hx, List.getElem?_drop]
    by_cases h1 : j ≤ x ∧ x < j + src.length
    · rw [if_pos (by omega), if_pos (by omega), show o + x - (o + j) = x - j by omega]
    · rw [if_neg (by omega), if_neg (by omega)]
  · rw [if_neg hx, if_neg (by omega), List.getElem?_eq_none (by omega)]

/-! ### append -/

/-- What an append's types are: k cells an element, b bytes. -/
def AppT (P : Program) (t u k b : Nat) : Prop := ∃ e z, P.underlying t = some (.slice e) ∧ szO P e = some k ∧ bytesO P e = some b ∧ zeroP P e = some z ∧ z.cells.size = k ∧ 0 < k ∧ 0 < b ∧ isSeqT (P.underlying u) = true

/-- What is appended. -/
def Src (g : Gm) (k : Nat) (w : Value) (m : Nat) (ds : List Value) : Prop := ∃ rs get objs, srcOf k w = some (rs, get, m) ∧ getAll g rs = some objs ∧ get objs = some ds ∧ ds.length = m * k

theorem SlC.src {g : Gm} {k n : Nat} {v : Value} {cs : List Value} (h : SlC g k v n cs) : Src g k v n cs := by
  obtain ⟨rs, get, objs, h1, h2, h3⟩ := src_slc h
  exact ⟨rs, get, objs, h1, h2, h3, h.1⟩
theorem Src.string (g : Gm) (s : ByteArray) : Src g 1 (.string s) s.size (u8c s.data.toList) :=
  ⟨[], fun _ => some (u8c s.data.toList), [], by unfold srcOf; exact if_pos rfl, rfl, rfl, by rw [u8c_length, Array.length_toList, Nat.mul_one]; rfl⟩

/-- What append leaves of the heap: v' has taken v's place. -/
structure Grown (σ τ : Heap) (nm : Nat) (v v' : Value) : Prop where
  same : ∀ l, l ≠ nm → vname v ≠ some l → τ.get l = σ.get l
  nxt : τ.nxt = σ.nxt
  name : vname v' = none ∨ vname v' = vname v ∨ vname v' = some nm

theorem grow_app {P : Program} {t u k b : Nat} (hT : AppT P t u k b) {σ : Heap} {nm n m : Nat} {v x : Value} {cs ds : List Value} (hv : SlOwn σ.get k v n cs) (hs : Src σ.get k x m ds) (hone : plainL oneCell ds = true) (hfit : (n + m) * b ≤ 2 ^ 46) :
    ∃ p eff, aAppend P t u v x = some p ∧ p.run σ nm = some eff ∧ wrOk p eff = true ∧ SlOwn (σ.app nm eff).get k eff.val (n + m) (cs ++ ds) ∧ Grown σ (σ.app nm eff) nm v eff.val := by
  obtain ⟨e, z, h1, h2, h3, h4, h5, h6, h7, h8⟩ := hT
  obtain ⟨rs, get, objs, k1, k2, k3, k4⟩ := hs
  obtain ⟨p, eff, q1, q2, q3, q4, q5, q6, q7⟩ := grow_ok h1 h2 h3 h4 h5 h6 h7 h8 hv k1 k2 k3 k4 hone hfit (nm := nm)
  exact ⟨p, eff, q1, q2, q3, q4, q5, q6, q7⟩

theorem at_append {E : Env} {ops : Array Oper} {base i : Nat} {dst : Option Tmp} {ty : TypeId} {pos : String} {af : Array Edge} {gd : Option (Nat × Bool)} {x y : Operand} {t u k b : Nat} {os : List Oper} {a : Act} {σ : Heap} {K : Act → Heap → Prop} {n m : Nat} {v w : Value} {cs ds : List Value}
    (hT : AppT E.P t u k b) (hx : aeval a x = some v) (hy : aeval a y = some w) (hv : SlOwn σ.get k v n cs) (hs : Src σ.get k w m ds) (hone : plainL oneCell ds = true) (hfit : (n + m) * b ≤ 2 ^ 46)
    (h : ∀ v' τ, SlOwn τ.get k v' (n + m) (cs ++ ds) → Grown σ τ (base + i) v v' → runN E ops base (i + 1) os (a.put dst v') τ K) : At E ops base i ⟨dst, .call ⟨.builtin .append, #[x, y], #[t, u]⟩, ty, pos, af, gd⟩ os a σ K := by
  obtain ⟨p, eff, h1, h2, h3, h4, h5⟩ := grow_app hT hv hs hone hfit (nm := base + i)
  refine at_prim (p := p) (eff := eff) ?_ h2 h3 (h _ _ h4 h5)
  simp only [aop, aCall, List.toList_toArray, evList, hx, hy, Option.bind_some, Option.map_some, aBuiltin, h1]

theorem ats_append {E : Env} {ops : Array Oper} {base i : Nat} {lo : List Nat} {L : List (Nat × List Nat)} {D : List Rec} {dst : Option Tmp} {ty : TypeId} {pos : String} {af : Array Edge} {gd : Option (Nat × Bool)} {x y : Operand} {t u k b : Nat} {a : Act} {σ : Heap} {K : Act → Heap → Prop} {n m : Nat} {v w : Value} {cs ds : List Value}
    (hT : AppT E.P t u k b) (hx : aeval a x = some v) (hy : aeval a y = some w) (hv : SlOwn σ.get k v n cs) (hs : Src σ.get k w m ds) (hone : plainL oneCell ds = true) (hfit : (n + m) * b ≤ 2 ^ 46)
    (h : ∀ v' τ tch wrt, SlOwn τ.get k v' (n + m) (cs ++ ds) → Grown σ τ (base + i) v v' → clashS lo tch wrt D ∧ runT E ops base L (⟨i, tch, wrt, false⟩ :: D) (a.put dst v') τ K) : AtS E ops base i lo L D ⟨dst, .call ⟨.builtin .append, #[x, y], #[t, u]⟩, ty, pos, af, gd⟩ a σ K := by
  obtain ⟨p, eff, h1, h2, h3, h4, h5⟩ := grow_app hT hv hs hone hfit (nm := base + i)
  refine ats_prim (p := p) (eff := eff) ?_ h2 h3 ?_
  · simp only [aop, aCall, List.toList_toArray, evList, hx, hy, Option.bind_some, Option.map_some, aBuiltin, h1]
  · obtain ⟨k1, k2⟩ := h _ _ (tchOf p eff (base + i)) (wrtOf eff (base + i)) h4 h5
    exact ⟨by simp only [kindOf]; exact k1, k2⟩

theorem app26 : AppT E6.P 26 26 1 1 := ⟨5, _, un_26, sz_5, by_5, zp_5, rfl, by decide, by decide, by rw [un_26]; rfl⟩
theorem app65 : AppT E6.P 65 65 4 56 := ⟨82, _, un_65, sz_82, by_82, zp_82, rfl, by decide, by decide, by rw [un_65]; rfl⟩

/-! ### Calls -/

theorem X_23 : E6.X 23 = none := rfl
theorem B_23 : E6.B 23 = true := rfl
theorem X_24 : E6.X 24 = none := rfl
theorem B_24 : E6.B 24 = true := rfl
theorem X_25 : E6.X 25 = none := rfl
theorem B_25 : E6.B 25 = true := rfl
theorem X_26 : E6.X 26 = none := rfl
theorem B_26 : E6.B 26 = true := rfl
theorem X_27 : E6.X 27 = none := rfl
theorem B_27 : E6.B 27 = true := rfl
theorem X_28 : E6.X 28 = none := rfl
theorem B_28 : E6.B 28 = true := rfl
theorem X_29 : E6.X 29 = none := rfl
theorem B_29 : E6.B 29 = true := rfl
theorem X_30 : E6.X 30 = none := rfl
theorem B_30 : E6.B 30 = true := rfl
theorem X_31 : E6.X 31 = none := rfl
theorem B_31 : E6.B 31 = true := rfl
theorem X_32 : E6.X 32 = none := rfl
theorem B_32 : E6.B 32 = true := rfl
theorem X_33 : E6.X 33 = none := rfl
theorem B_33 : E6.B 33 = true := rfl
theorem X_34 : E6.X 34 = none := rfl
theorem B_34 : E6.B 34 = true := rfl
theorem X_35 : E6.X 35 = none := rfl
theorem B_35 : E6.B 35 = true := rfl
theorem X_36 : E6.X 36 = none := rfl
theorem B_36 : E6.B 36 = true := rfl
theorem X_37 : E6.X 37 = none := rfl
theorem B_37 : E6.B 37 = true := rfl
theorem X_38 : E6.X 38 = none := rfl
theorem B_38 : E6.B 38 = true := rfl
theorem X_39 : E6.X 39 = none := rfl
theorem B_39 : E6.B 39 = true := rfl
theorem X_40 : E6.X 40 = none := rfl
theorem B_40 : E6.B 40 = true := rfl
theorem X_41 : E6.X 41 = none := rfl
theorem B_41 : E6.B 41 = true := rfl
theorem X_42 : E6.X 42 = none := rfl
theorem B_42 : E6.B 42 = true := rfl
theorem X_43 : E6.X 43 = none := rfl
theorem B_43 : E6.B 43 = true := rfl
theorem X_44 : E6.X 44 = none := rfl
theorem B_44 : E6.B 44 = true := rfl
theorem X_45 : E6.X 45 = none := rfl
theorem B_45 : E6.B 45 = true := rfl
theorem X_46 : E6.X 46 = none := rfl
theorem B_46 : E6.B 46 = true := rfl
theorem X_47 : E6.X 47 = none := rfl
theorem B_47 : E6.B 47 = true := rfl
theorem X_48 : E6.X 48 = none := rfl
theorem B_48 : E6.B 48 = true := rfl
theorem X_49 : E6.X 49 = none := rfl
theorem B_49 : E6.B 49 = true := rfl
theorem X_50 : E6.X 50 = none := rfl
theorem B_50 : E6.B 50 = true := rfl
theorem X_51 : E6.X 51 = none := rfl
theorem B_51 : E6.B 51 = true := rfl
theorem X_52 : E6.X 52 = none := rfl
theorem B_52 : E6.B 52 = true := rfl
theorem X_53 : E6.X 53 = none := rfl
theorem B_53 : E6.B 53 = true := rfl
theorem X_54 : E6.X 54 = none := rfl
theorem B_54 : E6.B 54 = true := rfl
theorem X_55 : E6.X 55 = none := rfl
theorem B_55 : E6.B 55 = true := rfl
theorem X_56 : E6.X 56 = none := rfl
theorem B_56 : E6.B 56 = true := rfl
theorem X_57 : E6.X 57 = none := rfl
theorem B_57 : E6.B 57 = true := rfl
theorem X_58 : E6.X 58 = none := rfl
theorem B_58 : E6.B 58 = true := rfl
theorem X_59 : E6.X 59 = none := rfl
theorem B_59 : E6.B 59 = true := rfl
theorem X_60 : E6.X 60 = none := rfl
theorem B_60 : E6.B 60 = true := rfl
theorem X_61 : E6.X 61 = none := rfl
theorem B_61 : E6.B 61 = true := rfl
theorem X_62 : E6.X 62 = none := rfl
theorem B_62 : E6.B 62 = true := rfl
theorem X_63 : E6.X 63 = none := rfl
theorem B_63 : E6.B 63 = true := rfl
theorem X_64 : E6.X 64 = none := rfl
theorem B_64 : E6.B 64 = true := rfl
theorem X_65 : E6.X 65 = none := rfl
theorem B_65 : E6.B 65 = true := rfl
theorem X_66 : E6.X 66 = none := rfl
theorem B_66 : E6.B 66 = true := rfl
theorem X_67 : E6.X 67 = none := rfl
theorem B_67 : E6.B 67 = true := rfl
theorem X_68 : E6.X 68 = none := rfl
theorem B_68 : E6.B 68 = true := rfl
theorem X_69 : E6.X 69 = none := rfl
theorem B_69 : E6.B 69 = true := rfl
theorem X_70 : E6.X 70 = none := rfl
theorem B_70 : E6.B 70 = true := rfl
theorem X_71 : E6.X 71 = none := rfl
theorem B_71 : E6.B 71 = true := rfl
theorem X_72 : E6.X 72 = none := rfl
theorem B_72 : E6.B 72 = true := rfl
theorem X_73 : E6.X 73 = none := rfl
theorem B_73 : E6.B 73 = true := rfl
theorem X_74 : E6.X 74 = none := rfl
theorem B_74 : E6.B 74 = true := rfl
theorem X_75 : E6.X 75 = none := rfl
theorem B_75 : E6.B 75 = true := rfl
theorem X_76 : E6.X 76 = none := rfl
theorem B_76 : E6.B 76 = true := rfl
theorem X_77 : E6.X 77 = none := rfl
theorem B_77 : E6.B 77 = true := rfl
theorem X_78 : E6.X 78 = none := rfl
theorem B_78 : E6.B 78 = true := rfl
theorem X_79 : E6.X 79 = none := rfl
theorem B_79 : E6.B 79 = true := rfl
theorem X_80 : E6.X 80 = none := rfl
theorem B_80 : E6.B 80 = true := rfl
theorem X_81 : E6.X 81 = none := rfl
theorem B_81 : E6.B 81 = true := rfl
theorem X_82 : E6.X 82 = none := rfl
theorem B_82 : E6.B 82 = true := rfl
theorem X_83 : E6.X 83 = none := rfl
theorem B_83 : E6.B 83 = true := rfl
theorem X_84 : E6.X 84 = none := rfl
theorem B_84 : E6.B 84 = true := rfl
theorem X_85 : E6.X 85 = none := rfl
theorem B_85 : E6.B 85 = true := rfl
theorem X_86 : E6.X 86 = none := rfl
theorem B_86 : E6.B 86 = true := rfl
theorem X_87 : E6.X 87 = none := rfl
theorem B_87 : E6.B 87 = true := rfl
theorem X_88 : E6.X 88 = none := rfl
theorem B_88 : E6.B 88 = true := rfl
theorem X_89 : E6.X 89 = none := rfl
theorem B_89 : E6.B 89 = true := rfl
theorem X_90 : E6.X 90 = none := rfl
theorem B_90 : E6.B 90 = true := rfl
theorem X_91 : E6.X 91 = none := rfl
theorem B_91 : E6.B 91 = true := rfl
theorem X_92 : E6.X 92 = none := rfl
theorem B_92 : E6.B 92 = true := rfl
theorem X_93 : E6.X 93 = none := rfl
theorem B_93 : E6.B 93 = true := rfl
theorem X_94 : E6.X 94 = none := rfl
theorem B_94 : E6.B 94 = true := rfl
theorem X_95 : E6.X 95 = none := rfl
theorem B_95 : E6.B 95 = true := rfl
theorem X_96 : E6.X 96 = none := rfl
theorem B_96 : E6.B 96 = true := rfl
theorem X_97 : E6.X 97 = none := rfl
theorem B_97 : E6.B 97 = true := rfl
theorem X_98 : E6.X 98 = none := rfl
theorem B_98 : E6.B 98 = true := rfl
theorem X_99 : E6.X 99 = none := rfl
theorem B_99 : E6.B 99 = true := rfl
theorem X_101 : E6.X 101 = none := rfl
theorem B_101 : E6.B 101 = true := rfl
theorem X_102 : E6.X 102 = none := rfl
theorem B_102 : E6.B 102 = true := rfl
theorem X_103 : E6.X 103 = none := rfl
theorem B_103 : E6.B 103 = true := rfl
theorem X_104 : E6.X 104 = none := rfl
theorem B_104 : E6.B 104 = true := rfl
theorem X_105 : E6.X 105 = none := rfl
theorem B_105 : E6.B 105 = true := rfl
theorem X_106 : E6.X 106 = none := rfl
theorem B_106 : E6.B 106 = true := rfl
theorem X_107 : E6.X 107 = none := rfl
theorem B_107 : E6.B 107 = true := rfl
theorem X_108 : E6.X 108 = none := rfl
theorem B_108 : E6.B 108 = true := rfl
theorem X_109 : E6.X 109 = none := rfl
theorem B_109 : E6.B 109 = true := rfl
theorem X_110 : E6.X 110 = none := rfl
theorem B_110 : E6.B 110 = true := rfl
theorem X_111 : E6.X 111 = none := rfl
theorem B_111 : E6.B 111 = true := rfl
theorem X_112 : E6.X 112 = none := rfl
theorem B_112 : E6.B 112 = true := rfl
theorem X_114 : E6.X 114 = none := rfl
theorem B_114 : E6.B 114 = true := rfl
theorem X_115 : E6.X 115 = none := rfl
theorem B_115 : E6.B 115 = true := rfl
theorem X_116 : E6.X 116 = none := rfl
theorem B_116 : E6.B 116 = true := rfl
theorem X_117 : E6.X 117 = none := rfl
theorem B_117 : E6.B 117 = true := rfl
theorem X_118 : E6.X 118 = none := rfl
theorem B_118 : E6.B 118 = true := rfl
theorem X_132 : E6.X 132 = none := rfl
theorem B_132 : E6.B 132 = true := rfl
theorem X_133 : E6.X 133 = none := rfl
theorem B_133 : E6.B 133 = true := rfl
theorem X_166 : E6.X 166 = none := rfl
theorem B_166 : E6.B 166 = true := rfl
attribute [push_cast] X_23 B_23 X_24 B_24 X_25 B_25 X_26 B_26 X_27 B_27 X_28 B_28 X_29 B_29 X_30 B_30 X_31 B_31 X_32 B_32 X_33 B_33 X_34 B_34 X_35 B_35 X_36 B_36 X_37 B_37 X_38 B_38 X_39 B_39 X_40 B_40 X_41 B_41 X_42 B_42 X_43 B_43 X_44 B_44 X_45 B_45 X_46 B_46 X_47 B_47 X_48 B_48 X_49 B_49 X_50 B_50 X_51 B_51 X_52 B_52 X_53 B_53 X_54 B_54 X_55 B_55 X_56 B_56 X_57 B_57 X_58 B_58 X_59 B_59 X_60 B_60 X_61 B_61 X_62 B_62 X_63 B_63 X_64 B_64 X_65 B_65 X_66 B_66 X_67 B_67 X_68 B_68 X_69 B_69 X_70 B_70 X_71 B_71 X_72 B_72 X_73 B_73 X_74 B_74 X_75 B_75 X_76 B_76 X_77 B_77 X_78 B_78 X_79 B_79 X_80 B_80 X_81 B_81 X_82 B_82 X_83 B_83 X_84 B_84 X_85 B_85 X_86 B_86 X_87 B_87 X_88 B_88 X_89 B_89 X_90 B_90 X_91 B_91 X_92 B_92 X_93 B_93 X_94 B_94 X_95 B_95 X_96 B_96 X_97 B_97 X_98 B_98 X_99 B_99 X_101 B_101 X_102 B_102 X_103 B_103 X_104 B_104 X_105 B_105 X_106 B_106 X_107 B_107 X_108 B_108 X_109 B_109 X_110 B_110 X_111 B_111 X_112 B_112 X_114 B_114 X_115 B_115 X_116 B_116 X_117 B_117 X_118 B_118 X_132 B_132 X_133 B_133 X_166 B_166

section
variable {ops : Array Oper} {base i : Nat} {os : List Oper} {o : Oper} {a : Act} {σ : Heap} {K : Act → Heap → Prop}

theorem at_fun (f : FuncId) (args : Array Value) (hc : aop E6 (aeval a) o = some (.call f args)) (h : σ.WF → ACall E6.P f args σ fun v τ => runN E6 ops base (i + 1) os (a.put o.dst v) τ K) : At E6 ops base i o os a σ K := at_call hc (ACall.wf h)

theorem ats_fun {lo : List Nat} {L : List (Nat × List Nat)} {D : List Rec} (f : FuncId) (args : Array Value) (hc : aop E6 (aeval a) o = some (.call f args)) (hf : callS lo D)
    (h : σ.WF → ACall E6.P f args σ fun v τ => keptS lo σ τ D ∧ runT E6 ops base L D (a.put o.dst v) τ K) : AtS E6 ops base i lo L D o a σ K := ats_call hc hf (ACall.wf h)
end

/-- What a contract gives, and that the heap is as heaps are. -/
theorem ACall.use {P : Program} {f : FuncId} {args : Array Value} {σ : Heap} {R R' : Value → Heap → Prop} (h : ACall P f args σ R) (k : ∀ v τ, τ.WF → R v τ → R' v τ) : ACall P f args σ R' :=
  h.strong.mono fun v τ ⟨h1, h2, _⟩ => k v τ h2 h1

/-! ### slices.Clone -/

theorem Keeps.grown {F : Nat → Prop} {σ τ υ : Heap} {nm : Nat} {v v' : Value} (h : Keeps F σ τ) (hg : Grown τ υ nm v v') (hn : σ.nxt ≤ nm) (hv : ∀ l, vname v = some l → σ.nxt ≤ l ∨ (F l ∧ ∀ o, σ.get l = some o → stable o = false)) : Keeps F σ υ := by
  refine ⟨by rw [hg.nxt]; exact h.1, fun x o hx ho hf => ?_⟩
  by_cases e : vname v = some x
  · rcases hv x e with h1 | ⟨h1, h2⟩
    · omega
    · have := hf h1
      rw [h2 _ ho] at this; cases this
  · rw [hg.same x (by omega) e]
    exact h.2 x o hx ho hf

theorem clone_ok {σ : Heap} {v : Value} {bs : List UInt8} (h : BytesAt σ.get v bs) (hs : bs.length ≤ 2 ^ 46) :
    ACall E6.P 101 #[v] σ fun u τ => BytesNew σ.nxt τ.get u bs ∧ Keep0 σ τ := by
  refine ACall.wf fun hw => ?_
  obtain ⟨rfl, h2⟩ | ⟨A, N0, c, h2⟩ : (v = .slice none 0 0 ∧ bs.length = 0) ∨ ∃ A N0 c, v = .slice (some A) N0 c := by
    obtain ⟨h1, h2 | ⟨h2, _⟩ | ⟨l, o, c, h2, h3, h4⟩⟩ := id h
    · exact .inl h2
    · exact .inr ⟨_, _, _, h2⟩
    · exact .inr ⟨_, _, _, h2⟩
  · have : bs = [] := List.eq_nil_of_length_eq_zero h2
    subst this
    refine acall Tryz.func101 rfl ?_
    rw [entry1 Tryz.ntmps101 (by decide)]
    refine awp_seq (awp_region_n envOk6 fun K hK => ?_)
    simp only [push_cast, ↓cases2_t, ↓cases2_f, ↓obind_some, ↓cbind_true, ↓tbind_true, ↓tbind_false, Nat.reduceLT, Nat.reduceAdd, Nat.reduceMul, Nat.reduceSub, Nat.reduceEqDiff, Nat.reduceLeDiff, Nat.reduceBEq, reduceCtorEq, reduceIte]
    refine hK _ _ ?_; clear hK K
    refine awp_seq ?_
    refine awp_seq (awp_region_n envOk6 fun K hK => ?_)
    simp only [push_cast, ↓cases2_t, ↓cases2_f, ↓obind_some, ↓cbind_true, ↓tbind_true, ↓tbind_false, Nat.reduceLT, Nat.reduceAdd, Nat.reduceMul, Nat.reduceSub, Nat.reduceEqDiff, Nat.reduceLeDiff, Nat.reduceBEq, reduceCtorEq, reduceIte]
    refine hK _ _ ?_; clear hK K
    refine awp_yes (by simp only [push_cast, ↓cases2_t, ↓cases2_f, ↓obind_some, ↓cbind_true, ↓tbind_true, ↓tbind_false, Nat.reduceLT, Nat.reduceAdd, Nat.reduceMul, Nat.reduceSub, Nat.reduceEqDiff, Nat.reduceLeDiff, Nat.reduceBEq, reduceCtorEq, reduceIte]) ?_
    refine awp_seq (awp_region_n envOk6 fun K hK => ?_)
    simp only [push_cast, ↓cases2_t, ↓cases2_f, ↓obind_some, ↓cbind_true, ↓tbind_true, ↓tbind_false, Nat.reduceLT, Nat.reduceAdd, Nat.reduceMul, Nat.reduceSub, Nat.reduceEqDiff, Nat.reduceLeDiff, Nat.reduceBEq, reduceCtorEq, reduceIte]
    refine hK _ _ ?_; clear hK K
    refine awp_ret ⟨rfl, _, res1 rfl (by decide), ?_⟩
    simp only [push_cast, ↓cases2_t, ↓cases2_f, ↓obind_some, ↓cbind_true, ↓tbind_true, ↓tbind_false, Nat.reduceLT, Nat.reduceAdd, Nat.reduceMul, Nat.reduceSub, Nat.reduceEqDiff, Nat.reduceLeDiff, Nat.reduceBEq, reduceCtorEq, reduceIte]
    exact ⟨⟨SlOwn.nil _ _, fun l hl => by cases hl⟩, (((Keeps.refl _ _).bump _).bump _).bump _⟩
  · subst h2
    refine acall Tryz.func101 rfl ?_
    rw [entry1 Tryz.ntmps101 (by decide)]
    refine awp_seq (awp_region_n envOk6 fun K hK => ?_)
    simp only [push_cast, ↓cases2_t, ↓cases2_f, ↓obind_some, ↓cbind_true, ↓tbind_true, ↓tbind_false, Nat.reduceLT, Nat.reduceAdd, Nat.reduceMul, Nat.reduceSub, Nat.reduceEqDiff, Nat.reduceLeDiff, Nat.reduceBEq, reduceCtorEq, reduceIte]
    refine hK _ _ ?_; clear hK K
    refine awp_seq ?_
    refine awp_seq (awp_region_n envOk6 fun K hK => ?_)
    simp only [push_cast, ↓cases2_t, ↓cases2_f, ↓obind_some, ↓cbind_true, ↓tbind_true, ↓tbind_false, Nat.reduceLT, Nat.reduceAdd, Nat.reduceMul, Nat.reduceSub, Nat.reduceEqDiff, Nat.reduceLeDiff, Nat.reduceBEq, reduceCtorEq, reduceIte]
    refine hK _ _ ?_; clear hK K
    refine awp_no (by simp only [push_cast, ↓cases2_t, ↓cases2_f, ↓obind_some, ↓cbind_true, ↓tbind_true, ↓tbind_false, Nat.reduceLT, Nat.reduceAdd, Nat.reduceMul, Nat.reduceSub, Nat.reduceEqDiff, Nat.reduceLeDiff, Nat.reduceBEq, reduceCtorEq, reduceIte]) ?_
    refine awp_skip ?_
    refine awp_seq (awp_region_n envOk6 fun K hK => ?_)
    simp only [push_cast, ↓cases2_t, ↓cases2_f, ↓obind_some, ↓cbind_true, ↓tbind_true, ↓tbind_false, Nat.reduceLT, Nat.reduceAdd, Nat.reduceMul, Nat.reduceSub, Nat.reduceEqDiff, Nat.reduceLeDiff, Nat.reduceBEq, reduceCtorEq, reduceIte]
    have hk : Keep0 σ ((((σ.bump 1).bump 2).bump 4).upd (σ.nxt + 3) (some (AObj.cells [] 1 false))) := ((((Keeps.refl _ _).bump _).bump _).bump _).updNew (by omega) _
    refine at_append app26 (n := 0) (cs := []) (by simp only [push_cast, ↓cases2_t, ↓cases2_f, ↓obind_some, ↓cbind_true, ↓tbind_true, ↓tbind_false, Nat.reduceLT, Nat.reduceAdd, Nat.reduceMul, Nat.reduceSub, Nat.reduceEqDiff, Nat.reduceLeDiff, Nat.reduceBEq, reduceCtorEq, reduceIte]) (by simp only [push_cast, ↓cases2_t, ↓cases2_f, ↓obind_some, ↓cbind_true, ↓tbind_true, ↓tbind_false, Nat.reduceLT, Nat.reduceAdd, Nat.reduceMul, Nat.reduceSub, Nat.reduceEqDiff, Nat.reduceLeDiff, Nat.reduceBEq, reduceCtorEq, reduceIte]) ⟨rfl, .inr ⟨_, 0, 0, [], rfl, Nat.le_refl _, Heap.upd_same _ _ _, Nat.le_refl _, rfl⟩⟩ (h.keep hk hw).src (u8c_one _) (by omega) fun v' τ hv' hg => ?_
    simp only [push_cast, ↓cases2_t, ↓cases2_f, ↓obind_some, ↓cbind_true, ↓tbind_true, ↓tbind_false, Nat.reduceLT, Nat.reduceAdd, Nat.reduceMul, Nat.reduceSub, Nat.reduceEqDiff, Nat.reduceLeDiff, Nat.reduceBEq, reduceCtorEq, reduceIte]
    refine hK _ _ ?_; clear hK K
    refine awp_ret ⟨rfl, _, res1 rfl (by decide), ?_⟩
    simp only [push_cast, ↓cases2_t, ↓cases2_f, ↓obind_some, ↓cbind_true, ↓tbind_true, ↓tbind_false, Nat.reduceLT, Nat.reduceAdd, Nat.reduceMul, Nat.reduceSub, Nat.reduceEqDiff, Nat.reduceLeDiff, Nat.reduceBEq, reduceCtorEq, reduceIte]
    rw [Nat.zero_add, List.nil_append] at hv'
    refine ⟨⟨hv', fun l hl => ?_⟩, hk.grown hg (by omega) fun l hl => ?_⟩
    · rcases hg.name with e | e | e <;> rw [e] at hl <;> cases hl <;> omega
    · cases hl; left; omega

end Go.Proofs.YtehmailaabjdjaaGreat
