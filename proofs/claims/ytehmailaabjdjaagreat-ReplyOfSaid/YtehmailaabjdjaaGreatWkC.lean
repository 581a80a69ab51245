/-
  WHAT STAYS, said of maps of names; slices, bytes, append, in the walk by rules. No condition.
-/
import Derived.Test.YtehmailaabjdjaaGreatWkB
import Derived.Test.YtehmailaabjdjaaGreatDat
namespace Go.Proofs.YtehmailaabjdjaaGreat
set_option linter.unusedSimpArgs false
set_option linter.unusedVariables false
set_option maxRecDepth 100000

def Kp (F : Nat → AObj → Prop) (g : Gm) (n : Nat) (g' : Gm) : Prop := ∀ x o, x < n → g x = some o → ¬ F x o → g' x = some o
abbrev K0 (g : Gm) (n : Nat) (g' : Gm) : Prop := Kp (fun _ _ => False) g n g'

section
variable {F G : Nat → AObj → Prop} {g g' g'' : Gm} {n n' n'' : Nat}

theorem Kp.refl (F : Nat → AObj → Prop) (g : Gm) (n : Nat) : Kp F g n g := fun _ _ _ h _ => h
theorem Kp.new (h : Kp F g n g') {l : Nat} (hl : n ≤ l) (o : AObj) : Kp F g n (gset g' l o) :=
 fun x o' hx ho hf => by rw [gs_ne (by omega)]; exact h x o' hx ho hf
theorem Kp.set (h : Kp F g n g') {l : Nat} (hF : ∀ o, g l = some o → F l o) (o : AObj) : Kp F g n (gset g' l o) :=
 fun x o' hx ho hf => by
  by_cases e : x = l
  ·subst e; exact absurd (hF _ ho) hf
  ·rw [gs_ne e]; exact h x o' hx ho hf
theorem Kp.low {q : Nat} (h : Kp (fun x _ => x < q) g n g') {l : Nat} (hl : l < q) (o : AObj) : Kp (fun x _ => x < q) g n (gset g' l o) := h.set (fun _ _ => hl) o
theorem Kp.trans (h : Kp F g n g') (k : Kp G g' n' g'') (hn : n ≤ n') (hG : ∀ x o, x < n → G x o → g x = some o → F x o) : Kp F g n g'' :=
 fun x o hx ho hf => k x o (Nat.lt_of_lt_of_le hx hn) (h x o hx ho hf) fun hg => hf (hG x o hx hg ho)
theorem Kp.trans0 (h : Kp F g n g') (k : K0 g' n' g'') (hn : n ≤ n') : Kp F g n g'' := h.trans k hn fun _ _ _ h _ => h.elim
theorem Kp.mono (h : Kp F g n g') (hF : ∀ x o, x < n → g x = some o → F x o → G x o) : Kp G g n g' := fun x o hx ho hg => h x o hx ho fun hf => hg (hF x o hx ho hf)
theorem Kp.at (h : Kp F g n g') (hw : WF g n) {x : Nat} {o : AObj} (hx : g x = some o) (hf : ¬ F x o) : g' x = some o := h x o (hw x o hx) hx hf
theorem Kp.at0 (h : K0 g n g') (hw : WF g n) {x : Nat} {o : AObj} (hx : g x = some o) : g' x = some o := h x o (hw x o hx) hx id
theorem Kp.lt (h : K0 g n g') {x : Nat} {o : AObj} (hl : x < n) (hx : g x = some o) : g' x = some o := h x o hl hx id
theorem Kp.dn (h : Kp F g n g') {m : Nat} (hm : m ≤ n) : Kp F g m g' := fun x o hx ho hf => h x o (Nat.lt_of_lt_of_le hx hm) ho hf
theorem kept1 (h : K0 g n g') {x : Nat} {o : AObj} (hl : x < n) (hx : g x = some o) : g' x = g x := (h x o hl hx id).trans hx.symm
theorem Kp.z (h : K0 g n g') : Kp F g n g' := h.mono fun _ _ _ _ h => h.elim

theorem Keeps.k0 {σ τ : Heap} (h : Keep0 σ τ) : K0 σ.get σ.nxt τ.get := fun x o hx ho _ => h.2 x o hx ho fun k => k.elim

def Off (F : Nat → AObj → Prop) (g : Gm) (v : Value) : Prop := ∀ l o, vname v = some l → g l = some o → ¬ F l o

theorem Off.z (g : Gm) (v : Value) : Off (fun _ _ => False) g v := fun _ _ _ _ h => h

theorem SlC.kp {k m : Nat} {v : Value} {cs : List Value} (h : SlC g k v m cs) (hk : Kp F g n g') (hw : WF g n) (hF : Off F g v) : SlC g' k v m cs := by
 obtain ⟨h1, h2 | h2 | ⟨l, o, c, h2, h3, h4 | ⟨cl, ro, h4, h5, h6⟩⟩⟩ := h
 ·exact ⟨h1, .inl h2⟩
 ·exact ⟨h1, .inr (.inl h2)⟩
 ·exact ⟨h1, .inr (.inr ⟨l, o, c, h2, h3, .inl h4⟩)⟩
 ·exact ⟨h1, .inr (.inr ⟨l, o, c, h2, h3, .inr ⟨cl, ro, hk.at hw h4 (hF l _ (by rw [h2]; rfl) h4), h5, h6⟩⟩)⟩
theorem SlOwn.kp {k m : Nat} {v : Value} {cs : List Value} (h : SlOwn g k v m cs) (hk : Kp F g n g') (hw : WF g n) (hF : Off F g v) : SlOwn g' k v m cs := by
 obtain ⟨h1, h2 | ⟨l, o, c, cl, h2, h3, h4, h5, h6⟩⟩ := h
 ·exact ⟨h1, .inl h2⟩
 ·exact ⟨h1, .inr ⟨l, o, c, cl, h2, h3, hk.at hw h4 (hF l _ (by rw [h2]; rfl) h4), h5, h6⟩⟩
theorem SlC.kp0 {k m : Nat} {v : Value} {cs : List Value} (h : SlC g k v m cs) (hk : K0 g n g') (hw : WF g n) : SlC g' k v m cs := h.kp hk hw (Off.z g v)
theorem SlOwn.kp0 {k m : Nat} {v : Value} {cs : List Value} (h : SlOwn g k v m cs) (hk : K0 g n g') (hw : WF g n) : SlOwn g' k v m cs := h.kp hk hw (Off.z g v)

def NoB (F : Nat → AObj → Prop) : Prop := ∀ x cl ro, ¬ F x (.cells cl 1 ro)
theorem NoB.z : NoB (fun _ _ => False) := fun _ _ _ h => h
theorem BytesAt.kp {v : Value} {bs : List UInt8} (h : BytesAt g v bs) (hk : Kp F g n g') (hw : WF g n) (hF : NoB F) : BytesAt g' v bs := by
 obtain ⟨h1, h2 | h2 | ⟨l, o, c, h2, h3, h4 | ⟨cl, ro, h4, h5, h6⟩⟩⟩ := h
 ·exact ⟨h1, .inl h2⟩
 ·exact ⟨h1, .inr (.inl h2)⟩
 ·exact ⟨h1, .inr (.inr ⟨l, o, c, h2, h3, .inl h4⟩)⟩
 ·exact ⟨h1, .inr (.inr ⟨l, o, c, h2, h3, .inr ⟨cl, ro, hk.at hw h4 (hF l _ _), h5, h6⟩⟩)⟩
theorem BytesAt.kp0 {v : Value} {bs : List UInt8} (h : BytesAt g v bs) (hk : K0 g n g') (hw : WF g n) : BytesAt g' v bs := h.kp hk hw NoB.z
theorem BytesNew.kp {b : Nat} {v : Value} {bs : List UInt8} (h : BytesNew b g v bs) (hk : Kp F g n g') (hw : WF g n) (hF : NoB F) : BytesNew b g' v bs :=
 ⟨h.1.kp hk hw fun l o hl ho hf => by
  obtain ⟨_, ⟨rfl, _⟩ | ⟨l', o', c, cl, rfl, _, h4, _⟩⟩ := h.1
  ·cases hl
  ·simp only [vname, Option.some.injEq] at hl
   subst hl
   rw [h4] at ho; cases ho
   exact hF _ _ _ hf, h.2⟩
theorem BytesNew.kp0 {b : Nat} {v : Value} {bs : List UInt8} (h : BytesNew b g v bs) (hk : K0 g n g') (hw : WF g n) : BytesNew b g' v bs := h.kp hk hw NoB.z
theorem BytesNew.up {b b' : Nat} {v : Value} {bs : List UInt8} (h : BytesNew b g v bs) (hb : b' ≤ b) : BytesNew b' g v bs := ⟨h.1, fun l hl => Nat.le_trans hb (h.2 l hl)⟩

structure Gr (g g' : Gm) (nm : Nat) (v v' : Value) : Prop where
 same : ∀ l, l ≠ nm → vname v ≠ some l → g' l = g l
 name : vname v' = none ∨ vname v' = vname v ∨ vname v' = some nm

theorem s_app {N : Nat} {f : Nat → Value} {s : Sls} {nm : Nat} {k : Sls → Gm → List Nat → List Nat → Prop} {d : Tmp} {ty : TypeId} {pos : String} {af : Array Edge} {gd : Option (Nat × Bool)} {x y : Operand} {t u kk b : Nat} {p m : Nat} {v w : Value} {cs ds : List Value}
  (hT : AppT E6.P t u kk b) (hx : ov N s x = some v) (hy : ov N s y = some w) (hv : SlOwn g kk v p cs) (hs : Src g kk w m ds) (hone : plainL oneCell ds = true) (hfit : (p + m) * b ≤ 2 ^ 46)
  (h : ∀ a c g' tc wr, SlOwn g' kk (.slice a (p + m) c) (p + m) (cs ++ ds) → Gr g g' nm v (.slice a (p + m) c) → k ((d, .slice a (p + m) c) :: s) g' tc wr) : ST N f s g n nm ⟨some d, .call ⟨.builtin .append, #[x, y], #[t, u]⟩, ty, pos, af, gd⟩ k := by
 obtain ⟨pr, eff, h1, h2, h3, h4, h5⟩ := grow_app hT (σ := ⟨g, n⟩) hv hs hone hfit (nm := nm)
 obtain ⟨a, c, e, _⟩ := h4.slc.len
 rw [e] at h4 h5
 refine ⟨pr, eff, ?_, h2, h3, (d, .slice a (p + m) c) :: s, _, by rw [e]; exact Fr_put _ _ _ _ _, ?_, h _ _ _ _ _ h4 ⟨h5.same, h5.name⟩⟩
 ·simp only [aop, aCall, List.toList_toArray, evList, ov_ok hx, ov_ok hy, Option.bind_some, Option.map_some, aBuiltin, h1]
 ·have := h5.nxt
  generalize (Heap.app ⟨g, n⟩ nm eff) = τ at this ⊢
  cases τ
  simp only at this
  subst this
  rfl

theorem Gr.kp {nm : Nat} {v v' : Value} (h : Gr g' g'' nm v v') (hk : Kp F g n g') (hn : n ≤ nm) (hv : ∀ l, vname v = some l → n ≤ l ∨ ∀ o, g l = some o → F l o) : Kp F g n g'' :=
 fun x o hx ho hf => by
  by_cases e : vname v = some x
  ·rcases hv x e with h1 | h1
   ·omega
   ·exact absurd (h1 o ho) hf
  ·rw [h.same x (by omega) e]; exact hk x o hx ho hf
end

section
variable {N : Nat} {f : Nat → Value} {s : Sls} {g : Gm} {n nm : Nat} {k : Sls → Gm → List Nat → List Nat → Prop} {d : Tmp} {ty : TypeId} {pos : String} {af : Array Edge} {gd : Option (Nat × Bool)}

theorem s_slh {t e z l o m c j : Nat} {x hi : Operand} (ht : E6.P.underlying t = some (.slice e)) (hz : szO E6.P e = some z) (hx : ov N s x = some (.slice (some ⟨l, o, none⟩) m c)) (hj : ov N s hi = some (.int .i64 (j : Int))) (hjc : j ≤ c)
  (hk : k ((d, .slice (some ⟨l, o, none⟩) j c) :: s) g [] []) : ST N f s g n nm ⟨some d, .slice t x none (some hi) none, ty, pos, af, gd⟩ k := by
 refine st_val rfl ?_ hk
 have b1 : boundO (aeval (Fr N f s)) (some hi) m c = some j := by
  unfold boundO
  simp only [ov_ok hj, Option.bind_some]
  rw [if_pos ⟨by omega, by omega⟩, Int.toNat_natCast]
 have b2 : boundO (aeval (Fr N f s)) none 0 j = some 0 := by unfold boundO; exact if_pos (Nat.zero_le _)
 simp only [aop, aSlice, ht, hz, ov_ok hx, b1, b2, Option.bind_some, if_true, Option.map_some]
theorem s_sll {t e z l o m c j : Nat} {x lo : Operand} {cl : List Value} {ro : Bool} (ht : E6.P.underlying t = some (.slice e)) (hz : szO E6.P e = some z) (hx : ov N s x = some (.slice (some ⟨l, o, none⟩) m c)) (hj : ov N s lo = some (.int .i64 (j : Int))) (hjm : j ≤ m) (hmc : m ≤ c)
    (hg : g l = some (.cells cl z ro)) (hk : ∀ tc, k ((d, .slice (some ⟨l, o + j * z, none⟩) (m - j) (c - j)) :: s) g tc []) : ST N f s g n nm ⟨some d, .slice t x (some lo) none none, ty, pos, af, gd⟩ k := by
  have b1 : boundO (aeval (Fr N f s)) none m c = some m := by unfold boundO; exact if_pos hmc
  have b2 : boundO (aeval (Fr N f s)) (some lo) 0 m = some j := by
    unfold boundO
    simp only [ov_ok hj, Option.bind_some]
    rw [if_pos ⟨by omega, by omega⟩, Int.toNat_natCast]
  by_cases h0 : j = 0
  · subst h0
    refine st_val (v := .slice (some ⟨l, o, none⟩) m c) rfl ?_ ?_
    · simp only [aop, aSlice, ht, hz, ov_ok hx, b1, b2, Option.bind_some, if_true, Option.map_some]
    · simpa using hk []
  · refine ⟨⟨[l], fun _ objs => match objs with
              | [.cells _ sz _] => if sz = z then some ⟨.slice (some ⟨l, o + j * z, none⟩) (m - j) (c - j), none, none⟩ else none
              | _ => none⟩, ⟨.slice (some ⟨l, o + j * z, none⟩) (m - j) (c - j), none, none⟩, ?_, ?_, rfl, _, _, Fr_put _ _ _ _ _, rfl, hk _⟩
    · simp only [aop, aSlice, ht, hz, ov_ok hx, b1, b2, Option.bind_some, if_neg h0, Option.map_some]
      rfl
    · simp only [Prim.run, getAll, hg, Option.bind_some, Option.map_some, if_true]
theorem s_slhE {t e z : Nat} {x hi : Operand} (ht : E6.P.underlying t = some (.slice e)) (hz : szO E6.P e = some z) (hx : ov N s x = some (.slice (some ⟨0, 0, some 0⟩) 0 0)) (hj : ov N s hi = some (.int .i64 0))
  (hk : k ((d, .slice (some ⟨0, 0, some 0⟩) 0 0) :: s) g [] []) : ST N f s g n nm ⟨some d, .slice t x none (some hi) none, ty, pos, af, gd⟩ k := by
 refine st_val rfl ?_ hk
 simp [aop, aSlice, ht, hz, ov_ok hx, ov_ok hj, boundO]
theorem s_slh0 {t e z : Nat} {x hi : Operand} (ht : E6.P.underlying t = some (.slice e)) (hz : szO E6.P e = some z) (hx : ov N s x = some (.slice none 0 0)) (hj : ov N s hi = some (.int .i64 0))
  (hk : k ((d, .slice none 0 0) :: s) g [] []) : ST N f s g n nm ⟨some d, .slice t x none (some hi) none, ty, pos, af, gd⟩ k := by
 refine st_val rfl ?_ hk
 simp [aop, aSlice, ht, hz, ov_ok hx, ov_ok hj, boundO]
end

def takeF : Nat → List Value → Option (List Value)
 | 0, _ => some []
 | _ + 1, [] => none
 | n + 1, x :: r => match takeF n r with
  | some q => some (x :: q)
  | none => none
def subF : List Value → Nat → Nat → Option (List Value)
 | c, 0, z => takeF z c
 | [], _ + 1, _ => none
 | _ :: r, o + 1, z => subF r o z
theorem takeF_ok : ∀ {n : Nat} {c q : List Value}, takeF n c = some q → n ≤ c.length ∧ c.take n = q
 | 0, c, q, h => by simp [takeF] at h; subst h; simp
 | n + 1, [], q, h => by simp [takeF] at h
 | n + 1, x :: r, q, h => by
  simp only [takeF] at h
  split at h
  ·rename_i q' hq
   cases h
   obtain ⟨h1, h2⟩ := takeF_ok hq
   exact ⟨by simp; omega, by simp [h2]⟩
  ·cases h
theorem subF_ok : ∀ {c : List Value} {o z : Nat} {q : List Value}, subF c o z = some q → o + z ≤ c.length ∧ (c.drop o).take z = q
 | c, 0, z, q, h => by
  have h : takeF z c = some q := by cases c <;> exact h
  obtain ⟨h1, h2⟩ := takeF_ok h
  exact ⟨by omega, by simpa using h2⟩
 | [], o + 1, z, q, h => by simp [subF] at h
 | x :: r, o + 1, z, q, h => by
  simp only [subF] at h
  obtain ⟨h1, h2⟩ := subF_ok h
  exact ⟨by simp; omega, by simpa using h2⟩

section
variable {N : Nat} {f : Nat → Value} {s : Sls} {g : Gm} {n nm : Nat} {k : Sls → Gm → List Nat → List Nat → Prop} {d : Tmp} {ty : TypeId} {pos : String} {af : Array Edge} {gd : Option (Nat × Bool)}

theorem s_ldf {t : TypeId} {x : Operand} {l o z : Nat} {c c' : List Value} {sz : Nat} {ro : Bool} (hx : ov N s x = some (.pointer (some ⟨l, o, none⟩))) (hg : g l = some (.cells c sz ro)) (ha : aggO E6.P t = some true) (hz : szO E6.P t = some z)
  (hv : subF c o z = some c') (hk : k ((d, .agg c'.toArray) :: s) g [l] []) : ST N f s g n nm ⟨some d, .load t x, ty, pos, af, gd⟩ k := by
 obtain ⟨h1, h2⟩ := subF_ok hv
 exact s_lda hx hg ha hz h1 h2 hk

theorem sLf {t : TypeId} {x : Operand} {l o z : Nat} {c c' : List Value} {sz : Nat} {ro : Bool} (hx : ov N s x = some (.pointer (some ⟨l, o, none⟩))) (ha : aggO E6.P t = some true) (hz : szO E6.P t = some z) (hk : k ((d, .agg c'.toArray) :: s) g [l] [])
  (hg : g l = some (.cells c sz ro) := by repeat first | exact gS | assumption | refine gN (by omega) ?_) (hv : subF c o z = some c' := by exact rfl) : ST N f s g n nm ⟨some d, .load t x, ty, pos, af, gd⟩ k := s_ldf hx hg ha hz hv hk

theorem s_b2s {t u e : TypeId} {x : Operand} {v : Value} {bs : List UInt8} (ht : E6.P.underlying t = some (.slice e)) (hu : E6.P.underlying u = some .string) (he : E6.P.underlying e = some (.int .u8)) (hx : ov N s x = some v) (hb : BytesAt g v bs)
  (hk : ∀ tc, k ((d, .string (str bs)) :: s) g tc []) : ST N f s g n nm ⟨some d, .convert t u x, ty, pos, af, gd⟩ k := by
 obtain ⟨h1, ⟨rfl, h2⟩ | ⟨rfl, h2⟩ | ⟨l, o, c, rfl, h3, h4⟩⟩ := hb
 ·have : bs = [] := List.eq_nil_of_length_eq_zero h2
  subst this
  exact st_val (v := .string .empty) rfl (by simp only [aop, aConvert, ov_ok hx, Option.bind_some, ht, hu, he, Option.map_some]) (hk [])
 ·have : bs = [] := List.eq_nil_of_length_eq_zero h2
  subst this
  exact st_val (v := .string .empty) rfl (by simp only [aop, aConvert, ov_ok hx, Option.bind_some, ht, hu, he, Option.map_some]) (hk [])
 ·by_cases h0 : bs.length = 0
  ·have : bs = [] := List.eq_nil_of_length_eq_zero h0
   subst this
   exact st_val (v := .string .empty) rfl (by simp only [aop, aConvert, ov_ok hx, Option.bind_some, ht, hu, he, List.length_nil, if_true, Option.map_some]) (hk [])
  ·obtain ⟨cl, ro, h5, h6, h7⟩ := h4.resolve_left h0
   refine ⟨⟨[l], fun _ objs => match objs with
     | [.cells c _ _] => if o + bs.length ≤ c.length then
       (bytesOf ((c.drop o).take bs.length) ByteArray.empty).map fun s => ⟨.string s, none, none⟩ else none
     | _ => none⟩, ⟨.string (str bs), none, none⟩, ?_, ?_, rfl, _, _, Fr_put _ _ _ _ _, rfl, hk _⟩
   ·simp only [aop, aConvert, ov_ok hx, Option.bind_some, ht, hu, he, if_neg h0, Option.map_some]
    rfl
   ·simp only [Prim.run, getAll, h5, Option.bind_some, Option.map_some]
    rw [Nat.mul_one] at h6 h7
    rw [if_pos h6, h7, bytesOf_u8c]
    simp
end

section
variable {X : Cx} {k : List Fm} {f : Nat → Value} {s : Sls} {g : Gm} {m j m₀ j₀ i : Nat} {ops : Array Oper} {ty : TypeId} {pos : String} {af : Array Edge} {gd : Option (Nat × Bool)} {lo : List Nat} {L : List (Nat × List Nat)} {D : List Rec}

theorem str_eq {a b : List UInt8} : ((str a).toList == (str b).toList) = decide (a = b) := by
 have e : ∀ l : List UInt8, (str l).toList = l := fun l => by
  rw [ByteArray.toList_eq] <;> simp [str]
 rw [e, e]
 by_cases h : a = b <;> simp [h]
end

end Go.Proofs.YtehmailaabjdjaaGreat
