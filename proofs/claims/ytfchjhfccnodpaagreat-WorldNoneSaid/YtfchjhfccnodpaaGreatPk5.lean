/-
  WHAT STAYS, said of maps of names; slices, bytes, append, in the walk by rules. No condition. / Zero cells of types (printed by a program). No condition. / RANGING OVER A MAP, in the walk by rules: whatever entry the tape says. No condition. / A guard over all that begin with a key, where nothing is younger: it holds. No condition. / DERIVED: THE SHELF's CONTRACTS AT THIS DUMP, IN PLAIN WORDS (tools/lay-plain.mjs out of 'YtfchjhfccnodpaaGreatLay.lean', which tools/lay-shelf.mjs wrote): THE SAME DECLARATIONS UNDER THE SAME NAMES: 'import', 'namespace', 'open', 'def', 'theorem' AND NOTHING ELSE: no command of the shelf's: FOR A HAND-IN. Each laying: the table of numbers ('.._ren') and one theorem, a field a fact of the dump's own or the kernel's comparison; each contract: ONE APPLICATION. / slices.Sorted(maps.Keys(m)), said of abstract heaps: the keys in order, in a row of their own. No condition. / slices.Sorted(maps.Keys(m)) by what it does, for the second evaluator. No condition. / A closed call, from any heap. No condition. / FROM THE WORLD TO AN ABSTRACT HEAP: what came in as names that are read alone; what a law answers, in the world. No condition.
-/
import Derived.Test.YtfchjhfccnodpaaGreatPk4
import Derived.MapKept
import Derived.Maps.RangeRun
import Derived.Shelf.SlIter.Nil
import Derived.Shelf.SortM.Plain
import Derived.Shelf.SortM.SortNone
import Derived.Ground.GgzProg
import Derived.Ground.SlgmProg
import Derived.Test.YtfchjhfccnodpaaGreatProg
import Derived.Sort.KeysCollected
import Derived.StringKeys
import Derived.Test.YtfchjhfccnodpaaGreatPk3
import Derived.Test.YtfchjhfccnodpaaGreatPk2
import Derived.Test.YtfchjhfccnodpaaGreatChecked
import Derived.WalkKit
import Derived.ProofKit
import Derived.OpenShut
import Derived.ShutString
import Derived.ChangeOld
import Derived.Below
section
namespace Go.Proofs.YtfchjhfccnodpaaGreat
set_option linter.unusedSimpArgs false
set_option linter.unusedVariables false
set_option maxRecDepth 100000

def Kp (F : Nat → AObj → Prop) (g : Gm) (n : Nat) (g' : Gm) : Prop := ∀ x o, x < n → g x = some o → ¬ F x o → g' x = some o
abbrev K0 (g : Gm) (n : Nat) (g' : Gm) : Prop := Kp (fun _ _ => False) g n g'

section
variable {F G : Nat → AObj → Prop} {g g' g'' : Gm} {n n' n'' : Nat}

theorem Kp.refl (F : Nat → AObj → Prop) (g : Gm) (n : Nat) : Kp F g n g := fun _ _ _ h _ => h
theorem Kp.new (h : Kp F g n g') {l : Nat} (hl : n ≤ l) (o : AObj) : Kp F g n (gset g' l o) :=
  fun x o' hx ho hf => by rw [gs_ne (by omega)]; exact h x o' hx ho hf
theorem Kp.set (h : Kp F g n g') {l : Nat} (hF : ∀ o, g l = some o → F l o) (o : AObj) : Kp F g n (gset g' l o) :=
  fun x o' hx ho hf => by
    by_cases e : x = l
    · subst e; exact absurd (hF _ ho) hf
    · rw [gs_ne e]; exact h x o' hx ho hf
theorem Kp.low {q : Nat} (h : Kp (fun x _ => x < q) g n g') {l : Nat} (hl : l < q) (o : AObj) : Kp (fun x _ => x < q) g n (gset g' l o) := h.set (fun _ _ => hl) o
theorem Kp.trans (h : Kp F g n g') (k : Kp G g' n' g'') (hn : n ≤ n') (hG : ∀ x o, x < n → G x o → g x = some o → F x o) : Kp F g n g'' :=
  fun x o hx ho hf => k x o (Nat.lt_of_lt_of_le hx hn) (h x o hx ho hf) fun hg => hf (hG x o hx hg ho)
theorem Kp.trans0 (h : Kp F g n g') (k : K0 g' n' g'') (hn : n ≤ n') : Kp F g n g'' := h.trans k hn fun _ _ _ h _ => h.elim
theorem Kp.mono (h : Kp F g n g') (hF : ∀ x o, x < n → g x = some o → F x o → G x o) : Kp G g n g' := fun x o hx ho hg => h x o hx ho fun hf => hg (hF x o hx ho hf)
theorem Kp.at (h : Kp F g n g') (hw : WF g n) {x : Nat} {o : AObj} (hx : g x = some o) (hf : ¬ F x o) : g' x = some o := h x o (hw x o hx) hx hf
theorem Kp.at0 (h : K0 g n g') (hw : WF g n) {x : Nat} {o : AObj} (hx : g x = some o) : g' x = some o := h x o (hw x o hx) hx id
theorem Kp.lt (h : K0 g n g') {x : Nat} {o : AObj} (hl : x < n) (hx : g x = some o) : g' x = some o := h x o hl hx id
theorem Kp.dn (h : Kp F g n g') {m : Nat} (hm : m ≤ n) : Kp F g m g' := fun x o hx ho hf => h x o (Nat.lt_of_lt_of_le hx hm) ho hf
theorem WF.up (h : WF g n) (hn : n ≤ n') : WF g n' := fun l o hl => Nat.lt_of_lt_of_le (h l o hl) hn
theorem kept1 (h : K0 g n g') {x : Nat} {o : AObj} (hl : x < n) (hx : g x = some o) : g' x = g x := (h x o hl hx id).trans hx.symm
theorem Kp.z (h : K0 g n g') : Kp F g n g' := h.mono fun _ _ _ _ h => h.elim

theorem Keeps.kp {F : Nat → Prop} {σ τ : Heap} (h : Keeps F σ τ) : Kp (fun x o => F x ∧ stable o = false) σ.get σ.nxt τ.get :=
  fun x o hx ho hf => h.2 x o hx ho fun hF => by
    cases hs : stable o with
    | true => rfl
    | false => exact absurd ⟨hF, hs⟩ hf
theorem Keeps.k0 {σ τ : Heap} (h : Keep0 σ τ) : K0 σ.get σ.nxt τ.get := fun x o hx ho _ => h.2 x o hx ho fun k => k.elim

def Off (F : Nat → AObj → Prop) (g : Gm) (v : Value) : Prop := ∀ l o, vname v = some l → g l = some o → ¬ F l o

theorem Off.z (g : Gm) (v : Value) : Off (fun _ _ => False) g v := fun _ _ _ _ h => h

theorem SlC.kp {k m : Nat} {v : Value} {cs : List Value} (h : SlC g k v m cs) (hk : Kp F g n g') (hw : WF g n) (hF : Off F g v) : SlC g' k v m cs := by
  obtain ⟨h1, h2 | h2 | ⟨l, o, c, h2, h3, h4 | ⟨cl, ro, h4, h5, h6⟩⟩⟩ := h
  · exact ⟨h1, .inl h2⟩
  · exact ⟨h1, .inr (.inl h2)⟩
  · exact ⟨h1, .inr (.inr ⟨l, o, c, h2, h3, .inl h4⟩)⟩
  · exact ⟨h1, .inr (.inr ⟨l, o, c, h2, h3, .inr ⟨cl, ro, hk.at hw h4 (hF l _ (by rw [h2]; rfl) h4), h5, h6⟩⟩)⟩
theorem SlOwn.kp {k m : Nat} {v : Value} {cs : List Value} (h : SlOwn g k v m cs) (hk : Kp F g n g') (hw : WF g n) (hF : Off F g v) : SlOwn g' k v m cs := by
  obtain ⟨h1, h2 | ⟨l, o, c, cl, h2, h3, h4, h5, h6⟩⟩ := h
  · exact ⟨h1, .inl h2⟩
  · exact ⟨h1, .inr ⟨l, o, c, cl, h2, h3, hk.at hw h4 (hF l _ (by rw [h2]; rfl) h4), h5, h6⟩⟩
theorem SlC.kp0 {k m : Nat} {v : Value} {cs : List Value} (h : SlC g k v m cs) (hk : K0 g n g') (hw : WF g n) : SlC g' k v m cs := h.kp hk hw (Off.z g v)
theorem SlOwn.kp0 {k m : Nat} {v : Value} {cs : List Value} (h : SlOwn g k v m cs) (hk : K0 g n g') (hw : WF g n) : SlOwn g' k v m cs := h.kp hk hw (Off.z g v)

def NoB (F : Nat → AObj → Prop) : Prop := ∀ x cl ro, ¬ F x (.cells cl 1 ro)
theorem NoB.z : NoB (fun _ _ => False) := fun _ _ _ h => h
theorem BytesAt.kp {v : Value} {bs : List UInt8} (h : BytesAt g v bs) (hk : Kp F g n g') (hw : WF g n) (hF : NoB F) : BytesAt g' v bs := by
  obtain ⟨h1, h2 | h2 | ⟨l, o, c, h2, h3, h4 | ⟨cl, ro, h4, h5, h6⟩⟩⟩ := h
  · exact ⟨h1, .inl h2⟩
  · exact ⟨h1, .inr (.inl h2)⟩
  · exact ⟨h1, .inr (.inr ⟨l, o, c, h2, h3, .inl h4⟩)⟩
  · exact ⟨h1, .inr (.inr ⟨l, o, c, h2, h3, .inr ⟨cl, ro, hk.at hw h4 (hF l _ _), h5, h6⟩⟩)⟩
theorem BytesAt.kp0 {v : Value} {bs : List UInt8} (h : BytesAt g v bs) (hk : K0 g n g') (hw : WF g n) : BytesAt g' v bs := h.kp hk hw NoB.z
theorem BytesNew.kp {b : Nat} {v : Value} {bs : List UInt8} (h : BytesNew b g v bs) (hk : Kp F g n g') (hw : WF g n) (hF : NoB F) : BytesNew b g' v bs :=
  ⟨h.1.kp hk hw fun l o hl ho hf => by
    obtain ⟨_, ⟨rfl, _⟩ | ⟨l', o', c, cl, rfl, _, h4, _⟩⟩ := h.1
    · cases hl
    · simp only [vname, Option.some.injEq] at hl
      subst hl
      rw [h4] at ho; cases ho
      exact hF _ _ _ hf, h.2⟩
theorem BytesNew.kp0 {b : Nat} {v : Value} {bs : List UInt8} (h : BytesNew b g v bs) (hk : K0 g n g') (hw : WF g n) : BytesNew b g' v bs := h.kp hk hw NoB.z
theorem BytesNew.up {b b' : Nat} {v : Value} {bs : List UInt8} (h : BytesNew b g v bs) (hb : b' ≤ b) : BytesNew b' g v bs := ⟨h.1, fun l hl => Nat.le_trans hb (h.2 l hl)⟩


structure Gr (g g' : Gm) (nm : Nat) (v v' : Value) : Prop where
  same : ∀ l, l ≠ nm → vname v ≠ some l → g' l = g l
  name : vname v' = none ∨ vname v' = vname v ∨ vname v' = some nm

theorem s_app {N : Nat} {f : Nat → Value} {s : Sls} {nm : Nat} {k : Sls → Gm → List Nat → List Nat → Prop} {d : Tmp} {ty : TypeId} {pos : String} {af : Array Edge} {gd : Option (Nat × Bool)} {x y : Operand} {t u kk b : Nat} {p m : Nat} {v w : Value} {cs ds : List Value}
    (hT : AppT E6.P t u kk b) (hx : ov N s x = some v) (hy : ov N s y = some w) (hv : SlOwn g kk v p cs) (hs : Src g kk w m ds) (hone : plainL oneCell ds = true) (hfit : (p + m) * b ≤ 2 ^ 46)
    (h : ∀ a c g' tc wr, SlOwn g' kk (.slice a (p + m) c) (p + m) (cs ++ ds) → Gr g g' nm v (.slice a (p + m) c) → k ((d, .slice a (p + m) c) :: s) g' tc wr) : ST N f s g n nm ⟨some d, .call ⟨.builtin .append, #[x, y], #[t, u]⟩, ty, pos, af, gd⟩ k := by
  obtain ⟨pr, eff, h1, h2, h3, h4, h5⟩ := grow_app hT (σ := ⟨g, n⟩) hv hs hone hfit (nm := nm)
  obtain ⟨a, c, e, _⟩ := h4.slc.len
  rw [e] at h4 h5
  refine ⟨pr, eff, ?_, h2, h3, (d, .slice a (p + m) c) :: s, _, by rw [e]; exact Fr_put _ _ _ _ _, ?_, h _ _ _ _ _ h4 ⟨h5.same, h5.name⟩⟩
  · simp only [aop, aCall, List.toList_toArray, evList, ov_ok hx, ov_ok hy, Option.bind_some, Option.map_some, aBuiltin, h1]
  · have := h5.nxt
    generalize (Heap.app ⟨g, n⟩ nm eff) = τ at this ⊢
    cases τ
    simp only at this
    subst this
    rfl

theorem Gr.kp {nm : Nat} {v v' : Value} (h : Gr g' g'' nm v v') (hk : Kp F g n g') (hn : n ≤ nm) (hv : ∀ l, vname v = some l → n ≤ l ∨ ∀ o, g l = some o → F l o) : Kp F g n g'' :=
  fun x o hx ho hf => by
    by_cases e : vname v = some x
    · rcases hv x e with h1 | h1
      · omega
      · exact absurd (h1 o ho) hf
    · rw [h.same x (by omega) e]; exact hk x o hx ho hf
end


section
variable {N : Nat} {f : Nat → Value} {s : Sls} {g : Gm} {n nm : Nat} {k : Sls → Gm → List Nat → List Nat → Prop} {d : Tmp} {ty : TypeId} {pos : String} {af : Array Edge} {gd : Option (Nat × Bool)}

theorem s_slh {t e z l o m c j : Nat} {x hi : Operand} (ht : E6.P.underlying t = some (.slice e)) (hz : szO E6.P e = some z) (hx : ov N s x = some (.slice (some ⟨l, o, none⟩) m c)) (hj : ov N s hi = some (.int .i64 (j : Int))) (hjc : j ≤ c)
    (hk : k ((d, .slice (some ⟨l, o, none⟩) j c) :: s) g [] []) : ST N f s g n nm ⟨some d, .slice t x none (some hi) none, ty, pos, af, gd⟩ k := by
  refine st_val rfl ?_ hk
  have b1 : boundO (aeval (Fr N f s)) (some hi) m c = some j := by
    unfold boundO
    simp only [ov_ok hj, Option.bind_some]
    rw [if_pos ⟨by omega, by omega⟩, Int.toNat_natCast]
  have b2 : boundO (aeval (Fr N f s)) none 0 j = some 0 := by unfold boundO; exact if_pos (Nat.zero_le _)
  simp only [aop, aSlice, ht, hz, ov_ok hx, b1, b2, Option.bind_some, if_true, Option.map_some]
theorem s_sll {t e z l o m c j : Nat} {x lo : Operand} {cl : List Value} {ro : Bool} (ht : E6.P.underlying t = some (.slice e)) (hz : szO E6.P e = some z) (hx : ov N s x = some (.slice (some ⟨l, o, none⟩) m c)) (hj : ov N s lo = some (.int .i64 (j : Int))) (hjm : j ≤ m) (hmc : m ≤ c)
    (hg : g l = some (.cells cl z ro)) (hk : ∀ tc, k ((d, .slice (some ⟨l, o + j * z, none⟩) (m - j) (c - j)) :: s) g tc []) : ST N f s g n nm ⟨some d, .slice t x (some lo) none none, ty, pos, af, gd⟩ k := by
  have b1 : boundO (aeval (Fr N f s)) none m c = some m := by unfold boundO; exact if_pos hmc
  have b2 : boundO (aeval (Fr N f s)) (some lo) 0 m = some j := by
    unfold boundO
    simp only [ov_ok hj, Option.bind_some]
    rw [if_pos ⟨by omega, by omega⟩, Int.toNat_natCast]
  by_cases h0 : j = 0
  · subst h0
    refine st_val (v := .slice (some ⟨l, o, none⟩) m c) rfl ?_ ?_
    · simp only [aop, aSlice, ht, hz, ov_ok hx, b1, b2, Option.bind_some, if_true, Option.map_some]
    · simpa using hk []
  · refine ⟨⟨[l], fun _ objs => match objs with
              | [.cells _ sz _] => if sz = z then some ⟨.slice (some ⟨l, o + j * z, none⟩) (m - j) (c - j), none, none⟩ else none
              | _ => none⟩, ⟨.slice (some ⟨l, o + j * z, none⟩) (m - j) (c - j), none, none⟩, ?_, ?_, rfl, _, _, Fr_put _ _ _ _ _, rfl, hk _⟩
    · simp only [aop, aSlice, ht, hz, ov_ok hx, b1, b2, Option.bind_some, if_neg h0, Option.map_some]
      rfl
    · simp only [Prim.run, getAll, hg, Option.bind_some, Option.map_some, if_true]
theorem s_slhE {t e z : Nat} {x hi : Operand} (ht : E6.P.underlying t = some (.slice e)) (hz : szO E6.P e = some z) (hx : ov N s x = some (.slice (some ⟨0, 0, some 0⟩) 0 0)) (hj : ov N s hi = some (.int .i64 0))
    (hk : k ((d, .slice (some ⟨0, 0, some 0⟩) 0 0) :: s) g [] []) : ST N f s g n nm ⟨some d, .slice t x none (some hi) none, ty, pos, af, gd⟩ k := by
  refine st_val rfl ?_ hk
  simp [aop, aSlice, ht, hz, ov_ok hx, ov_ok hj, boundO]
theorem s_slh0 {t e z : Nat} {x hi : Operand} (ht : E6.P.underlying t = some (.slice e)) (hz : szO E6.P e = some z) (hx : ov N s x = some (.slice none 0 0)) (hj : ov N s hi = some (.int .i64 0))
    (hk : k ((d, .slice none 0 0) :: s) g [] []) : ST N f s g n nm ⟨some d, .slice t x none (some hi) none, ty, pos, af, gd⟩ k := by
  refine st_val rfl ?_ hk
  simp [aop, aSlice, ht, hz, ov_ok hx, ov_ok hj, boundO]
end


def takeF : Nat → List Value → Option (List Value)
  | 0, _ => some []
  | _ + 1, [] => none
  | n + 1, x :: r => match takeF n r with
    | some q => some (x :: q)
    | none => none
def subF : List Value → Nat → Nat → Option (List Value)
  | c, 0, z => takeF z c
  | [], _ + 1, _ => none
  | _ :: r, o + 1, z => subF r o z
theorem takeF_ok : ∀ {n : Nat} {c q : List Value}, takeF n c = some q → n ≤ c.length ∧ c.take n = q
  | 0, c, q, h => by simp [takeF] at h; subst h; simp
  | n + 1, [], q, h => by simp [takeF] at h
  | n + 1, x :: r, q, h => by
    simp only [takeF] at h
    split at h
    · rename_i q' hq
      cases h
      obtain ⟨h1, h2⟩ := takeF_ok hq
      exact ⟨by simp; omega, by simp [h2]⟩
    · cases h
theorem subF_ok : ∀ {c : List Value} {o z : Nat} {q : List Value}, subF c o z = some q → o + z ≤ c.length ∧ (c.drop o).take z = q
  | c, 0, z, q, h => by
    have h : takeF z c = some q := by cases c <;> exact h
    obtain ⟨h1, h2⟩ := takeF_ok h
    exact ⟨by omega, by simpa using h2⟩
  | [], o + 1, z, q, h => by simp [subF] at h
  | x :: r, o + 1, z, q, h => by
    simp only [subF] at h
    obtain ⟨h1, h2⟩ := subF_ok h
    exact ⟨by simp; omega, by simpa using h2⟩

section
variable {N : Nat} {f : Nat → Value} {s : Sls} {g : Gm} {n nm : Nat} {k : Sls → Gm → List Nat → List Nat → Prop} {d : Tmp} {ty : TypeId} {pos : String} {af : Array Edge} {gd : Option (Nat × Bool)}

theorem s_ldf {t : TypeId} {x : Operand} {l o z : Nat} {c c' : List Value} {sz : Nat} {ro : Bool} (hx : ov N s x = some (.pointer (some ⟨l, o, none⟩))) (hg : g l = some (.cells c sz ro)) (ha : aggO E6.P t = some true) (hz : szO E6.P t = some z)
    (hv : subF c o z = some c') (hk : k ((d, .agg c'.toArray) :: s) g [l] []) : ST N f s g n nm ⟨some d, .load t x, ty, pos, af, gd⟩ k := by
  obtain ⟨h1, h2⟩ := subF_ok hv
  exact s_lda hx hg ha hz h1 h2 hk

theorem sLf {t : TypeId} {x : Operand} {l o z : Nat} {c c' : List Value} {sz : Nat} {ro : Bool} (hx : ov N s x = some (.pointer (some ⟨l, o, none⟩))) (ha : aggO E6.P t = some true) (hz : szO E6.P t = some z) (hk : k ((d, .agg c'.toArray) :: s) g [l] [])
    (hg : g l = some (.cells c sz ro) := by repeat first | exact gS | assumption | refine gN (by omega) ?_) (hv : subF c o z = some c' := by exact rfl) : ST N f s g n nm ⟨some d, .load t x, ty, pos, af, gd⟩ k := s_ldf hx hg ha hz hv hk

theorem s_b2s {t u e : TypeId} {x : Operand} {v : Value} {bs : List UInt8} (ht : E6.P.underlying t = some (.slice e)) (hu : E6.P.underlying u = some .string) (he : E6.P.underlying e = some (.int .u8)) (hx : ov N s x = some v) (hb : BytesAt g v bs)
    (hk : ∀ tc, k ((d, .string (str bs)) :: s) g tc []) : ST N f s g n nm ⟨some d, .convert t u x, ty, pos, af, gd⟩ k := by
  obtain ⟨h1, ⟨rfl, h2⟩ | ⟨rfl, h2⟩ | ⟨l, o, c, rfl, h3, h4⟩⟩ := hb
  · have : bs = [] := List.eq_nil_of_length_eq_zero h2
    subst this
    exact st_val (v := .string .empty) rfl (by simp only [aop, aConvert, ov_ok hx, Option.bind_some, ht, hu, he, Option.map_some]) (hk [])
  · have : bs = [] := List.eq_nil_of_length_eq_zero h2
    subst this
    exact st_val (v := .string .empty) rfl (by simp only [aop, aConvert, ov_ok hx, Option.bind_some, ht, hu, he, Option.map_some]) (hk [])
  · by_cases h0 : bs.length = 0
    · have : bs = [] := List.eq_nil_of_length_eq_zero h0
      subst this
      exact st_val (v := .string .empty) rfl (by simp only [aop, aConvert, ov_ok hx, Option.bind_some, ht, hu, he, List.length_nil, if_true, Option.map_some]) (hk [])
    · obtain ⟨cl, ro, h5, h6, h7⟩ := h4.resolve_left h0
      refine ⟨⟨[l], fun _ objs => match objs with
          | [.cells c _ _] => if o + bs.length ≤ c.length then
              (bytesOf ((c.drop o).take bs.length) ByteArray.empty).map fun s => ⟨.string s, none, none⟩ else none
          | _ => none⟩, ⟨.string (str bs), none, none⟩, ?_, ?_, rfl, _, _, Fr_put _ _ _ _ _, rfl, hk _⟩
      · simp only [aop, aConvert, ov_ok hx, Option.bind_some, ht, hu, he, if_neg h0, Option.map_some]
        rfl
      · simp only [Prim.run, getAll, h5, Option.bind_some, Option.map_some]
        rw [Nat.mul_one] at h6 h7
        rw [if_pos h6, h7, bytesOf_u8c]
        simp
theorem s_s2b {t u e : TypeId} {x : Operand} {b : ByteArray} (ht : E6.P.underlying t = some .string) (hu : E6.P.underlying u = some (.slice e)) (he : E6.P.underlying e = some (.int .u8)) (hx : ov N s x = some (.string b))
    (hk : ∀ tc wr, k ((d, .slice (some ⟨nm, 0, none⟩) b.size b.size) :: s) (gset g nm (.cells (u8c b.data.toList) 1 false)) tc wr) : ST N f s g n nm ⟨some d, .convert t u x, ty, pos, af, gd⟩ k :=
  ⟨Prim.newSlice (u8c b.data.toList) 1 b.size, ⟨.slice (some ⟨nm, 0, none⟩) b.size b.size, none, some (.cells (u8c b.data.toList) 1 false)⟩, by simp only [aop, aConvert, ov_ok hx, Option.bind_some, ht, hu, he, Option.map_some]; rfl, rfl, rfl, _, _, Fr_put _ _ _ _ _, rfl, hk _ _⟩
end

section
variable {X : Cx} {k : List Fm} {f : Nat → Value} {s : Sls} {g : Gm} {m j m₀ j₀ i : Nat} {ops : Array Oper} {ty : TypeId} {pos : String} {af : Array Edge} {gd : Option (Nat × Bool)} {lo : List Nat} {L : List (Nat × List Nat)} {D : List Rec}

theorem str_eq {a b : List UInt8} : ((str a).toList == (str b).toList) = decide (a = b) := by
  have e : ∀ l : List UInt8, (str l).toList = l := fun l => by
    rw [ByteArray.toList_eq] <;> simp [str]
  rw [e, e]
  by_cases h : a = b <;> simp [h]
end

end Go.Proofs.YtfchjhfccnodpaaGreat
end

section
namespace Go.Proofs.YtfchjhfccnodpaaGreat
set_option linter.unusedSimpArgs false
set_option linter.unusedVariables false

theorem zl_1 : zeroL E6.P 1 = some [.nilFunc] := by unfold zeroL; rw [zp_1]; rfl
theorem zl_2 : zeroL E6.P 2 = some [.int .i64 0] := by unfold zeroL; rw [zp_2]; rfl
theorem zl_3 : zeroL E6.P 3 = some [.int .i64 0] := by unfold zeroL; rw [zp_3]; rfl
theorem zl_4 : zeroL E6.P 4 = some [.bool false] := by unfold zeroL; rw [zp_4]; rfl
theorem zl_5 : zeroL E6.P 5 = some [.int .u8 0] := by unfold zeroL; rw [zp_5]; rfl
theorem zl_9 : zeroL E6.P 9 = some [.string .empty] := by unfold zeroL; rw [zp_9]; rfl
theorem zl_21 : zeroL E6.P 21 = some [.int .i32 0] := by unfold zeroL; rw [zp_21]; rfl
theorem zl_24 : zeroL E6.P 24 = some [.pointer none] := by unfold zeroL; rw [zp_24]; rfl
theorem zl_26 : zeroL E6.P 26 = some [.slice none 0 0] := by unfold zeroL; rw [zp_26]; rfl
theorem zl_27 : zeroL E6.P 27 = some [.slice none 0 0] := by unfold zeroL; rw [zp_27]; rfl
theorem zl_29 : zeroL E6.P 29 = some [.slice none 0 0, .slice none 0 0] := by unfold zeroL; rw [zp_29]; rfl
theorem zl_30 : zeroL E6.P 30 = some [.map none] := by unfold zeroL; rw [zp_30]; rfl
theorem zl_31 : zeroL E6.P 31 = some [.slice none 0 0] := by unfold zeroL; rw [zp_31]; rfl
theorem zl_33 : zeroL E6.P 33 = some [.int .i64 0, .int .i64 0, .int .i64 0] := by unfold zeroL; rw [zp_33]; rfl
theorem zl_34 : zeroL E6.P 34 = some [.slice none 0 0] := by unfold zeroL; rw [zp_34]; rfl
theorem zl_35 : zeroL E6.P 35 = some [.slice none 0 0] := by unfold zeroL; rw [zp_35]; rfl
theorem zl_36 : zeroL E6.P 36 = some [.slice none 0 0] := by unfold zeroL; rw [zp_36]; rfl
theorem zl_37 : zeroL E6.P 37 = some [.slice none 0 0] := by unfold zeroL; rw [zp_37]; rfl
theorem zl_39 : zeroL E6.P 39 = some [.string .empty, .int .i64 0, .int .i64 0, .int .i64 0, .int .i64 0, .int .i64 0, .slice none 0 0, .slice none 0 0, .slice none 0 0, .slice none 0 0, .string .empty, .slice none 0 0, .int .i64 0, .slice none 0 0, .string .empty, .int .i64 0] := by unfold zeroL; rw [zp_39]; rfl
theorem zl_40 : zeroL E6.P 40 = some [.slice none 0 0] := by unfold zeroL; rw [zp_40]; rfl
theorem zl_42 : zeroL E6.P 42 = some [.string .empty, .int .i64 0, .int .i64 0, .int .i64 0, .slice none 0 0, .slice none 0 0] := by unfold zeroL; rw [zp_42]; rfl
theorem zl_43 : zeroL E6.P 43 = some [.slice none 0 0] := by unfold zeroL; rw [zp_43]; rfl
theorem zl_45 : zeroL E6.P 45 = some [.int .i64 0, .int .i64 0, .slice none 0 0, .string .empty, .int .i64 0, .int .i64 0, .int .i64 0, .int .i64 0, .int .i64 0, .slice none 0 0, .slice none 0 0, .slice none 0 0, .slice none 0 0, .string .empty, .slice none 0 0, .int .i64 0, .slice none 0 0, .string .empty, .int .i64 0, .string .empty, .int .i64 0, .int .i64 0, .int .i64 0, .slice none 0 0, .slice none 0 0, .string .empty, .int .i64 0, .bool false, .slice none 0 0] := by unfold zeroL; rw [zp_45]; rfl
theorem zl_51 : zeroL E6.P 51 = some [.slice none 0 0] := by unfold zeroL; rw [zp_51]; rfl
theorem zl_57 : zeroL E6.P 57 = some [.pointer none] := by unfold zeroL; rw [zp_57]; rfl
theorem zl_63 : zeroL E6.P 63 = some [.slice none 0 0] := by unfold zeroL; rw [zp_63]; rfl
theorem zl_67 : zeroL E6.P 67 = some [.pointer none] := by unfold zeroL; rw [zp_67]; rfl
theorem zl_69 : zeroL E6.P 69 = some [.slice none 0 0] := by unfold zeroL; rw [zp_69]; rfl
theorem zl_71 : zeroL E6.P 71 = some [.slice none 0 0] := by unfold zeroL; rw [zp_71]; rfl
theorem zl_72 : zeroL E6.P 72 = some [.slice none 0 0] := by unfold zeroL; rw [zp_72]; rfl
theorem zl_74 : zeroL E6.P 74 = some [.slice none 0 0, .slice none 0 0] := by unfold zeroL; rw [zp_74]; rfl
theorem zl_76 : zeroL E6.P 76 = some [.int .i64 0, .int .i64 0, .int .i64 0, .string .empty, .int .i64 0, .slice none 0 0, .slice none 0 0] := by unfold zeroL; rw [zp_76]; rfl
theorem zl_81 : zeroL E6.P 81 = some [.pointer none] := by unfold zeroL; rw [zp_81]; rfl
theorem zl_83 : zeroL E6.P 83 = some [.slice none 0 0] := by unfold zeroL; rw [zp_83]; rfl
theorem zl_87 : zeroL E6.P 87 = some [.pointer none] := by unfold zeroL; rw [zp_87]; rfl
theorem zl_89 : zeroL E6.P 89 = some [.slice none 0 0] := by unfold zeroL; rw [zp_89]; rfl
theorem zl_91 : zeroL E6.P 91 = some [.slice none 0 0] := by unfold zeroL; rw [zp_91]; rfl
theorem zl_100 : zeroL E6.P 100 = some [.pointer none] := by unfold zeroL; rw [zp_100]; rfl
theorem zl_103 : zeroL E6.P 103 = some [.map none] := by unfold zeroL; rw [zp_103]; rfl
theorem zl_104 : zeroL E6.P 104 = some [.map none] := by unfold zeroL; rw [zp_104]; rfl
theorem zl_105 : zeroL E6.P 105 = some [.slice none 0 0] := by unfold zeroL; rw [zp_105]; rfl
theorem zl_107 : zeroL E6.P 107 = some [.bool false, .slice none 0 0, .pointer none, .pointer none, .pointer none, .slice none 0 0, .map none, .map none, .map none] := by unfold zeroL; rw [zp_107]; rfl
theorem zl_109 : zeroL E6.P 109 = some [.pointer none, .bool false, .int .i64 0] := by unfold zeroL; rw [zp_109]; rfl
theorem zl_116 : zeroL E6.P 116 = some [.map none] := by unfold zeroL; rw [zp_116]; rfl
theorem zl_117 : zeroL E6.P 117 = some [.map none] := by unfold zeroL; rw [zp_117]; rfl
theorem zl_118 : zeroL E6.P 118 = some [.pointer none] := by unfold zeroL; rw [zp_118]; rfl
theorem zl_120 : zeroL E6.P 120 = some [] := by unfold zeroL; rw [zp_120]; rfl
theorem zl_121 : zeroL E6.P 121 = some [] := by unfold zeroL; rw [zp_121]; rfl
theorem zl_123 : zeroL E6.P 123 = some [.int .i64 0] := by unfold zeroL; rw [zp_123]; rfl
theorem zl_125 : zeroL E6.P 125 = some [.int .i64 0, .map none, .map none, .pointer none, .int .i64 0, .int .i64 0] := by unfold zeroL; rw [zp_125]; rfl
theorem zl_130 : zeroL E6.P 130 = some [.string .empty, .int .i64 0, .slice none 0 0] := by unfold zeroL; rw [zp_130]; rfl
theorem zl_143 : zeroL E6.P 143 = some [.nilFunc] := by unfold zeroL; rw [zp_143]; rfl
theorem zl_148 : zeroL E6.P 148 = some [.pointer none] := by unfold zeroL; rw [zp_148]; rfl
theorem zl_150 : zeroL E6.P 150 = some [.pointer none] := by unfold zeroL; rw [zp_150]; rfl
theorem zl_152 : zeroL E6.P 152 = some [.pointer none] := by unfold zeroL; rw [zp_152]; rfl
theorem zl_154 : zeroL E6.P 154 = some [.pointer none] := by unfold zeroL; rw [zp_154]; rfl
theorem zl_156 : zeroL E6.P 156 = some [.slice none 0 0] := by unfold zeroL; rw [zp_156]; rfl
theorem zl_158 : zeroL E6.P 158 = some [.int .i64 0, .bool false, .int .i64 0, .pointer none, .pointer none, .pointer none, .pointer none, .slice none 0 0, .int .i64 0, .int .i64 0, .int .i64 0, .int .i64 0, .int .i64 0, .int .i64 0, .int .i64 0, .string .empty, .bool false, .int .i64 0] := by unfold zeroL; rw [zp_158]; rfl
theorem zl_168 : zeroL E6.P 168 = some [.pointer none] := by unfold zeroL; rw [zp_168]; rfl
theorem zl_172 : zeroL E6.P 172 = some [.string .empty, .int .i64 0, .bool false] := by unfold zeroL; rw [zp_172]; rfl
theorem zl_174 : zeroL E6.P 174 = some [.string .empty, .slice none 0 0, .bool false] := by unfold zeroL; rw [zp_174]; rfl
theorem zl_177 : zeroL E6.P 177 = some [.map none, .int .i64 0] := by unfold zeroL; rw [zp_177]; rfl
theorem zl_179 : zeroL E6.P 179 = some [.int .i64 0, .int .i64 0, .slice none 0 0, .slice none 0 0] := by unfold zeroL; rw [zp_179]; rfl
theorem zl_182 : zeroL E6.P 182 = some [.slice none 0 0] := by unfold zeroL; rw [zp_182]; rfl
theorem zl_198 : zeroL E6.P 198 = some [.string .empty, .string .empty, .slice none 0 0] := by unfold zeroL; rw [zp_198]; rfl
theorem zl_202 : zeroL E6.P 202 = some [.int .i64 0, .int .i64 0, .int .i64 0, .int .i64 0, .int .i64 0, .int .i64 0, .int .i64 0, .int .i64 0] := by unfold zeroL; rw [zp_202]; rfl
theorem zl_208 : zeroL E6.P 208 = some [.slice none 0 0, .int .i64 0] := by unfold zeroL; rw [zp_208]; rfl
theorem zl_210 : zeroL E6.P 210 = some [.string .empty, .string .empty] := by unfold zeroL; rw [zp_210]; rfl
theorem zl_212 : zeroL E6.P 212 = some [.string .empty, .int .i64 0, .slice none 0 0] := by unfold zeroL; rw [zp_212]; rfl
theorem zl_214 : zeroL E6.P 214 = some [.string .empty, .string .empty, .bool false] := by unfold zeroL; rw [zp_214]; rfl
theorem zl_215 : zeroL E6.P 215 = some [.string .empty, .string .empty] := by unfold zeroL; rw [zp_215]; rfl
theorem zl_218 : zeroL E6.P 218 = some [.bool false, .int .i64 0, .slice none 0 0] := by unfold zeroL; rw [zp_218]; rfl
theorem zl_228 : zeroL E6.P 228 = some [.nilFunc] := by unfold zeroL; rw [zp_228]; rfl
theorem zl_231 : zeroL E6.P 231 = some [.nilFunc] := by unfold zeroL; rw [zp_231]; rfl
theorem zl_243 : zeroL E6.P 243 = some [.int .i64 0, .int .i64 0, .pointer none, .bool false, .int .i64 0, .int .i64 0, .int .i64 0, .string .empty, .int .i64 0, .slice none 0 0, .slice none 0 0, .int .i64 0, .int .i64 0] := by unfold zeroL; rw [zp_243]; rfl
theorem zl_245 : zeroL E6.P 245 = some [.int .i64 0, .int .i64 0] := by unfold zeroL; rw [zp_245]; rfl
theorem zl_247 : zeroL E6.P 247 = some [.int .i64 0, .bool false, .bool false, .int .i64 0, .int .i64 0, .int .i64 0, .int .i64 0, .bool false, .int .i64 0, .int .i64 0, .int .i64 0] := by unfold zeroL; rw [zp_247]; rfl
theorem zl_248 : zeroL E6.P 248 = some [.slice none 0 0] := by unfold zeroL; rw [zp_248]; rfl
theorem zl_250 : zeroL E6.P 250 = some [.slice none 0 0, .slice none 0 0, .slice none 0 0, .bool false] := by unfold zeroL; rw [zp_250]; rfl
theorem zl_251 : zeroL E6.P 251 = some [.slice none 0 0] := by unfold zeroL; rw [zp_251]; rfl
theorem zl_253 : zeroL E6.P 253 = some [.slice none 0 0] := by unfold zeroL; rw [zp_253]; rfl
theorem zl_256 : zeroL E6.P 256 = some [.string .empty, .string .empty, .slice none 0 0, .int .i64 0, .int .i64 0, .int .i64 0] := by unfold zeroL; rw [zp_256]; rfl
theorem zl_258 : zeroL E6.P 258 = some [.nilFunc] := by unfold zeroL; rw [zp_258]; rfl
theorem zl_265 : zeroL E6.P 265 = some [] := by unfold zeroL; rw [zp_265]; rfl
theorem zl_266 : zeroL E6.P 266 = some [.int .u32 0] := by unfold zeroL; rw [zp_266]; rfl
theorem zl_268 : zeroL E6.P 268 = some [.int .u32 0] := by unfold zeroL; rw [zp_268]; rfl
theorem zl_270 : zeroL E6.P 270 = some [.int .i32 0, .int .u32 0] := by unfold zeroL; rw [zp_270]; rfl
theorem zl_272 : zeroL E6.P 272 = some [.int .i32 0, .int .u32 0] := by unfold zeroL; rw [zp_272]; rfl
theorem zl_274 : zeroL E6.P 274 = some [.int .u32 0, .int .i32 0, .int .u32 0] := by unfold zeroL; rw [zp_274]; rfl
theorem zl_275 : zeroL E6.P 275 = some [.int .u64 0] := by unfold zeroL; rw [zp_275]; rfl
theorem zl_277 : zeroL E6.P 277 = some [.int .u8 0, .int .u8 0, .int .u8 0, .int .u8 0, .int .u8 0, .int .u8 0, .int .u8 0, .int .u8 0, .int .u8 0, .int .u8 0, .int .u8 0, .int .u8 0, .int .u8 0, .int .u8 0, .int .u8 0, .int .u8 0, .int .u8 0, .int .u8 0, .int .u8 0, .int .u8 0, .int .u8 0, .int .u8 0, .int .u8 0, .int .u8 0, .int .u8 0, .int .u8 0, .int .u8 0, .int .u8 0, .int .u8 0, .int .u8 0, .int .u8 0, .int .u8 0, .int .u8 0, .int .u8 0, .int .u8 0, .int .u8 0, .int .u8 0, .int .u8 0] := by unfold zeroL; rw [zp_277]; rfl
theorem zl_292 : zeroL E6.P 292 = some [.string .empty, .string .empty, .slice none 0 0, .int .i64 0, .int .i64 0, .int .i64 0] := by unfold zeroL; rw [zp_292]; rfl
theorem zl_302 : zeroL E6.P 302 = some [.int .i64 0, .string .empty, .slice none 0 0, .bool false] := by unfold zeroL; rw [zp_302]; rfl
theorem zl_333 : zeroL E6.P 333 = some [.slice none 0 0, .int .i64 0, .int .i64 0, .int .i64 0] := by unfold zeroL; rw [zp_333]; rfl
theorem zl_341 : zeroL E6.P 341 = some [.pointer none] := by unfold zeroL; rw [zp_341]; rfl
theorem zl_343 : zeroL E6.P 343 = some [.nilFunc] := by unfold zeroL; rw [zp_343]; rfl
theorem zl_346 : zeroL E6.P 346 = some [.nilFunc] := by unfold zeroL; rw [zp_346]; rfl
theorem zl_348 : zeroL E6.P 348 = some [.nilFunc] := by unfold zeroL; rw [zp_348]; rfl
theorem zl_375 : zeroL E6.P 375 = some [.pointer none] := by unfold zeroL; rw [zp_375]; rfl
theorem zl_377 : zeroL E6.P 377 = some [.string .empty, .int .i64 0, .int .i64 0, .int .i64 0, .int .i64 0, .int .i64 0, .slice none 0 0, .slice none 0 0, .slice none 0 0, .slice none 0 0, .string .empty, .slice none 0 0, .int .i64 0, .slice none 0 0, .string .empty, .int .i64 0, .bool false, .int .i64 0, .int .i64 0] := by unfold zeroL; rw [zp_377]; rfl
theorem zl_421 : zeroL E6.P 421 = some [.pointer none] := by unfold zeroL; rw [zp_421]; rfl
theorem zl_440 : zeroL E6.P 440 = some [.nilFunc] := by unfold zeroL; rw [zp_440]; rfl
theorem zl_472 : zeroL E6.P 472 = some [.pointer none] := by unfold zeroL; rw [zp_472]; rfl
theorem zl_491 : zeroL E6.P 491 = some [.map none] := by unfold zeroL; rw [zp_491]; rfl
theorem zl_494 : zeroL E6.P 494 = some [.pointer none] := by unfold zeroL; rw [zp_494]; rfl
theorem zl_508 : zeroL E6.P 508 = some [.pointer none] := by unfold zeroL; rw [zp_508]; rfl
theorem zl_510 : zeroL E6.P 510 = some [.pointer none] := by unfold zeroL; rw [zp_510]; rfl
theorem zl_512 : zeroL E6.P 512 = some [.pointer none] := by unfold zeroL; rw [zp_512]; rfl

end Go.Proofs.YtfchjhfccnodpaaGreat
end

section
open Go.Proofs
namespace Go.Proofs.YtfchjhfccnodpaaGreat
open Go.MapKept
open Go.ChangeMaps (setBlock)
set_option linter.unusedSimpArgs false
set_option linter.unusedVariables false
set_option maxRecDepth 100000

section
variable {P : Program} {nm : Nat} {a : Act} {σ : Heap} {K : Act → Heap → Prop} {d : Tmp} {ty : TypeId} {pos : String} {af : Array Edge} {gd : Option (Nat × Bool)} {x : Operand}

theorem nd_range {t kt et : TypeId} {m : Nat} {es : List MapEntry} {clock : Nat} (hu : P.underlying t = some (.map kt et)) (hx : aeval a x = some (.map (some m))) (hm : σ.get m = some (.map es clock))
    (hk : K (a.put (some d) (.pointer (some ⟨nm, 0, none⟩))) (σ.upd nm (some (.mapIter (some m) clock [] clock)))) : NdStep P nm ⟨some d, .range t x, ty, pos, af, gd⟩ a σ K := by
  intro ρ w evc hev hrel hnm hlt
  have hv := hev _ _ hx
  generalize hy : evc x = y at hv
  cases hv with
  | map hpl =>
    rename_i pl
    obtain ⟨es', hh, hes⟩ := map_of hrel hm hpl
    have hle := LMap.le_set (l := nm) (⟨w.heap.size, 0, 0, 0, 0⟩ : Pl) hnm
    obtain ⟨h1, h2⟩ := step_push (w' := w.alloc (.mapIter (some pl.blk) clock #[] clock)) hrel hnm hlt (.mapIter (some pl.blk) clock #[] clock) (.mapIter (some m) clock [] clock) ⟨w.heap.size, 0, 0, 0, 0⟩ rfl ⟨rfl, rfl, rfl⟩ rfl
      ⟨rfl, some pl.blk, heap_alloc_new _ _, .map (hle _ _ hpl)⟩
    have hrun : (execOp evc ⟨some d, .range t x, ty, pos, af, gd⟩).run P w = .ok (.value (.pointer (some ⟨w.heap.size, 0, none⟩))) (w.alloc (.mapIter (some pl.blk) clock #[] clock)) := by
      show (do pure (Next.value (← Instr.range t (evc x))) : Sem Next).run P w = _
      rw [hy, Sem.run_bind, run_range_map w t kt et pl.blk es' clock hu hh]
      rfl
    exact ⟨⟨.pointer (some ⟨nm, 0, none⟩), none, some (.mapIter (some m) clock [] clock)⟩, ⟨_, _, _, _, hrun, rfl, h1, h2, .ptr (o := 0) (p := ⟨w.heap.size, 0, 0, 0, 0⟩) (LMap.set_same _ _ _), fun l hl => LMap.set_ne _ _ hl⟩, fun l hl hn => by
      show (σ.upd nm _).get l = none
      rw [Heap.upd_ne _ _ hl]; exact hn, hk⟩

theorem iter_of {ρ : LMap} {w : World} {l : Nat} {mo : Option Nat} {since stepped : Nat} {seen : List Nat} {p : Pl} (hrel : Rel ρ σ w) (hl : σ.get l = some (.mapIter mo since seen stepped)) (hp : ρ l = some p) : p.off = 0 ∧ ∃ m', w.heap[p.blk]? = some (.mapIter m' since seen.toArray stepped) ∧ VRel ρ (.map mo) (.map m') := by
  obtain ⟨q, hq, hr⟩ := hrel.dom l _ hl
  rw [hp] at hq; cases hq
  exact hr

theorem nd_next {r m since stepped clock : Nat} {seen : List Nat} {es : List MapEntry} (hx : aeval a x = some (.pointer (some ⟨r, 0, none⟩))) (hr : σ.get r = some (.mapIter (some m) since seen stepped)) (hm : σ.get m = some (.map es clock))
    (hold : ∀ e ∈ es, e.born < since) (hsc : since ≤ stepped)
    (hno : (∀ e ∈ es, e.born ∈ seen) → K (a.put (some d) (.tuple #[.bool false])) σ)
    (hyes : ∀ e ∈ es, e.born ∉ seen → K (a.put (some d) (.tuple #[.bool true, e.key, e.val])) (σ.upd r (some (.mapIter (some m) since (seen ++ [e.born]) clock)))) : NdStep P nm ⟨some d, .next x false, ty, pos, af, gd⟩ a σ K := by
  intro ρ w evc hev hrel hnm hlt
  have hv := hev _ _ hx
  generalize hy : evc x = y at hv
  cases hv with
  | ptr hpl =>
    rename_i pl
    obtain ⟨h0, m', h1, h2⟩ := iter_of hrel hr hpl
    cases h2 with
    | map hpm =>
      rename_i pm
      obtain ⟨es', hh, hes⟩ := map_of hrel hm hpm
      have back : ∀ e' ∈ es'.toList, ∃ e ∈ es, ERel ρ e e' := by
        intro e' he'
        obtain ⟨i, hi, rfl⟩ := List.mem_iff_getElem.1 he'
        have hi2 : i < es.length := by rw [hes.1]; simpa using hi
        exact ⟨es[i], List.getElem_mem _, hes.2 i _ _ (List.getElem?_eq_getElem hi2) (by rw [Array.getElem?_eq_getElem (by simpa using hi)]; simp)⟩
      have hold' : ∀ y ∈ es'.toList, y.born < since := fun y hy => by
        obtain ⟨e, he, _, _, _, hb⟩ := back y hy
        rw [hb]; exact hold e he
      have hs : ∀ (nx : Next) (w' : World) (v : Value), (Instr.next (.pointer (some ⟨pl.blk, 0, none⟩)) false ty).run P w = .ok v w' → (execOp evc ⟨some d, .next x false, ty, pos, af, gd⟩).run P w = .ok (.value v) w' := by
        intro nx w' v hv
        show (do pure (Next.value (← Instr.next (evc x) false ty)) : Sem Next).run P w = _
        rw [hy, h0, Sem.run_bind, hv]
        rfl
      rcases run_next_at (P := P) w ty pl.blk pm.blk since stepped seen.toArray es' clock h1 hh hold' hsc with ⟨q1, q2⟩ | ⟨e', he', w1, hw1, q2⟩
      · refine ⟨⟨.tuple #[.bool false], none, none⟩, ⟨_, _, _, _, hs .skip _ _ q2, rfl, hrel, Frm.refl _ _ _, plainV_rel ρ rfl, fun _ _ => rfl⟩, fun l _ hn => hn, hno fun e he => ?_⟩
        obtain ⟨i, hi, rfl⟩ := List.mem_iff_getElem.1 he
        have hi2 : i < es'.size := by rw [← hes.1]; exact hi
        obtain ⟨_, _, _, hb⟩ := hes.2 i _ _ (List.getElem?_eq_getElem hi) (Array.getElem?_eq_getElem hi2)
        by_cases hc : es[i].born ∈ seen
        · exact hc
        · exfalso
          have : es'[i] ∈ (leftOf es' seen.toArray).toList := by
            simp only [leftOf, Array.toList_filter, List.mem_filter]
            refine ⟨by simp, ?_⟩
            rw [hb]; simpa using hc
          have h3 : (leftOf es' seen.toArray).toList = [] := List.eq_nil_of_length_eq_zero (by simpa using q1)
          rw [h3] at this
          cases this
      · have hl : e' ∈ es'.toList ∧ e'.born ∉ seen := by
          simp only [leftOf, Array.toList_filter, List.mem_filter] at he'
          exact ⟨he'.1, by simpa using he'.2⟩
        obtain ⟨e, he, k1, k2, k3, k4⟩ := back e' hl.1
        have hrel1 : Rel ρ σ w1 := by rcases hw1 with rfl | rfl <;> first | exact hrel | exact ⟨hrel.dom, hrel.excl, hrel.bnd⟩
        have hfrm1 : Frm ρ σ w ρ σ w1 := by rcases hw1 with rfl | rfl <;> exact ⟨ρ.le_refl, rfl, rfl, rfl, Nat.le_refl _, Nat.le_refl _, fun _ _ _ => rfl, fun _ _ _ h => h⟩
        have hh1 : w1.heap = w.heap := by rcases hw1 with rfl | rfl <;> rfl
        have hlt' := (hrel1.bnd _ _ hpl).2
        obtain ⟨s1, s2⟩ := step_write (w' := setBlock w1 pl.blk (.mapIter (some pm.blk) since (seen.toArray.push e'.born) clock)) hrel1 hr rfl hpl ⟨rfl, rfl, rfl⟩ (by simp [setBlock]) (fun b hb => by simp only [setBlock, Array.getElem?_setIfInBounds]; rw [if_neg (fun e => hb e.symm)]) (o := .mapIter (some m) since (seen ++ [e.born]) clock) rfl
          ⟨h0, some pm.blk, by simp only [setBlock]; rw [k4]; simp [hlt'], .map hpm⟩
        refine ⟨⟨.tuple #[.bool true, e.key, e.val], some (r, some (.mapIter (some m) since (seen ++ [e.born]) clock)), none⟩, ⟨_, _, _, _, hs .skip _ _ q2, rfl, s1, hfrm1.trans s2, ?_, fun _ _ => rfl⟩, fun l hl hn => ?_, hyes e he (by rw [← k4]; exact hl.2)⟩
        · refine VlRel.toArray (a := [.bool true, e.key, e.val]) (a' := [.bool true, e'.key, e'.val]) (.cons (.bool _) (.cons (by rw [k1]; exact plainV_rel ρ k2) (.cons k3 (.nil _)))) |> fun h => .tuple h.1 h.2
        · show (σ.upd r _).get l = none
          by_cases e2 : l = r
          · subst e2; rw [hr] at hn; cases hn
          · rw [Heap.upd_ne _ _ e2]; exact hn

theorem nd_entry {r m since clock : Nat} {seen : List Nat} {es : List MapEntry} {e : MapEntry} (hx : aeval a x = some (.pointer (some ⟨r, 0, none⟩))) (hr : σ.get r = some (.mapIter (some m) since (seen ++ [e.born]) clock)) (hm : σ.get m = some (.map es clock))
    (he : e ∈ es) (hnd : (es.map (·.born)).Nodup) (hk : K (a.put (some d) (.tuple #[e.key, e.val])) σ) : NdStep P nm ⟨some d, .entry x, ty, pos, af, gd⟩ a σ K := by
  intro ρ w evc hev hrel hnm hlt
  have hv := hev _ _ hx
  generalize hy : evc x = y at hv
  cases hv with
  | ptr hpl =>
    rename_i pl
    obtain ⟨h0, m', h1, h2⟩ := iter_of hrel hr hpl
    cases h2 with
    | map hpm =>
      rename_i pm
      obtain ⟨es', hh, hes⟩ := map_of hrel hm hpm
      obtain ⟨i, hi, rfl⟩ := List.mem_iff_getElem.1 he
      have hi2 : i < es'.size := by rw [← hes.1]; exact hi
      obtain ⟨k1, k2, k3, k4⟩ := hes.2 i _ _ (List.getElem?_eq_getElem hi) (Array.getElem?_eq_getElem hi2)
      have hb : es'.toList.map (·.born) = es.map (·.born) := by
        apply List.ext_getElem?
        intro j
        simp only [List.getElem?_map]
        rcases Nat.lt_or_ge j es.length with hj | hj
        · have h3 : es'[j]? = some (es'[j]'(by rw [← hes.1]; exact hj)) := Array.getElem?_eq_getElem _
          rw [Array.getElem?_toList, List.getElem?_eq_getElem hj, h3]
          simp [(hes.2 j _ _ (List.getElem?_eq_getElem hj) h3).2.2.2]
        · rw [List.getElem?_eq_none hj, List.getElem?_eq_none (by rw [Array.length_toList, ← hes.1]; exact hj)]
      have hrun := run_entry_at (P := P) w pl.blk pm.blk since seen.toArray es' clock es'[i] (by rw [h1, k4]; simp) hh (by simp) (by rw [hb]; exact hnd)
      have hs : (execOp evc ⟨some d, .entry x, ty, pos, af, gd⟩).run P w = .ok (.value (.tuple #[es'[i].key, es'[i].val])) w := by
        show (do pure (Next.value (← Instr.entry (evc x))) : Sem Next).run P w = _
        rw [hy, h0, Sem.run_bind, hrun]
        rfl
      exact ⟨⟨.tuple #[es[i].key, es[i].val], none, none⟩, ⟨_, _, _, _, hs, rfl, hrel, Frm.refl _ _ _, (VlRel.toArray (a := [es[i].key, es[i].val]) (a' := [es'[i].key, es'[i].val]) (.cons (by rw [k1]; exact plainV_rel ρ k2) (.cons k3 (.nil _)))) |> fun h => .tuple h.1 h.2, fun _ _ => rfl⟩, fun l _ hn => hn, hk⟩
end


section
variable {X : Cx} {k : List Fm} {f : Nat → Value} {s : Sls} {g : Gm} {m j m₀ j₀ i q : Nat} {ops : Array Oper} {os : List Oper} {d : Tmp} {ty : TypeId} {pos : String} {af : Array Edge} {x : Operand}

theorem n_nd {op : Op} (hq : j₀ + i = q) (ha : aop E6 (aeval (Fr X.N f s)) ⟨some d, op, ty, pos, af, none⟩ = none)
    (h : NdStep E6.P (m₀ + q) ⟨some d, op, ty, pos, af, none⟩ (Fr X.N f s) ⟨g, m + j⟩ fun a σ => ∃ s' g', a = Fr X.N f s' ∧ σ = ⟨g', m + j⟩ ∧ RN X k ops m₀ j₀ (i + 1) os f s' g' m j) :
    RN X k ops m₀ j₀ i (⟨some d, op, ty, pos, af, none⟩ :: os) f s g m j := by
  subst hq
  refine ⟨fun hops => ?_⟩
  rw [List.length_cons, List.range'_succ]
  have ho := rn_here hops
  simp only [runL, ho, Region.wanted, if_true, ha]
  rw [← Nat.add_assoc] at h
  refine h.mono fun a σ hh => ?_
  obtain ⟨s', g', rfl, rfl, hR⟩ := hh
  exact hR.out (rn_rest hops)

theorem n_range {t kt et : TypeId} {mm : Nat} {es : List MapEntry} {clock : Nat} (hq : j₀ + i = q) (hu : E6.P.underlying t = some (.map kt et)) (hx : ov X.N s x = some (.map (some mm))) (hm : g mm = some (.map es clock))
    (h : RN X k ops m₀ j₀ (i + 1) os f ((d, .pointer (some ⟨m₀ + q, 0, none⟩)) :: s) (gset g (m₀ + q) (.mapIter (some mm) clock [] clock)) m j) : RN X k ops m₀ j₀ i (⟨some d, .range t x, ty, pos, af, none⟩ :: os) f s g m j :=
  n_nd hq rfl (nd_range hu (ov_ok hx) hm ⟨_, _, Fr_put _ _ _ _ _, rfl, h⟩)

theorem n_next {r mm since stepped clock : Nat} {seen : List Nat} {es : List MapEntry} (hq : j₀ + i = q) (hx : ov X.N s x = some (.pointer (some ⟨r, 0, none⟩))) (hr : g r = some (.mapIter (some mm) since seen stepped)) (hm : g mm = some (.map es clock))
    (hold : ∀ e ∈ es, e.born < since) (hsc : since ≤ stepped)
    (hno : (∀ e ∈ es, e.born ∈ seen) → RN X k ops m₀ j₀ (i + 1) os f ((d, .tuple #[.bool false]) :: s) g m j)
    (hyes : ∀ e ∈ es, e.born ∉ seen → RN X k ops m₀ j₀ (i + 1) os f ((d, .tuple #[.bool true, e.key, e.val]) :: s) (gset g r (.mapIter (some mm) since (seen ++ [e.born]) clock)) m j) : RN X k ops m₀ j₀ i (⟨some d, .next x false, ty, pos, af, none⟩ :: os) f s g m j :=
  n_nd hq rfl (nd_next (ov_ok hx) hr hm hold hsc (fun h => ⟨_, _, Fr_put _ _ _ _ _, rfl, hno h⟩) fun e he hn => ⟨_, _, Fr_put _ _ _ _ _, rfl, hyes e he hn⟩)

theorem n_entry {r mm since clock : Nat} {seen : List Nat} {es : List MapEntry} {e : MapEntry} (hq : j₀ + i = q) (hx : ov X.N s x = some (.pointer (some ⟨r, 0, none⟩))) (hr : g r = some (.mapIter (some mm) since (seen ++ [e.born]) clock)) (hm : g mm = some (.map es clock))
    (he : e ∈ es) (hnd : (es.map (·.born)).Nodup) (h : RN X k ops m₀ j₀ (i + 1) os f ((d, .tuple #[e.key, e.val]) :: s) g m j) : RN X k ops m₀ j₀ i (⟨some d, .entry x, ty, pos, af, none⟩ :: os) f s g m j :=
  n_nd hq rfl (nd_entry (ov_ok hx) hr hm he hnd ⟨_, _, Fr_put _ _ _ _ _, rfl, h⟩)
end

end Go.Proofs.YtfchjhfccnodpaaGreat
end

section
open Go.Proofs
open Go.MapKept
namespace Go.Proofs.YtfchjhfccnodpaaGreat
set_option linter.unusedSimpArgs false
set_option linter.unusedVariables false
set_option maxRecDepth 100000

def toCome (es : List MapEntry) (seen : List Nat) : Nat := (es.filter fun e => !seen.contains e.born).length
theorem toCome_lt {es : List MapEntry} {seen : List Nat} {e : MapEntry} (he : e ∈ es) (hs : e.born ∉ seen) : toCome es (seen ++ [e.born]) < toCome es seen := by
  unfold toCome
  have h1 : (es.filter fun y => !(seen ++ [e.born]).contains y.born) = (es.filter fun y => !seen.contains y.born).filter fun y => decide (y.born ≠ e.born) := by
    rw [List.filter_filter]
    apply List.filter_congr
    intro y _
    simp [Bool.and_comm]
  rw [h1]
  refine Nat.lt_of_le_of_ne (List.length_filter_le _ _) fun h2 => ?_
  have h3 := List.length_filter_eq_length_iff.1 h2 e (by simp [he, hs])
  simp at h3

theorem holdsAll_c {g : Gm} {n s m2 clock : Nat} {a0 a1 a3 a4 a5 : Value} {ro : Bool} {es : List MapEntry} {k : List UInt8} {rev : Int}
    (hc : g s = some (.cells [a0, a1, .map (some m2), a3, a4, a5] 0 ro)) (hm : g m2 = some (.map es clock)) (hst : Stamped es.toArray clock)
    (hes : ∀ e ∈ es, ∃ (q : List UInt8) (v : Int), e.key = .string (str q) ∧ e.val = .int .i64 v ∧ v ≤ rev) :
    C 390 #[.pointer (some ⟨s, 0, none⟩), .agg [.string (str k), .int .i64 rev, .bool true].toArray] g n fun u g' n' => u = .bool true ∧ K0 g n g' := by
  refine c_in2 Tryz.func390 rfl Tryz.ntmps390 rfl fun hw => ?_
  have hsn := hw _ _ hc
  refine Na (w_reg 2 rfl rfl (j' := 2) (n_op .no (q := 0) rfl (s_boxa rfl (nA rfl (n_nil (Nc (Na (Na (w_reg 3 rfl rfl (j' := 5) (nO (s_fa0 rfl fo_172_2 (nO (sL rfl ag_4 ?_)))))))))))))
  refine nO (s_not rfl (n_nil (Nc (w_no rfl (rfl) ?_))))
  have hmn := hw _ _ hm
  refine Ne (Nc (Na (Na (w_reg 5 rfl rfl (j' := 10) (nM rfl (nN rfl (nO (s_fa0 rfl fo_125_2 (nO (sL rfl ag_117 ?_))))))))))
  refine n_range (q := 9) rfl un_117 rfl (by repeat first | exact gS | exact hm | refine gN (by omega) ?_) (n_nil ?_)
  repeat first | refine Na ?_ | refine Nb ?_ | refine Nc ?_ | refine Nd ?_ | refine Ne ?_
  refine w_loop (β := List Nat) (fun _ => [(3, .pointer (some ⟨n, 0, none⟩)), (25, .pointer (some ⟨n + 9, 0, none⟩))])
    (fun seen g' n' => n + 10 ≤ n' ∧ K0 g n g' ∧ g' n = some (.cells [.string (str k), .int .i64 rev, .bool true] 0 false) ∧ g' (n + 9) = some (.mapIter (some m2) clock seen clock)) (toCome es) [] ⟨rfl, rfl, trivial⟩ ⟨by omega, (by repeat (first | exact Kp.refl _ _ _ | refine Kp.new ?_ (by omega) _)), (by repeat first | exact gS | refine gN (by omega) ?_), gs_same _ _ _⟩ ?_
  rintro seen f gL nL hwL ⟨hnL, kL, cL, iL⟩
  have mL := kL.at0 hw hm
  have hmL := hwL _ _ mL
  have hm9 : m2 ≠ n + 9 := by omega
  repeat first | refine Na ?_ | refine Nb ?_ | refine Nc ?_ | refine Nd ?_ | refine Ne ?_
  refine w_reg 2 rfl rfl (j' := 2) (n_next (q := 0) rfl rfl iL mL (fun e he => hst.1 e (by simpa using he)) (Nat.le_refl _) (fun hno => ?_) (fun e he hns => ?_))
  · refine nO (s_ext rfl rfl (n_nil (Nc (Na (w_no rfl (rfl) ?_)))))
    refine w_exit rfl ?_
    repeat first | refine Na ?_ | refine Nb ?_ | refine Nc ?_ | refine Nd ?_ | refine Ne ?_
    refine w_reg 1 rfl rfl (j' := 3) (nA rfl (n_nil (Nc (Nf (z_r1 rfl rfl ?_)))))
    exact ⟨rfl, kL⟩
  · have hlt2 := toCome_lt he hns
    obtain ⟨q, v, e1, e2, hv⟩ := hes e he
    obtain ⟨ek, ev, eb⟩ := e
    simp only at e1 e2
    subst e1 e2
    have kI : K0 g n (gset gL (n + 9) (.mapIter (some m2) clock (seen ++ [eb]) clock)) := Kp.new kL (by omega) _
    refine nO (s_ext rfl rfl (n_nil (Nc (Na (w_yes rfl (rfl) (Ne (Nc (Nb (Na (w_reg 5 rfl rfl (j' := 7) (n_entry (q := 2) rfl (e := ⟨.string (str q), .int .i64 v, eb⟩) rfl (gs_same _ _ _) ((gs_ne hm9 _).trans mL) he hst.2.1 (nO (s_ext rfl rfl (nO (s_ext rfl rfl (nA rfl (nA rfl (n_nil (Nc (Na (w_reg 10 rfl rfl (j' := 17) (nM rfl (nO (s_fa0 rfl fo_172_1 (nO (sL rfl ag_2 ?_))))))))))))))))))))))))))
    refine nO (s_bin rfl rfl rfl (nM rfl (nSk rfl rfl (decide_eq_false (Int.not_lt.2 hv)) rfl 3 rfl (nO (s_pf rfl (decide_eq_false (Int.not_lt.2 hv)) rfl (n_nil (Nc (w_no rfl (rfl) ?_))))))))
    repeat first | refine Na ?_ | refine Nb ?_ | refine Nc ?_ | refine Nd ?_ | refine Ne ?_
    exact z_round (seen ++ [eb]) ⟨rfl, rfl, trivial⟩ ⟨by omega, kI, (gs_ne (by omega) _).trans cL, gs_same _ _ _⟩ hlt2

theorem VRel.back {ρ ρ' : LMap} (hle : ρ.le ρ') {v v₀ : Value} (h : VRel ρ v v₀) : ∀ {v' : Value}, VRel ρ' v v' → VRel ρ v v' := by
  have same : ∀ {l : Nat} {p q : Pl}, ρ l = some p → ρ' l = some q → q = p := fun h1 h2 => by
    rw [hle _ _ h1] at h2; exact (Option.some.inj h2).symm
  induction h with
  | bool b => intro v' h; cases h; exact .bool b
  | int k n => intro v' h; cases h; exact .int k n
  | float k b => intro v' h; cases h; exact .float k b
  | string s => intro v' h; cases h; exact .string s
  | ptrNil => intro v' h; cases h; exact .ptrNil
  | ptr hl => intro v' h; cases h with | ptr hl' => rw [same hl hl']; exact .ptr hl
  | sliceNil n c => intro v' h; cases h; exact .sliceNil n c
  | slice hl hc =>
    intro v' h
    cases h with
    | slice hl' hc' => have e := same hl hl'; subst e; exact .slice hl hc'
    | slice0 hl' => have e := same hl hl'; subst e; exact .slice0 hl
  | slice0 hl =>
    intro v' h
    cases h with
    | slice hl' hc' => have e := same hl hl'; subst e; exact .slice hl hc'
    | slice0 hl' => have e := same hl hl'; subst e; exact .slice0 hl
  | sliceE => intro v' h; cases h; exact .sliceE
  | mapNil => intro v' h; cases h; exact .mapNil
  | map hl => intro v' h; cases h with | map hl' => rw [same hl hl']; exact .map hl
  | @func f a b a' b' hs ht hr hq ia ib =>
    intro v' h
    cases h with
    | func hs' ht' hr' hq' =>
      have el : ∀ {a a' : Array Value} {i : Nat} {x : Value}, a.size = a'.size → a[i]? = some x → ∃ y, a'[i]? = some y := fun hs hi => by
        have hlt := (Array.getElem?_eq_some_iff.1 hi).1
        exact ⟨_, Array.getElem?_eq_getElem (hs ▸ hlt)⟩
      exact .func hs' ht' (fun i x x' h1 h2 => let ⟨y, hy⟩ := el hs h1; ia i x y h1 hy (hr' i x x' h1 h2)) (fun i x x' h1 h2 => let ⟨y, hy⟩ := el ht h1; ib i x y h1 hy (hq' i x x' h1 h2))
  | nilFunc => intro v' h; cases h; exact .nilFunc
  | nilIface => intro v' h; cases h; exact .nilIface
  | @agg a a' hs hr ih =>
    intro v' h
    cases h with
    | agg hs' hr' =>
      refine .agg hs' fun i x x' h1 h2 => ?_
      have hlt := (Array.getElem?_eq_some_iff.1 h1).1
      exact ih i x _ h1 (Array.getElem?_eq_getElem (hs ▸ hlt)) (hr' i x x' h1 h2)
  | @tuple a a' hs hr ih =>
    intro v' h
    cases h with
    | tuple hs' hr' =>
      refine .tuple hs' fun i x x' h1 h2 => ?_
      have hlt := (Array.getElem?_eq_some_iff.1 h1).1
      exact ih i x _ h1 (Array.getElem?_eq_getElem (hs ▸ hlt)) (hr' i x x' h1 h2)

theorem Real.back {ρ ρ' : LMap} (hle : ρ.le ρ') {p : Pl} {w w' : World} {o : AObj} (h : Real ρ p w o) (h' : Real ρ' p w' o) : Real ρ p w' o := by
  cases o with
  | cells c sz ro =>
    obtain ⟨_, _, C, T, fz, _, k3, _⟩ := h
    obtain ⟨h1, h0, C', T', fz', h2, h3, h4⟩ := h'
    refine ⟨h1, h0, C', T', fz', h2, fun i v hi => ?_, h4⟩
    obtain ⟨v₀, _, e⟩ := k3 i v hi
    obtain ⟨v', q1, q2⟩ := h3 i v hi
    exact ⟨v', q1, e.back hle q2⟩
  | map es k =>
    obtain ⟨es₀, _, k2⟩ := h
    obtain ⟨es', h1, h2⟩ := h'
    refine ⟨es', h1, h2.1, fun i e e' hi hi' => ?_⟩
    obtain ⟨q1, q2, q3, q4⟩ := h2.2 i e e' hi hi'
    obtain ⟨e₀, g1, _, _, g3, _⟩ := k2.get hi
    exact ⟨q1, q2, g3.back hle q3, q4⟩
  | mapIter m a b c =>
    obtain ⟨h0, m₀, _, k2⟩ := h
    obtain ⟨_, m', h1, h2⟩ := h'
    exact ⟨h0, m', h1, k2.back hle h2⟩

theorem acall_still {P : Program} {f : FuncId} {args : Array Value} {σ : Heap} {c : Value} (hc : plainV c = true) (h : ACall P f args σ fun v τ => v = c ∧ ∀ l o, σ.get l = some o → τ.get l = some o) :
    ACall P f args σ fun v τ => v = c ∧ τ = σ := by
  intro ρ w args' hrel hargs
  refine (h ρ w args' hrel hargs).mono ?_
  rintro e w' ⟨v, v', ρ', σ', he, hR, hF, hN, hv, rfl, hk⟩
  have hv' := plainV_eq hc hv
  subst hv'
  refine ⟨v', v', ρ, σ, he, ⟨fun l o hl => ?_, hrel.excl, fun l p hp => ⟨(hrel.bnd l p hp).1, Nat.lt_of_lt_of_le (hrel.bnd l p hp).2 hF.size⟩⟩,
    ⟨ρ.le_refl, hF.os, hF.tape, hF.output, hF.size, Nat.le_refl _, hF.blk, fun _ _ _ h => h⟩, Fin.refl _ _, plainV_rel ρ hc, rfl, rfl⟩
  obtain ⟨p, hp, hre0⟩ := hrel.dom l o hl
  obtain ⟨q, hq, hre⟩ := hR.dom l o (hk l o hl)
  have hpq : p = q := by
    have := hF.le _ _ hp
    rw [this] at hq; exact Option.some.inj hq
  subst hpq
  exact ⟨p, hp, hre0.back hF.le hre⟩

end Go.Proofs.YtfchjhfccnodpaaGreat
end

section
namespace Go.Proofs
open Go.Shelf
def Tryz.keys73_ren : Go.Shelf.Ren := ⟨fun | 7 => 73 | 10 => 142 | n => n, fun | 23 => 116 | 26 => 9 | 3 => 130 | 28 => 143 | 0 => 0 | 27 => 142 | 33 => 110 | 4 => 4 | n => n, fun | n => n⟩
theorem Tryz.keys73 : Go.Proofs.SlLaysZ.n7 Tryz.prog Tryz.keys73_ren := {
  mixed := by kernel_rfl
  f7 := ⟨Tryz.f73.name, by decide, Tryz.func73.trans (congrArg some (by kernel_rfl))⟩
  f10 := ⟨Tryz.f142.name, by decide, Tryz.func142.trans (congrArg some (by kernel_rfl))⟩
  t0 := Tryz.underlying0
  a0 := Tryz.isAgg0
  z0 := Tryz.sizeOf0
  v0 := Tryz.zeroValue0
  t4 := Tryz.underlying4
  a4 := Tryz.isAgg4
  z4 := Tryz.sizeOf4
  v4 := Tryz.zeroValue4
  t23 := Tryz.underlying116
  a23 := Tryz.isAgg116
  z23 := Tryz.sizeOf116
  v23 := Tryz.zeroValue116
  t26 := Tryz.underlying9
  a26 := Tryz.isAgg9
  z26 := Tryz.sizeOf9
  v26 := Tryz.zeroValue9
  t27 := Tryz.underlying142
  a27 := Tryz.isAgg142
  z27 := Tryz.sizeOf142
  v27 := Tryz.zeroValue142
  t28 := Tryz.underlying143
  a28 := Tryz.isAgg143
  z28 := Tryz.sizeOf143
  v28 := Tryz.zeroValue143
  t33 := Tryz.underlying110
  a33 := Tryz.isAgg110
  z33 := Tryz.sizeOf110
  v33 := Tryz.zeroValue110 }
def Tryz.sorted72_ren : Go.Shelf.Ren := ⟨fun | 6 => 72 | 8 => 140 | 9 => 141 | 11 => 250 | 13 => 136 | 12 => 251 | 23 => 239 | 24 => 240 | 14 => 335 | 15 => 336 | 16 => 337 | 17 => 338 | 18 => 339 | 19 => 340 | 20 => 341 | 21 => 342 | 22 => 343 | 25 => 396 | 26 => 328 | 27 => 329 | 28 => 397 | 29 => 398 | 30 => 399 | 31 => 428 | n => n, fun | 26 => 9 | 28 => 143 | 24 => 51 | 0 => 0 | 3 => 3 | 37 => 79 | 48 => 266 | 50 => 275 | 4 => 4 | 40 => 353 | 39 => 352 | 45 => 357 | 5 => 5 | 9 => 9 | 51 => 424 | 55 => 428 | 57 => 473 | 58 => 474 | 33 => 110 | n => n, fun | n => n⟩
theorem Tryz.sorted72 : Go.Proofs.SlLaysZ.n6 Tryz.prog Tryz.sorted72_ren := {
  mixed := by kernel_rfl
  f6 := ⟨Tryz.f72.name, by decide, Tryz.func72.trans (congrArg some (by kernel_rfl))⟩
  f8 := ⟨Tryz.f140.name, by decide, Tryz.func140.trans (congrArg some (by kernel_rfl))⟩
  f11 := ⟨Tryz.f250.name, by decide, Tryz.func250.trans (congrArg some (by kernel_rfl))⟩
  t0 := Tryz.underlying0
  a0 := Tryz.isAgg0
  z0 := Tryz.sizeOf0
  v0 := Tryz.zeroValue0
  t24 := Tryz.underlying51
  a24 := Tryz.isAgg51
  z24 := Tryz.sizeOf51
  v24 := Tryz.zeroValue51
  t26 := Tryz.underlying9
  a26 := Tryz.isAgg9
  z26 := Tryz.sizeOf9
  v26 := Tryz.zeroValue9
  t28 := Tryz.underlying143
  a28 := Tryz.isAgg143
  z28 := Tryz.sizeOf143
  v28 := Tryz.zeroValue143
  i26 := by kernel_rfl }
def Tryz.sort141_ren : Go.Shelf.Ren := ⟨fun | 6 => 141 | 8 => 136 | 9 => 251 | 19 => 239 | 20 => 240 | 21 => 335 | 22 => 336 | 23 => 337 | 24 => 338 | 25 => 339 | 26 => 340 | 27 => 341 | 28 => 342 | 29 => 343 | 36 => 396 | 31 => 328 | 32 => 329 | 37 => 397 | 38 => 398 | 39 => 399 | 41 => 428 | n => n, fun | 27 => 51 | 29 => 9 | 3 => 3 | 32 => 79 | 26 => 51 | 0 => 0 | 44 => 266 | 46 => 275 | 4 => 4 | 36 => 353 | 35 => 352 | 41 => 357 | 5 => 5 | 9 => 9 | 53 => 424 | 57 => 428 | 63 => 473 | 64 => 474 | n => n, fun | n => n⟩
theorem Tryz.sort141 : Go.Proofs.SlLaysM.n6 Tryz.prog Tryz.sort141_ren := {
  mixed := by kernel_rfl
  f6 := ⟨Tryz.f141.name, by decide, Tryz.func141.trans (congrArg some (by kernel_rfl))⟩
  f8 := Tryz.func136.trans (congrArg some (by kernel_rfl))
  f9 := ⟨Tryz.f251.name, by decide, Tryz.func251.trans (congrArg some (by kernel_rfl))⟩
  f19 := Tryz.func239.trans (congrArg some (by kernel_rfl))
  f20 := Tryz.func240.trans (congrArg some (by kernel_rfl))
  f21 := ⟨Tryz.f335.name, by decide, Tryz.func335.trans (congrArg some (by kernel_rfl))⟩
  f22 := ⟨Tryz.f336.name, by decide, Tryz.func336.trans (congrArg some (by kernel_rfl))⟩
  f23 := ⟨Tryz.f337.name, by decide, Tryz.func337.trans (congrArg some (by kernel_rfl))⟩
  f24 := ⟨Tryz.f338.name, by decide, Tryz.func338.trans (congrArg some (by kernel_rfl))⟩
  f25 := ⟨Tryz.f339.name, by decide, Tryz.func339.trans (congrArg some (by kernel_rfl))⟩
  f26 := ⟨Tryz.f340.name, by decide, Tryz.func340.trans (congrArg some (by kernel_rfl))⟩
  f27 := ⟨Tryz.f341.name, by decide, Tryz.func341.trans (congrArg some (by kernel_rfl))⟩
  f28 := ⟨Tryz.f342.name, by decide, Tryz.func342.trans (congrArg some (by kernel_rfl))⟩
  f29 := ⟨Tryz.f343.name, by decide, Tryz.func343.trans (congrArg some (by kernel_rfl))⟩
  f31 := Tryz.func328.trans (congrArg some (by kernel_rfl))
  f32 := Tryz.func329.trans (congrArg some (by kernel_rfl))
  f36 := ⟨Tryz.f396.name, by decide, Tryz.func396.trans (congrArg some (by kernel_rfl))⟩
  f37 := ⟨Tryz.f397.name, by decide, Tryz.func397.trans (congrArg some (by kernel_rfl))⟩
  f38 := ⟨Tryz.f398.name, by decide, Tryz.func398.trans (congrArg some (by kernel_rfl))⟩
  f39 := ⟨Tryz.f399.name, by decide, Tryz.func399.trans (congrArg some (by kernel_rfl))⟩
  f41 := ⟨Tryz.f428.name, by decide, Tryz.func428.trans (congrArg some (by kernel_rfl))⟩
  t0 := Tryz.underlying0
  a0 := Tryz.isAgg0
  z0 := Tryz.sizeOf0
  v0 := Tryz.zeroValue0
  t3 := Tryz.underlying3
  a3 := Tryz.isAgg3
  z3 := Tryz.sizeOf3
  v3 := Tryz.zeroValue3
  t4 := Tryz.underlying4
  a4 := Tryz.isAgg4
  z4 := Tryz.sizeOf4
  v4 := Tryz.zeroValue4
  t5 := Tryz.underlying5
  a5 := Tryz.isAgg5
  z5 := Tryz.sizeOf5
  v5 := Tryz.zeroValue5
  t9 := Tryz.underlying9
  a9 := Tryz.isAgg9
  z9 := Tryz.sizeOf9
  v9 := Tryz.zeroValue9
  t26 := Tryz.underlying51
  a26 := Tryz.isAgg51
  z26 := Tryz.sizeOf51
  v26 := Tryz.zeroValue51
  t27 := Tryz.underlying51
  a27 := Tryz.isAgg51
  z27 := Tryz.sizeOf51
  v27 := Tryz.zeroValue51
  t29 := Tryz.underlying9
  a29 := Tryz.isAgg9
  z29 := Tryz.sizeOf9
  v29 := Tryz.zeroValue9
  t32 := Tryz.underlying79
  a32 := Tryz.isAgg79
  z32 := Tryz.sizeOf79
  v32 := Tryz.zeroValue79
  t35 := Tryz.underlying352
  a35 := Tryz.isAgg352
  z35 := Tryz.sizeOf352
  v35 := Tryz.zeroValue352
  t36 := Tryz.underlying353
  a36 := Tryz.isAgg353
  z36 := Tryz.sizeOf353
  v36 := Tryz.zeroValue353
  t41 := Tryz.underlying357
  a41 := Tryz.isAgg357
  z41 := Tryz.sizeOf357
  v41 := Tryz.zeroValue357
  t44 := Tryz.underlying266
  a44 := Tryz.isAgg266
  z44 := Tryz.sizeOf266
  v44 := Tryz.zeroValue266
  t46 := Tryz.underlying275
  a46 := Tryz.isAgg275
  z46 := Tryz.sizeOf275
  v46 := Tryz.zeroValue275
  t53 := Tryz.underlying424
  a53 := Tryz.isAgg424
  z53 := Tryz.sizeOf424
  v53 := Tryz.zeroValue424
  t57 := Tryz.underlying428
  a57 := Tryz.isAgg428
  z57 := Tryz.sizeOf428
  v57 := Tryz.zeroValue428
  t63 := Tryz.underlying473
  a63 := Tryz.isAgg473
  z63 := Tryz.sizeOf473
  v63 := Tryz.zeroValue473
  t64 := Tryz.underlying474
  a64 := Tryz.isAgg474
  z64 := Tryz.sizeOf474
  v64 := Tryz.zeroValue474 }
end Go.Proofs
end

section
open Go.Proofs
namespace Go.Proofs.YtfchjhfccnodpaaGreat
open Go.RowKit Go.Maps Go.Sort Go.Shelf Go.ChangeMaps Go.MapKept
set_option linter.unusedSimpArgs false
set_option linter.unusedVariables false
set_option maxRecDepth 100000

theorem sorts72 (m : Nat) : AnyZ.SortsIn Tryz.prog Tryz.sorted72_ren Fence.wide m :=
  ⟨fun blk off cap ss W hH hblk hsz => callsIn_wide.2 (AnyM.slices_Sort_string Tryz.sort141 blk off cap ss W hH hblk hsz),
   fun p cap W => callsIn_wide.2 (AnyM.slices_Sort_string_none Tryz.sort141 p cap W)⟩

theorem sorted_keys {H : Type} (q b nn : Nat) (D0 : DataW H) (R : Value → Option (DataW H × List MemPlace)) (w : World) (hq : w.cell? ⟨q, 0, none⟩ = some (.map (some b))) (hqs : q < w.heap.size) (hown : w.ownsMap Tryz.prog 9 R b nn D0) (hmax : Maps.size D0 ≤ maxLen) (hbytes : Maps.size D0 * 16 ≤ 140737488355328) :
    Calls Tryz.prog 72 #[.func (.func 142) #[] #[.pointer (some ⟨q, 0, none⟩)]] w fun e w' => ∃ (v : Value) (ss : List (List UInt8)), e = .returned v ∧ ss.Perm (strKeys D0) ∧
      w'.ownsRow w.heap.size 9 1 v ss.length ((ss.mergeSort (fun x y => decide (x ≤ y))).map encStr) ∧ (v = .slice none 0 0 ↔ ss = []) ∧ Below w.heap.size w w' := by
  have hseq : SeqGives Fence.wide 2 Tryz.prog 142 #[.pointer (some ⟨q, 0, none⟩)] encStr (fun ss => ss.Perm (strKeys D0)) (Maps.size D0) w :=
    AnyZ.keys_gives (ρ := Tryz.keys73_ren) { Tryz.keys73 with } Fence.wide _ trivial rfl (by omega) q b nn D0 w hqs hq hown
  exact (callsIn_wide (n := 5)).1 (AnyZ.sorted_in Tryz.sorted72 Fence.wide 5 trivial trivial trivial trivial rfl (by omega) (sorts72 _) (enters_of Tryz.func141 (by kernel_rfl) rfl) 142 #[.pointer (some ⟨q, 0, none⟩)] trivial (enters_of Tryz.func142 (by kernel_rfl) rfl) _ _ hmax hbytes _ hseq)

def sortK (ks : List (List UInt8)) : List (List UInt8) := ks.mergeSort leB
def strV1 (k : List UInt8) : Value := .string (str k)

def SrtRes (ks : List (List UInt8)) (σ : Heap) (u : Value) (τ : Heap) : Prop :=
  (ks = [] ∧ u = .slice none 0 0 ∧ τ = σ) ∨
  (ks ≠ [] ∧ u = .slice (some ⟨σ.nxt, 0, none⟩) ks.length ks.length ∧ τ = ⟨gset σ.get σ.nxt (.cells ((sortK ks).map strV1) 1 false), σ.nxt + 1⟩)

theorem same_below {ρ : LMap} {σ : Heap} {w w' : World} (h : Rel ρ σ w) (hb : Below w.heap.size w w') : Rel ρ σ w' ∧ Frm ρ σ w ρ σ w' :=
  ⟨⟨fun l o hl => let ⟨p, hp, hr⟩ := h.dom l o hl; ⟨p, hp, hr.mono ρ.le_refl (hb.block _ (h.bnd l p hp).2)⟩, h.excl, fun l p hl => let ⟨a, b⟩ := h.bnd l p hl; ⟨a, Nat.lt_of_lt_of_le b hb.size⟩⟩,
   ⟨ρ.le_refl, hb.os, hb.tape, hb.output, hb.size, Nat.le_refl _, fun b hb' _ => hb.block b hb', fun _ _ _ x => x⟩⟩

theorem claim_new {ρ : LMap} {σ : Heap} {w w' : World} (h : Rel ρ σ w) (hb : Below w.heap.size w w') (o : AObj) (p : Pl) (hp : w.heap.size ≤ p.blk) (hp2 : p.blk < w'.heap.size) (hre : Real (ρ.set σ.nxt p) p w' o) :
    Rel (ρ.set σ.nxt p) ⟨gset σ.get σ.nxt o, σ.nxt + 1⟩ w' ∧ Frm ρ σ w (ρ.set σ.nxt p) ⟨gset σ.get σ.nxt o, σ.nxt + 1⟩ w' ∧ Fin ρ σ (ρ.set σ.nxt p) ⟨gset σ.get σ.nxt o, σ.nxt + 1⟩ := by
  have hn : ρ σ.nxt = none := by
    cases hq : ρ σ.nxt with
    | none => rfl
    | some q => exact absurd (h.bnd _ _ hq).1 (Nat.lt_irrefl _)
  have hle := LMap.le_set (l := σ.nxt) p hn
  refine ⟨⟨?_, ?_, ?_⟩, ⟨hle, hb.os, hb.tape, hb.output, hb.size, Nat.le_succ _, fun b hb' _ => hb.block b hb', ?_⟩, ⟨fun l hl => LMap.set_ne _ _ (by omega), fun l hl hg => by show gset σ.get σ.nxt o l = none; rw [gs_ne (by omega)]; exact hg⟩⟩
  · intro l x hl
    by_cases e : l = σ.nxt
    · subst e
      have hl : gset σ.get σ.nxt o σ.nxt = some x := hl
      rw [gs_same] at hl; cases hl
      exact ⟨p, LMap.set_same _ _ _, hre⟩
    · have hl : gset σ.get σ.nxt o l = some x := hl
      rw [gs_ne e] at hl
      obtain ⟨q, hq, hr⟩ := h.dom l x hl
      exact ⟨q, hle _ _ hq, hr.mono hle (hb.block _ (h.bnd _ _ hq).2)⟩
  · intro l l' x x' q q' hne h1 h2 hx hq hq'
    have h1 : gset σ.get σ.nxt o l = some x := h1
    have h2 : gset σ.get σ.nxt o l' = some x' := h2
    by_cases e : l = σ.nxt
    · subst e
      rw [LMap.set_same] at hq; cases hq
      rw [LMap.set_ne _ _ (Ne.symm hne)] at hq'
      have := (h.bnd _ _ hq').2
      omega
    · rw [LMap.set_ne _ _ e] at hq
      by_cases e' : l' = σ.nxt
      · subst e'
        rw [LMap.set_same] at hq'; cases hq'
        have := (h.bnd _ _ hq).2
        omega
      · rw [LMap.set_ne _ _ e'] at hq'
        rw [gs_ne e] at h1
        rw [gs_ne e'] at h2
        exact h.excl l l' x x' q q' hne h1 h2 hx hq hq'
  · intro l q hq
    by_cases e : l = σ.nxt
    · subst e
      rw [LMap.set_same] at hq; cases hq
      exact ⟨Nat.lt_succ_self _, hp2⟩
    · rw [LMap.set_ne _ _ e] at hq
      obtain ⟨a, b⟩ := h.bnd _ _ hq
      exact ⟨Nat.lt_succ_of_lt a, Nat.lt_of_lt_of_le b hb.size⟩
  · rintro qq b hb' ⟨l, x, r, h1, h2, h3, h4⟩
    have h1 : gset σ.get σ.nxt o l = some x := h1
    by_cases e : l = σ.nxt
    · subst e
      rw [LMap.set_same] at h3; cases h3
      omega
    · rw [LMap.set_ne _ _ e] at h3
      rw [gs_ne e] at h1
      exact ⟨l, x, r, h1, h2, h3, h4⟩

theorem sorted_acall {σ : Heap} {r m : Nat} {es : List MapEntry} {clock : Nat} {ks : List (List UInt8)} {ro : Bool} (hr : σ.get r = some (.cells [.map (some m)] 0 ro)) (hm : σ.get m = some (.map es clock)) (hks : es.map (·.key) = ks.map strV1) (hsz : ∀ k ∈ ks, k.length ≤ maxLen)
    (hst : Stamped es.toArray clock) (hlen : ks.length ≤ 2 ^ 40) : ACall E6.P 72 #[.func (.func 142) #[] #[.pointer (some ⟨r, 0, none⟩)]] σ (SrtRes ks σ) := by
  intro ρ w args' hrel hargs
  obtain ⟨pr, hpr, hr1, hszd, C, T, fz, hh, hc, _⟩ := hrel.dom r _ hr
  obtain ⟨pm, hpm, es', hh', hes⟩ := hrel.dom m _ hm
  have hoff := hszd.2 rfl
  have ha : args' = #[.func (.func 142) #[] #[.pointer (some ⟨pr.blk, 0, none⟩)]] := by
    obtain ⟨h1, h2⟩ := hargs
    apply Array.ext (by rw [← h1]; rfl)
    intro i hi1 hi2
    have hi0 : i = 0 := by simp at hi2; omega
    subst hi0
    have hv := h2 0 _ (args'[0]) rfl (Array.getElem?_eq_getElem hi1)
    generalize args'[0] = x at hv
    cases hv with
    | func s1 s2 e1 e2 =>
      rename_i a' b'
      have ea : a' = #[] := Array.eq_empty_of_size_eq_zero (by simpa using s1.symm)
      subst ea
      have eb : b' = #[.pointer (some ⟨pr.blk, 0, none⟩)] := by
        apply Array.ext (by rw [← s2]; rfl)
        intro j hj1 hj2
        have hj0 : j = 0 := by simp at hj2; omega
        subst hj0
        have hv := e2 0 _ (b'[0]) rfl (Array.getElem?_eq_getElem hj1)
        generalize b'[0] = y at hv
        cases hv with
        | ptr hl =>
          rw [hpr] at hl; cases hl
          simp [hoff]
      subst eb
      rfl
  subst ha
  have hcell : w.cell? ⟨pr.blk, 0, none⟩ = some (.map (some pm.blk)) := by
    obtain ⟨v', h1, h2⟩ := hc 0 _ rfl
    rw [hoff] at h1
    generalize v' = x at h1 h2
    cases h2 with
    | map hl =>
      rw [hpm] at hl; cases hl
      simp [World.cell?, hh, h1]
  have hkey : es'.toList.map (·.key) = ks.map strV1 := by
    rw [← hks]
    apply List.ext_getElem?
    intro i
    simp only [List.getElem?_map]
    rcases Nat.lt_or_ge i es.length with hi | hi
    · have h1 : es[i]? = some es[i] := List.getElem?_eq_getElem hi
      have h2 : es'[i]? = some (es'[i]'(by rw [← hes.1]; exact hi)) := Array.getElem?_eq_getElem _
      have h3 := hes.2 i _ _ h1 h2
      rw [Array.getElem?_toList, h1, h2]
      simp [h3.1]
    · rw [List.getElem?_eq_none hi, List.getElem?_eq_none (by rw [Array.length_toList, ← hes.1]; exact hi)]
  have hborn : es'.toList.map (·.born) = es.map (·.born) := by
    apply List.ext_getElem?
    intro i
    simp only [List.getElem?_map]
    rcases Nat.lt_or_ge i es.length with hi | hi
    · have h1 : es[i]? = some es[i] := List.getElem?_eq_getElem hi
      have h2 : es'[i]? = some (es'[i]'(by rw [← hes.1]; exact hi)) := Array.getElem?_eq_getElem _
      have h3 := hes.2 i _ _ h1 h2
      rw [Array.getElem?_toList, h1, h2]
      simp [h3.2.2.2]
    · rw [List.getElem?_eq_none hi, List.getElem?_eq_none (by rw [Array.length_toList, ← hes.1]; exact hi)]
  have hst' : Stamped es' clock := by
    obtain ⟨s1, s2, s3⟩ := hst
    refine ⟨fun x hx => ?_, by rw [hborn]; simpa using s2, by rw [hkey, ← hks]; simpa using s3⟩
    have : x.born ∈ es'.toList.map (·.born) := List.mem_map_of_mem hx
    rw [hborn] at this
    obtain ⟨y, hy, e⟩ := List.mem_map.1 this
    rw [← e]; exact s1 y (by simpa using hy)
  let R : Value → Option (DataW Unit × List MemPlace) := fun _ => some (.nil, [])
  have hel : es'.size = ks.length := by have := congrArg List.length hkey; simpa using this
  have hrd : ∀ x ∈ es'.toList, ∃ k ∈ ks, x.key = strV1 k ∧ WideElems.rd Tryz.prog 9 R x = some (.string k, .nil) := by
    intro x hx
    have : x.key ∈ es'.toList.map (·.key) := List.mem_map_of_mem hx
    rw [hkey] at this
    obtain ⟨k, hk, e⟩ := List.mem_map.1 this
    refine ⟨k, hk, e.symm, ?_⟩
    have h1 : keyOf Tryz.prog 9 x.key = some (.string k) := by
      rw [← e]
      have := WideMaps.keyOf_string_mk (P := Tryz.prog) (k := 9) Tryz.underlying9 (s := str k) (by rw [str_size]; exact hsz k hk)
      rw [str_list] at this
      exact this
    simp only [WideElems.rd, h1, Option.bind_some, R, Option.map_some]
  have hfit : WideElems.Fit Tryz.prog 9 R es' clock := ⟨by rw [hel]; unfold maxLen; omega, hst', fun x hx => let ⟨k, _, _, h⟩ := hrd x hx; ⟨_, h⟩⟩
  have hkeys : strKeys (DataW.map ((es'.toList.map (WideElems.rg Tryz.prog 9 R)).foldr DataW.insert [])) |>.Perm ks := by
    have h1 : (es'.toList.map (WideElems.rg Tryz.prog 9 R)).map (fun p => Go.strOf p.1) = ks := by
      have e1 : (es'.toList.map (WideElems.rg Tryz.prog 9 R)).map (fun p => Go.strOf p.1) = es'.toList.map fun x => match x.key with | .string s => s.data.toList | _ => [] := by
        rw [List.map_map]
        refine List.map_congr_left fun x hx => ?_
        obtain ⟨k, _, e, h⟩ := hrd x hx
        simp only [Function.comp, WideElems.rg_of h, e, strV1, Go.strOf, str_list]
      rw [e1]
      have e2 : (es'.toList.map fun x => match x.key with | .string s => s.data.toList | _ => []) = (es'.toList.map (·.key)).map fun v => match v with | .string s => s.data.toList | _ => [] := by rw [List.map_map]; rfl
      rw [e2, hkey, List.map_map]
      conv => rhs; rw [← List.map_id ks]
      refine List.map_congr_left fun k _ => ?_
      simp only [Function.comp, strV1, str_list, id]
    have := (WideShapes.sorted_perm (es'.toList.map (WideElems.rg Tryz.prog 9 R))).map (fun p => Go.strOf p.1)
    rw [h1] at this
    exact this
  have hsize : Maps.size (DataW.map ((es'.toList.map (WideElems.rg Tryz.prog 9 R)).foldr DataW.insert [])) = ks.length := by
    have := hkeys.length_eq
    simpa [Go.strKeys, Maps.size] using this
  refine (sorted_keys pr.blk pm.blk es'.size _ R w hcell (hrel.bnd _ _ hpr).2 ⟨es', clock, hh', hfit, Nat.le_refl _, rfl⟩ (by rw [hsize]; unfold maxLen; omega) (by rw [hsize]; omega)).mono ?_
  rintro e w' ⟨v, ss, rfl, hperm, hrow, hnil, hbel⟩
  have hperm := hperm.trans hkeys
  have hsort : ss.mergeSort (fun x y => decide (x ≤ y)) = sortK ks := mergeSort_of_perm hperm
  rw [hsort] at hrow
  have hslen := hperm.length_eq
  obtain ⟨hb1, hb2⟩ := same_below hrel hbel
  obtain ⟨hx, ⟨rfl, h0⟩ | ⟨gb, cap, cur, rfl, hbase, hgb, r1, r2, r3, r4⟩⟩ := hrow
  · have : ks = [] := List.eq_nil_of_length_eq_zero (by omega)
    exact ⟨.slice none 0 0, _, ρ, σ, rfl, hb1, hb2, Fin.refl _ _, .sliceNil 0 0, .inl ⟨this, rfl, rfl⟩⟩
  · have hne : ks ≠ [] := by
      rintro rfl
      have : ss = [] := List.eq_nil_of_length_eq_zero (by simpa using hslen)
      have := hnil.2 this
      cases this
    have hgl : gb < w'.heap.size := by
      rcases Nat.lt_or_ge gb w'.heap.size with h | h
      · exact h
      · rw [Array.getElem?_eq_none h] at hgb; cases hgb
    have hskl : (sortK ks).length = ks.length := List.length_mergeSort ks
    let p : Pl := ⟨gb, 0, cap - ks.length, 1, ks.length⟩
    have hcs : ∀ (i : Nat) (v : Value), ((sortK ks).map strV1)[i]? = some v → ∃ v', cur[p.off + i]? = some v' ∧ VRel (ρ.set σ.nxt p) v v' := by
      intro i v hi
      have hi2 : i < ks.length := by
        rcases Nat.lt_or_ge i ks.length with h | h
        · exact h
        · rw [List.getElem?_eq_none (by rw [List.length_map, hskl]; exact h)] at hi; cases hi
      have e1 : (cur.toList.take (ss.length * 1))[i]? = ((sortK ks).map encStr)[i]? := by rw [r4]
      rw [List.getElem?_take, if_pos (by omega), Array.getElem?_toList] at e1
      simp only [p, Nat.zero_add]
      have e2 : ((sortK ks).map encStr)[i]? = some v := by
        rw [← hi]; rfl
      exact ⟨v, e1.trans e2, by
        rw [List.getElem?_map] at hi
        obtain ⟨k, _, rfl⟩ := Option.map_eq_some_iff.1 hi
        exact .string _⟩
    obtain ⟨c1, c2, c3⟩ := claim_new hrel hbel (.cells ((sortK ks).map strV1) 1 false) p hbase hgl ⟨by simp [p, hskl], ⟨rfl, fun h => by cases h⟩, cur, 9, (0, 0), hgb, hcs, fun _ => ⟨by simp only [p]; omega, .inl rfl⟩⟩
    refine ⟨_, _, _, _, rfl, c1, c2, c3, ?_, .inr ⟨hne, rfl, rfl⟩⟩
    rw [hslen]
    have := VRel.slice (ρ := ρ.set σ.nxt p) (l := σ.nxt) (o := 0) (n := ks.length) (c := ks.length) (c' := cap) (p := p) (LMap.set_same _ _ _) (.inr ⟨by simp [p], by simp only [p]; omega⟩)
    simpa [p] using this

end Go.Proofs.YtfchjhfccnodpaaGreat
end

section
namespace Go.Proofs.YtfchjhfccnodpaaGreat
open Go.RowKit Go.Maps Go.Sort Go.Shelf Go.ChangeMaps Go.MapKept
set_option linter.unusedSimpArgs false
set_option linter.unusedVariables false
set_option maxRecDepth 100000

theorem u8_eq {a b : UInt8} (h : Nat.beq a.toNat b.toNat = true) : a = b := UInt8.toNat_inj.1 (Nat.eq_of_beq_eq_true h)

theorem leL_iff : ∀ (a b : List UInt8), leL a b = decide (a ≤ b)
  | [], b => by simp [leL]
  | a :: xs, [] => by simp [leL]
  | a :: xs, b :: ys => by
    have ih := leL_iff xs ys
    simp only [leL, ih]
    rw [Bool.eq_iff_iff]
    simp only [Bool.or_eq_true, Bool.and_eq_true, decide_eq_true_eq, List.cons_le_cons_iff]
    constructor
    · rintro (h | ⟨h1, h2⟩)
      · exact .inl (UInt8.lt_iff_toNat_lt.2 (by simpa [Nat.blt_eq] using h))
      · exact .inr ⟨u8_eq h1, h2⟩
    · rintro (h | ⟨h1, h2⟩)
      · exact .inl (by simpa [Nat.blt_eq] using UInt8.lt_iff_toNat_lt.1 h)
      · subst h1; exact .inr ⟨Nat.beq_refl _, h2⟩

theorem leB_eq (a b : List UInt8) : leB a b = leL a b := by rw [leL_iff, leB]

theorem insL_perm (x : List UInt8) : ∀ l, (insL x l).Perm (x :: l)
  | [] => List.Perm.refl _
  | y :: r => by
    simp only [insL]
    split
    · exact List.Perm.refl _
    · exact ((insL_perm x r).cons y).trans (List.Perm.swap x y r)
theorem sortL_perm : ∀ l, (sortL l).Perm l
  | [] => List.Perm.refl _
  | x :: r => (insL_perm x _).trans ((sortL_perm r).cons x)

theorem insL_sorted {x : List UInt8} : ∀ {l : List (List UInt8)}, l.Pairwise (· ≤ ·) → (insL x l).Pairwise (· ≤ ·)
  | [], _ => List.pairwise_singleton _ _
  | y :: r, h => by
    have h' := List.pairwise_cons.1 h
    simp only [insL]
    split
    · rename_i hxy
      rw [leL_iff, decide_eq_true_eq] at hxy
      refine List.pairwise_cons.2 ⟨fun z hz => ?_, h⟩
      rcases List.mem_cons.1 hz with rfl | hz
      · exact hxy
      · exact List.le_trans hxy (h'.1 z hz)
    · rename_i hxy
      rw [leL_iff, decide_eq_true_eq] at hxy
      have hyx : y ≤ x := (List.le_total x y).resolve_left hxy
      refine List.pairwise_cons.2 ⟨fun z hz => ?_, insL_sorted h'.2⟩
      rcases List.mem_cons.1 ((insL_perm x r).mem_iff.1 hz) with rfl | hz
      · exact hyx
      · exact h'.1 z hz
theorem sortL_sorted : ∀ l, (sortL l).Pairwise (· ≤ ·)
  | [] => List.Pairwise.nil
  | x :: r => insL_sorted (sortL_sorted r)

theorem sortK_eq (l : List (List UInt8)) : sortK l = sortL l := by
  have h1 : (sortK l).Pairwise (· ≤ ·) := by
    have := List.pairwise_mergeSort (le := leB) (fun a b c h1 h2 => by rw [leB_eq, leL_iff, decide_eq_true_eq] at *; exact List.le_trans h1 h2) (fun a b => by
      rw [leB_eq, leB_eq, leL_iff, leL_iff, Bool.or_eq_true, decide_eq_true_eq, decide_eq_true_eq]; exact List.le_total a b) l
    exact this.imp fun {a b} h => by rw [leB_eq, leL_iff, decide_eq_true_eq] at h; exact h
  refine List.Perm.eq_of_pairwise (le := fun a b => a ≤ b) (fun a b _ _ h1 h2 => List.le_antisymm h1 h2) h1 (sortL_sorted l) ?_
  exact (List.mergeSort_perm l leB).trans (sortL_perm l).symm

theorem keyL_some {v : Value} {k : List UInt8} (h : keyL v = some k) : v = strLq k := by
  unfold keyL at h
  split at h
  · rename_i s
    cases h
    obtain ⟨⟨l⟩⟩ := s
    rfl
  · cases h
theorem keysL_some : ∀ {es : List MapEntry} {ks : List (List UInt8)}, keysL es = some ks → es.map (·.key) = ks.map strLq
  | [], ks, h => by cases h; rfl
  | e :: r, ks, h => by
    simp only [keysL] at h
    split at h
    · rename_i k ks' h1 h2
      cases h
      simp only [List.map_cons, keyL_some h1, keysL_some h2]
    · cases h

theorem stampB_ok {clock : Nat} : ∀ {es : List MapEntry} {b : Nat}, stampB clock b es = true → (∀ e ∈ es, b ≤ e.born ∧ e.born < clock) ∧ (es.map (·.born)).Nodup
  | [], b, _ => ⟨fun e he => (by cases he), List.nodup_nil⟩
  | e :: r, b, h => by
    simp only [stampB, Bool.and_eq_true] at h
    obtain ⟨⟨h1, h2⟩, h3⟩ := h
    have h1 := Nat.le_of_ble_eq_true h1
    have h2 : e.born < clock := by simpa [Nat.blt_eq] using h2
    obtain ⟨k1, k2⟩ := stampB_ok h3
    refine ⟨fun x hx => ?_, ?_⟩
    · rcases List.mem_cons.1 hx with rfl | hx
      · exact ⟨h1, h2⟩
      · have := k1 x hx; omega
    · rw [List.map_cons, List.nodup_cons]
      refine ⟨fun hm => ?_, k2⟩
      obtain ⟨x, hx, hb⟩ := List.mem_map.1 hm
      have := k1 x hx; omega

theorem eqU_refl : ∀ k : List UInt8, eqU k k = true
  | [] => rfl
  | a :: r => by simp [eqU, eqU_refl r]
theorem memU_of : ∀ {l : List (List UInt8)} {k : List UInt8}, k ∈ l → memU k l = true
  | [], _, h => by cases h
  | x :: r, k, h => by
    simp only [memU, Bool.or_eq_true]
    rcases List.mem_cons.1 h with rfl | h
    · exact .inl (eqU_refl _)
    · exact .inr (memU_of h)
theorem nodU_ok : ∀ {l : List (List UInt8)}, nodU l = true → l.Nodup
  | [], _ => List.nodup_nil
  | x :: r, h => by
    simp only [nodU, Bool.and_eq_true, Bool.not_eq_true'] at h
    exact List.nodup_cons.2 ⟨fun hm => (by rw [memU_of hm] at h; exact nomatch h.1), nodU_ok h.2⟩

theorem strLq_inj {a b : List UInt8} (h : strLq a = strLq b) : a = b := by
  unfold strLq at h
  simp only [Value.string.injEq, ByteArray.mk.injEq, Array.mk.injEq] at h
  exact h

theorem nodup_strL : ∀ {l : List (List UInt8)}, l.Nodup → (l.map strLq).Nodup
  | [], _ => List.nodup_nil
  | x :: r, h => by
    have h' := List.nodup_cons.1 h
    refine List.nodup_cons.2 ⟨fun hm => ?_, nodup_strL h'.2⟩
    obtain ⟨y, hy, e⟩ := List.mem_map.1 hm
    exact h'.1 (strLq_inj e ▸ hy)

theorem sorted_ok : CkOk E6 (sortedK 72 142) := by
  intro f vs t n k z h
  unfold sortedK at h
  rcases brec_true h with ⟨hf, h⟩ | ⟨_, h⟩
  case inr => exact .inr h
  have hf : f = 72 := (Nat.eq_of_beq_eq_true hf).symm
  subst hf
  split at h
  case h_2 => exact .inr h
  rename_i g' r h0
  rcases brec_true h with ⟨hg, h⟩ | ⟨_, h⟩
  case inr => exact .inr h
  have hg : g' = 142 := (Nat.eq_of_beq_eq_true hg).symm
  subst hg
  split at h
  case h_2 => exact .inr h
  rename_i m ro hr
  split at h
  case h_2 => exact .inr h
  rename_i es clock hm
  split at h
  case h_2 => exact .inr h
  rename_i ks hks
  rcases brec_true h with ⟨hc, h⟩ | ⟨_, h⟩
  case inr => exact .inr h
  simp only [Bool.and_eq_true, List.all_eq_true] at hc
  obtain ⟨⟨⟨c1, c2⟩, c3⟩, c4⟩ := hc
  left
  have hk : es.map (·.key) = ks.map strV1 := (keysL_some hks).trans (by rfl)
  obtain ⟨s1, s2⟩ := stampB_ok c1
  have hst : Stamped es.toArray clock := ⟨fun e he => (s1 e (by simpa using he)).2, by simpa using s2, by
    have e1 : es.toArray.toList.map (·.key) = ks.map strLq := by rw [← keysL_some hks]
    rw [e1]
    exact nodup_strL (nodU_ok c2)⟩
  have hlen : ks.length ≤ 2 ^ 40 := Nat.le_trans (Nat.le_of_ble_eq_true c4) (by decide)
  have hsz : ∀ k ∈ ks, k.length ≤ maxLen := fun k hk => Nat.le_trans (Nat.le_of_ble_eq_true (c3 k hk)) (by decide)
  have hr' : (fHeap t n).get r = some (.cells [.map (some m)] 0 ro) := hr
  have hm' : (fHeap t n).get m = some (.map es clock) := hm
  have key := sorted_acall (σ := fHeap t n) hr' hm' hk hsz hst hlen
  cases ks with
  | nil =>
    refine ⟨_, t, n, h, ACall.mono key ?_⟩
    rintro u τ (⟨_, h1, h2⟩ | ⟨h0, _⟩)
    · exact ⟨h1, h2⟩
    · exact absurd rfl h0
  | cons x xs =>
    obtain ⟨t', h, hh⟩ := hset_true (n + 1) h
    rw [natK_eq, natK_eq] at h
    refine ⟨_, t', _, h, ACall.mono key ?_⟩
    rintro u τ (⟨h0, _⟩ | ⟨_, h1, h2⟩)
    · cases h0
    · refine ⟨h1, h2.trans ?_⟩
      show _ = fHeap t' (n + 1)
      rw [hh, sortK_eq]
      rfl

end Go.Proofs.YtfchjhfccnodpaaGreat
end

section
namespace Go.Proofs.YtfchjhfccnodpaaGreat
set_option linter.unusedSimpArgs false
set_option linter.unusedVariables false

theorem acall_closed {P : Program} {f : FuncId} {c : Value} {σ₀ : Heap} (h0 : ∀ l, σ₀.get l = none) (hc : plainV c = true) (h : ACall P f #[] σ₀ fun v _ => v = c) (σ : Heap) :
    ACall P f #[] σ fun v τ => v = c ∧ τ = σ := by
  intro ρ w args' hrel hargs
  have hrel0 : Rel (fun _ => none) σ₀ w := ⟨fun l o hl => (by rw [h0] at hl; cases hl), fun l l' o o' p p' _ hl => (by rw [h0] at hl; cases hl), fun l p hl => (by cases hl)⟩
  have ha : args' = #[] := by
    have := hargs.1
    simp at this
    exact Array.eq_empty_of_size_eq_zero this.symm
  subst ha
  have hargs0 : VsRel (fun _ => none) (#[] : Array Value) (#[] : Array Value) := ⟨rfl, fun i v v' h1 => (by simp at h1)⟩
  refine (h _ w _ hrel0 hargs0).mono ?_
  rintro e w' ⟨v, v', ρ', σ', he, hR, hF, hN, hv, rfl⟩
  have hv' := plainV_eq hc hv
  subst hv'
  have hblk : ∀ b, b < w.heap.size → w'.heap[b]? = w.heap[b]? := fun b hb => hF.blk b hb fun ⟨l, o, p, hl, _⟩ => (by rw [h0] at hl; cases hl)
  refine ⟨v', v', ρ, σ, he, ⟨fun l o hl => ?_, hrel.excl, fun l p hp => ?_⟩, ⟨ρ.le_refl, hF.os, hF.tape, hF.output, hF.size, Nat.le_refl _, fun b hb _ => hblk b hb, fun _ _ _ h => h⟩, Fin.refl _ _, plainV_rel ρ hc, rfl, rfl⟩
  · obtain ⟨p, hp, hre⟩ := hrel.dom l o hl
    exact ⟨p, hp, hre.mono ρ.le_refl (hblk _ (hrel.bnd _ _ hp).2)⟩
  · exact ⟨(hrel.bnd l p hp).1, Nat.lt_of_lt_of_le (hrel.bnd l p hp).2 hF.size⟩

end Go.Proofs.YtfchjhfccnodpaaGreat
end

section
namespace Go.Proofs.YtfchjhfccnodpaaGreat
open Go.ChangeShapes Go.WideShapes Go.ChangeAt Go.RowKit
set_option linter.unusedVariables false
set_option linter.unusedSimpArgs false
set_option maxRecDepth 100000

theorem own : ownKnob Tryz.prog.godebug = none := by kernel_rfl
theorem laidOut : laidOutB Tryz.prog = true := by kernel_rfl

def Ro (σ : Heap) : Prop := ∀ l o, σ.get l = some o → o.owned = false

theorem lift_of {f : FuncId} {args args' : Array Value} {ρ : LMap} {g : Gm} {n : Nat} {w : World} (h : C f args g n fun u _ _ => u = .bool true) (hrel : Rel ρ ⟨g, n⟩ w) (hargs : VsRel ρ args args') (hro : Ro ⟨g, n⟩) :
    Calls Tryz.prog f args' w fun e w' => e = .returned (.bool true) ∧ Below w.heap.size w w' := by
  refine (h.out ρ w args' hrel hargs).mono ?_
  rintro e w' ⟨v, v', ρ', σ', rfl, h1, h2, h3, h4, h5⟩
  have h5 : v = .bool true := h5
  subst h5
  cases h4
  exact ⟨rfl, h2.os, h2.tape, h2.output, h2.size, fun b hb => h2.blk b hb fun ⟨l, o, p, k1, k2, _⟩ => by rw [hro l o k1] at k2; cases k2⟩

structure Grow (ρ : LMap) (σ : Heap) (ρ' : LMap) (σ' : Heap) : Prop where
  le : ρ.le ρ'
  sub : ∀ l o, σ.get l = some o → σ'.get l = some o
  wf : σ.nxt ≤ σ'.nxt

theorem Grow.refl (ρ : LMap) (σ : Heap) : Grow ρ σ ρ σ := ⟨LMap.le_refl ρ, fun _ _ h => h, Nat.le_refl _⟩
theorem Grow.trans {a b c : LMap} {x y z : Heap} (h : Grow a x b y) (k : Grow b y c z) : Grow a x c z := ⟨LMap.le_trans h.le k.le, fun l o q => k.sub l o (h.sub l o q), Nat.le_trans h.wf k.wf⟩

theorem grow_one {ρ : LMap} {σ : Heap} {w : World} (h : Rel ρ σ w) (hro : Ro σ) (p : Pl) (hp : p.blk < w.heap.size) (o : Option AObj) (ho : ∀ x, o = some x → x.owned = false ∧ Real (ρ.set σ.nxt p) p w x) :
    let σ' : Heap := ⟨fun l => if l = σ.nxt then o else σ.get l, σ.nxt + 1⟩
    Rel (ρ.set σ.nxt p) σ' w ∧ Grow ρ σ (ρ.set σ.nxt p) σ' ∧ Ro σ' := by
  have hn : ρ σ.nxt = none := by
    cases hq : ρ σ.nxt with
    | none => rfl
    | some q => exact absurd (h.bnd _ _ hq).1 (Nat.lt_irrefl _)
  have hle := LMap.le_set (l := σ.nxt) p hn
  have hg : ∀ l x, (if l = σ.nxt then o else σ.get l) = some x → (l = σ.nxt ∧ o = some x) ∨ (l ≠ σ.nxt ∧ σ.get l = some x) := by
    intro l x hx
    by_cases e : l = σ.nxt
    · rw [if_pos e] at hx; exact .inl ⟨e, hx⟩
    · rw [if_neg e] at hx; exact .inr ⟨e, hx⟩
  have hro' : Ro ⟨fun l => if l = σ.nxt then o else σ.get l, σ.nxt + 1⟩ := by
    intro l x hx
    rcases hg l x hx with ⟨_, e⟩ | ⟨_, e⟩
    · exact (ho x e).1
    · exact hro l x e
  refine ⟨⟨?_, ?_, ?_⟩, ⟨hle, ?_, Nat.le_succ _⟩, hro'⟩
  · intro l x hx
    rcases hg l x hx with ⟨rfl, e⟩ | ⟨_, e⟩
    · exact ⟨p, LMap.set_same _ _ _, (ho x e).2⟩
    · obtain ⟨q, hq, hr⟩ := h.dom l x e
      exact ⟨q, hle _ _ hq, hr.mono hle rfl⟩
  · intro l l' x x' q q' _ h1 _ hx
    rw [hro' l x h1] at hx; cases hx
  · intro l q hq
    by_cases e : l = σ.nxt
    · subst e
      rw [LMap.set_same] at hq; cases hq
      exact ⟨Nat.lt_succ_self _, hp⟩
    · rw [LMap.set_ne _ _ e] at hq
      obtain ⟨a, b⟩ := h.bnd _ _ hq
      exact ⟨Nat.lt_succ_of_lt a, b⟩
  · intro l x hx
    have : l ≠ σ.nxt := Nat.ne_of_lt (h.lt hx)
    show (if l = σ.nxt then o else σ.get l) = some x
    rw [if_neg this]; exact hx

theorem rel_none (w : World) : Rel (fun _ => none) ⟨fun _ => none, 0⟩ w := ⟨fun l o h => (by cases h), fun l l' o o' p p' _ h => (by cases h), fun l p h => (by cases h)⟩
theorem ro_none : Ro ⟨fun _ => none, 0⟩ := fun l o h => (by cases h)

theorem reads_bytes {H : Type} {enc : TypeId × Value → H} {W : World} {v : Value} {d : DataW H} {ps : List MemPlace} {sp : Nat → Bool} (hv : Value.okWide Tryz.prog W .any 0 43 v) (h : DataW.Trod enc Tryz.prog W 0 sp true 43 v d ps) (hsp : ∀ b, sp b = true)
    {ρ : LMap} {σ : Heap} (hrel : Rel ρ σ W) (hro : Ro σ) : ∃ ρ' σ' u bs, Rel ρ' σ' W ∧ Grow ρ σ ρ' σ' ∧ Ro σ' ∧ VRel ρ' u v ∧ BytesAt σ'.get u bs ∧ bs.length ≤ maxLen := by
  obtain ⟨a, len, cap, rfl⟩ := okWide_slice Tryz.underlying43 hv
  have hsp' : sp = fun _ => true := funext hsp
  subst hsp'
  obtain ⟨fuel, hf⟩ := h
  rcases open_ints Tryz.underlying43 Tryz.underlying5 (by kernel_rfl) hf with ⟨hcs, _⟩ | ⟨x, l, c, zs, hcs, _, hl, hm, hz, _, hcell, hwz⟩
  · simp [Value.cells] at hcs
    obtain ⟨rfl, rfl, rfl⟩ := hcs
    exact ⟨ρ, σ, .slice none 0 0, [], hrel, Grow.refl _ _, hro, .sliceNil 0 0, SlC.nil _ _, Nat.zero_le _⟩
  · simp [Value.cells] at hcs
    obtain ⟨rfl, rfl, rfl⟩ := hcs
    have hz' : zs.length = cap := by simpa using hz
    have hok : Cell.ok Tryz.prog W .any 0 43 (.slice (some x) len cap) := by
      have := hv
      simp only [Value.okWide, Tryz.underlying43, Cell.okWide] at this
      exact this
    simp only [Cell.ok, Tryz.underlying43] at hok
    obtain ⟨_, _, _, hspot, row, cells, hshape, _⟩ := hok
    obtain ⟨b, off, spot⟩ := x
    simp only at hspot hshape
    subst hspot
    have hblk : b < W.heap.size := by
      rcases Nat.lt_or_ge b W.heap.size with h | h
      · exact h
      · simp [World.shape?, Array.getElem?_eq_none h] at hshape
    let p : Pl := ⟨b, off, 0, 1, cap⟩
    let bs : List UInt8 := (zs.take len).map fun z => UInt8.ofNat z.toNat
    have hbs : bs.length = len := by simp [bs]; omega
    by_cases h0 : len = 0
    · subst h0
      obtain ⟨r1, r2, r3⟩ := grow_one hrel hro p hblk none (fun x hx => by cases hx)
      refine ⟨_, _, .slice (some ⟨σ.nxt, 0, none⟩) 0 cap, [], r1, r2, r3, ?_, ⟨rfl, .inr (.inr ⟨σ.nxt, 0, cap, rfl, Nat.zero_le _, .inl rfl⟩)⟩, Nat.zero_le _⟩
      have := VRel.slice (ρ := ρ.set σ.nxt p) (l := σ.nxt) (o := 0) (n := 0) (c := cap) (c' := cap) (p := p) (LMap.set_same _ _ _) (.inl rfl)
      simpa [p] using this
    · have hc0 := hcell 0 (by omega)
      obtain ⟨C, T, fz, hh⟩ : ∃ C T fz, W.heap[b]? = some (.cells C T fz) := by
        simp only [Addr.add, World.cell?] at hc0
        split at hc0
        · rename_i C T fz heq; exact ⟨C, T, fz, heq⟩
        · cases hc0
      have hcc : ∀ i, i < cap → C[off + i]? = some (.int .u8 (zs.getD i 0)) := by
        intro i hi
        have := hcell i (by omega)
        have e : Addr.add ⟨b, off, none⟩ i = ⟨b, off + i, none⟩ := by
          unfold Addr.add
          split
          · rename_i h; subst h; rfl
          · rfl
        rw [e] at this
        simpa [World.cell?, hh] using this
      obtain ⟨r1, r2, r3⟩ := grow_one hrel hro p hblk (some (.cells (zs.map fun z => .int .u8 z) 1 true)) (fun x hx => by
        cases hx
        refine ⟨rfl, by simp [p, hz'], ⟨rfl, fun h => by cases h⟩, C, T, fz, hh, fun i v hi => ?_, fun h => by cases h⟩
        rw [List.getElem?_map] at hi
        obtain ⟨z, hz1, rfl⟩ := Option.map_eq_some_iff.1 hi
        have hlt : i < zs.length := by
          rcases Nat.lt_or_ge i zs.length with h | h
          · exact h
          · rw [List.getElem?_eq_none h] at hz1; cases hz1
        refine ⟨_, hcc i (by omega), ?_⟩
        rw [List.getD_eq_getElem?_getD, hz1]
        exact .int _ _)
      refine ⟨_, _, .slice (some ⟨σ.nxt, 0, none⟩) len cap, bs, r1, r2, r3, ?_, ⟨by rw [u8c_length, Nat.mul_one], .inr (.inr ⟨σ.nxt, 0, cap, by rw [hbs], by omega, .inr ⟨zs.map fun z => .int .u8 z, true, if_pos rfl, by simp; omega, ?_⟩⟩)⟩, by omega⟩
      · have := VRel.slice (ρ := ρ.set σ.nxt p) (l := σ.nxt) (o := 0) (n := len) (c := cap) (c' := cap) (p := p) (LMap.set_same _ _ _) (.inl rfl)
        simpa [p] using this
      · rw [List.drop_zero, Nat.mul_one, hbs, ← List.map_take, u8c, List.map_map]
        refine List.map_congr_left fun z hz => ?_
        have hw := hwz z (List.mem_of_mem_take hz)
        have hw' : 0 ≤ z ∧ z ≤ 255 := by
          simp only [Lit.wf, Bool.and_eq_true, decide_eq_true_eq] at hw
          have h1 : IntKind.u8.min = 0 := rfl
          have h2 : IntKind.u8.max = 255 := rfl
          omega
        have e : ((UInt8.ofNat z.toNat).toNat : Int) = z := by
          rw [UInt8.toNat_ofNat']
          omega
        simp only [Function.comp]
        rw [e]

end Go.Proofs.YtfchjhfccnodpaaGreat
end
