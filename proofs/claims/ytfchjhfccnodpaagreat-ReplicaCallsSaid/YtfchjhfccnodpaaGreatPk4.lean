/-
  WHAT STAYS, said of maps of names; slices, bytes, append, in the walk by rules. No condition. / Zero cells of types (printed by a program). No condition. / FROM THE WORLD TO AN ABSTRACT HEAP: what came in as names that are read alone; what a law answers, in the world. No condition. / FOR A PROOF OF AN '..UptoSaid': WHAT THE BOUND GIVES. Copy it as <Name>Bulk.lean (put your seat's Name for YtfchjhfccnodpaaGreat, the bound of 'uptoSmall' for 1048576), name it in GOCLAIM.json's 'order' behind <Name>Rows. By an AI agent, Sun Nov 15 2026. No person has read it. No macro, syntax, notation, axiom, sorry. / WHAT COMES IN, of whatever type of truths, numbers, texts, slices, structs: names that are read alone. No condition. / Bytes: a row cloned, a row made. No condition. / CALLS IN BYTES, without a program: what Put writes of a call that may be; two such calls that are written alike are one. No condition. / More operations: shifts, |, int64 of a byte, guards side by side, parts of slices, great structs. No condition. / package replica: a replica that has heard nothing: what it is in memory; New, by contract. No condition. / package replica, nothing heard yet: what its small functions say, by contract. No condition. / What package wire writes, by contract. No condition. / package call: what a call that lists is in bytes, by contract. No condition. / What package wire reads, by contract. No condition. / package call: a call that lists is read from its bytes, by contract. No condition. / package replica, nothing heard yet: Step, by contract. No condition. / package replica, nothing heard yet: Step while a call is out, by contract. No condition. / package replica, nothing heard yet: what it tells, by contract. No condition. / A map of ints in memory. No condition. / interrexlaw25.ReplicaCalls: the law. No condition but begun.
-/
import Derived.Test.YtfchjhfccnodpaaGreatPk3
import Derived.Test.YtfchjhfccnodpaaGreatChecked
import Derived.WalkKit
import Derived.ProofKit
import Derived.OpenShut
import Derived.ShutString
import Derived.ChangeOld
import Derived.Below
import Derived.Test.YtfchjhfccnodpaaGreatRows
import Derived.MapKept
section
namespace Go.Proofs.YtfchjhfccnodpaaGreat
set_option linter.unusedSimpArgs false
set_option linter.unusedVariables false
set_option maxRecDepth 100000

def Kp (F : Nat → AObj → Prop) (g : Gm) (n : Nat) (g' : Gm) : Prop := ∀ x o, x < n → g x = some o → ¬ F x o → g' x = some o
abbrev K0 (g : Gm) (n : Nat) (g' : Gm) : Prop := Kp (fun _ _ => False) g n g'

section
variable {F G : Nat → AObj → Prop} {g g' g'' : Gm} {n n' n'' : Nat}

theorem Kp.refl (F : Nat → AObj → Prop) (g : Gm) (n : Nat) : Kp F g n g := fun _ _ _ h _ => h
theorem Kp.new (h : Kp F g n g') {l : Nat} (hl : n ≤ l) (o : AObj) : Kp F g n (gset g' l o) :=
  fun x o' hx ho hf => by rw [gs_ne (by omega)]; exact h x o' hx ho hf
theorem Kp.set (h : Kp F g n g') {l : Nat} (hF : ∀ o, g l = some o → F l o) (o : AObj) : Kp F g n (gset g' l o) :=
  fun x o' hx ho hf => by
    by_cases e : x = l
    · subst e; exact absurd (hF _ ho) hf
    · rw [gs_ne e]; exact h x o' hx ho hf
theorem Kp.low {q : Nat} (h : Kp (fun x _ => x < q) g n g') {l : Nat} (hl : l < q) (o : AObj) : Kp (fun x _ => x < q) g n (gset g' l o) := h.set (fun _ _ => hl) o
theorem Kp.trans (h : Kp F g n g') (k : Kp G g' n' g'') (hn : n ≤ n') (hG : ∀ x o, x < n → G x o → g x = some o → F x o) : Kp F g n g'' :=
  fun x o hx ho hf => k x o (Nat.lt_of_lt_of_le hx hn) (h x o hx ho hf) fun hg => hf (hG x o hx hg ho)
theorem Kp.trans0 (h : Kp F g n g') (k : K0 g' n' g'') (hn : n ≤ n') : Kp F g n g'' := h.trans k hn fun _ _ _ h _ => h.elim
theorem Kp.mono (h : Kp F g n g') (hF : ∀ x o, x < n → g x = some o → F x o → G x o) : Kp G g n g' := fun x o hx ho hg => h x o hx ho fun hf => hg (hF x o hx ho hf)
theorem Kp.at (h : Kp F g n g') (hw : WF g n) {x : Nat} {o : AObj} (hx : g x = some o) (hf : ¬ F x o) : g' x = some o := h x o (hw x o hx) hx hf
theorem Kp.at0 (h : K0 g n g') (hw : WF g n) {x : Nat} {o : AObj} (hx : g x = some o) : g' x = some o := h x o (hw x o hx) hx id
theorem Kp.lt (h : K0 g n g') {x : Nat} {o : AObj} (hl : x < n) (hx : g x = some o) : g' x = some o := h x o hl hx id
theorem Kp.dn (h : Kp F g n g') {m : Nat} (hm : m ≤ n) : Kp F g m g' := fun x o hx ho hf => h x o (Nat.lt_of_lt_of_le hx hm) ho hf
theorem WF.up (h : WF g n) (hn : n ≤ n') : WF g n' := fun l o hl => Nat.lt_of_lt_of_le (h l o hl) hn
theorem kept1 (h : K0 g n g') {x : Nat} {o : AObj} (hl : x < n) (hx : g x = some o) : g' x = g x := (h x o hl hx id).trans hx.symm
theorem Kp.z (h : K0 g n g') : Kp F g n g' := h.mono fun _ _ _ _ h => h.elim

theorem Keeps.kp {F : Nat → Prop} {σ τ : Heap} (h : Keeps F σ τ) : Kp (fun x o => F x ∧ stable o = false) σ.get σ.nxt τ.get :=
  fun x o hx ho hf => h.2 x o hx ho fun hF => by
    cases hs : stable o with
    | true => rfl
    | false => exact absurd ⟨hF, hs⟩ hf
theorem Keeps.k0 {σ τ : Heap} (h : Keep0 σ τ) : K0 σ.get σ.nxt τ.get := fun x o hx ho _ => h.2 x o hx ho fun k => k.elim

def Off (F : Nat → AObj → Prop) (g : Gm) (v : Value) : Prop := ∀ l o, vname v = some l → g l = some o → ¬ F l o

theorem Off.z (g : Gm) (v : Value) : Off (fun _ _ => False) g v := fun _ _ _ _ h => h

theorem SlC.kp {k m : Nat} {v : Value} {cs : List Value} (h : SlC g k v m cs) (hk : Kp F g n g') (hw : WF g n) (hF : Off F g v) : SlC g' k v m cs := by
  obtain ⟨h1, h2 | h2 | ⟨l, o, c, h2, h3, h4 | ⟨cl, ro, h4, h5, h6⟩⟩⟩ := h
  · exact ⟨h1, .inl h2⟩
  · exact ⟨h1, .inr (.inl h2)⟩
  · exact ⟨h1, .inr (.inr ⟨l, o, c, h2, h3, .inl h4⟩)⟩
  · exact ⟨h1, .inr (.inr ⟨l, o, c, h2, h3, .inr ⟨cl, ro, hk.at hw h4 (hF l _ (by rw [h2]; rfl) h4), h5, h6⟩⟩)⟩
theorem SlOwn.kp {k m : Nat} {v : Value} {cs : List Value} (h : SlOwn g k v m cs) (hk : Kp F g n g') (hw : WF g n) (hF : Off F g v) : SlOwn g' k v m cs := by
  obtain ⟨h1, h2 | ⟨l, o, c, cl, h2, h3, h4, h5, h6⟩⟩ := h
  · exact ⟨h1, .inl h2⟩
  · exact ⟨h1, .inr ⟨l, o, c, cl, h2, h3, hk.at hw h4 (hF l _ (by rw [h2]; rfl) h4), h5, h6⟩⟩
theorem SlC.kp0 {k m : Nat} {v : Value} {cs : List Value} (h : SlC g k v m cs) (hk : K0 g n g') (hw : WF g n) : SlC g' k v m cs := h.kp hk hw (Off.z g v)
theorem SlOwn.kp0 {k m : Nat} {v : Value} {cs : List Value} (h : SlOwn g k v m cs) (hk : K0 g n g') (hw : WF g n) : SlOwn g' k v m cs := h.kp hk hw (Off.z g v)

def NoB (F : Nat → AObj → Prop) : Prop := ∀ x cl ro, ¬ F x (.cells cl 1 ro)
theorem NoB.z : NoB (fun _ _ => False) := fun _ _ _ h => h
theorem BytesAt.kp {v : Value} {bs : List UInt8} (h : BytesAt g v bs) (hk : Kp F g n g') (hw : WF g n) (hF : NoB F) : BytesAt g' v bs := by
  obtain ⟨h1, h2 | h2 | ⟨l, o, c, h2, h3, h4 | ⟨cl, ro, h4, h5, h6⟩⟩⟩ := h
  · exact ⟨h1, .inl h2⟩
  · exact ⟨h1, .inr (.inl h2)⟩
  · exact ⟨h1, .inr (.inr ⟨l, o, c, h2, h3, .inl h4⟩)⟩
  · exact ⟨h1, .inr (.inr ⟨l, o, c, h2, h3, .inr ⟨cl, ro, hk.at hw h4 (hF l _ _), h5, h6⟩⟩)⟩
theorem BytesAt.kp0 {v : Value} {bs : List UInt8} (h : BytesAt g v bs) (hk : K0 g n g') (hw : WF g n) : BytesAt g' v bs := h.kp hk hw NoB.z
theorem BytesNew.kp {b : Nat} {v : Value} {bs : List UInt8} (h : BytesNew b g v bs) (hk : Kp F g n g') (hw : WF g n) (hF : NoB F) : BytesNew b g' v bs :=
  ⟨h.1.kp hk hw fun l o hl ho hf => by
    obtain ⟨_, ⟨rfl, _⟩ | ⟨l', o', c, cl, rfl, _, h4, _⟩⟩ := h.1
    · cases hl
    · simp only [vname, Option.some.injEq] at hl
      subst hl
      rw [h4] at ho; cases ho
      exact hF _ _ _ hf, h.2⟩
theorem BytesNew.kp0 {b : Nat} {v : Value} {bs : List UInt8} (h : BytesNew b g v bs) (hk : K0 g n g') (hw : WF g n) : BytesNew b g' v bs := h.kp hk hw NoB.z
theorem BytesNew.up {b b' : Nat} {v : Value} {bs : List UInt8} (h : BytesNew b g v bs) (hb : b' ≤ b) : BytesNew b' g v bs := ⟨h.1, fun l hl => Nat.le_trans hb (h.2 l hl)⟩


structure Gr (g g' : Gm) (nm : Nat) (v v' : Value) : Prop where
  same : ∀ l, l ≠ nm → vname v ≠ some l → g' l = g l
  name : vname v' = none ∨ vname v' = vname v ∨ vname v' = some nm

theorem s_app {N : Nat} {f : Nat → Value} {s : Sls} {nm : Nat} {k : Sls → Gm → List Nat → List Nat → Prop} {d : Tmp} {ty : TypeId} {pos : String} {af : Array Edge} {gd : Option (Nat × Bool)} {x y : Operand} {t u kk b : Nat} {p m : Nat} {v w : Value} {cs ds : List Value}
    (hT : AppT E6.P t u kk b) (hx : ov N s x = some v) (hy : ov N s y = some w) (hv : SlOwn g kk v p cs) (hs : Src g kk w m ds) (hone : plainL oneCell ds = true) (hfit : (p + m) * b ≤ 2 ^ 46)
    (h : ∀ a c g' tc wr, SlOwn g' kk (.slice a (p + m) c) (p + m) (cs ++ ds) → Gr g g' nm v (.slice a (p + m) c) → k ((d, .slice a (p + m) c) :: s) g' tc wr) : ST N f s g n nm ⟨some d, .call ⟨.builtin .append, #[x, y], #[t, u]⟩, ty, pos, af, gd⟩ k := by
  obtain ⟨pr, eff, h1, h2, h3, h4, h5⟩ := grow_app hT (σ := ⟨g, n⟩) hv hs hone hfit (nm := nm)
  obtain ⟨a, c, e, _⟩ := h4.slc.len
  rw [e] at h4 h5
  refine ⟨pr, eff, ?_, h2, h3, (d, .slice a (p + m) c) :: s, _, by rw [e]; exact Fr_put _ _ _ _ _, ?_, h _ _ _ _ _ h4 ⟨h5.same, h5.name⟩⟩
  · simp only [aop, aCall, List.toList_toArray, evList, ov_ok hx, ov_ok hy, Option.bind_some, Option.map_some, aBuiltin, h1]
  · have := h5.nxt
    generalize (Heap.app ⟨g, n⟩ nm eff) = τ at this ⊢
    cases τ
    simp only at this
    subst this
    rfl

theorem Gr.kp {nm : Nat} {v v' : Value} (h : Gr g' g'' nm v v') (hk : Kp F g n g') (hn : n ≤ nm) (hv : ∀ l, vname v = some l → n ≤ l ∨ ∀ o, g l = some o → F l o) : Kp F g n g'' :=
  fun x o hx ho hf => by
    by_cases e : vname v = some x
    · rcases hv x e with h1 | h1
      · omega
      · exact absurd (h1 o ho) hf
    · rw [h.same x (by omega) e]; exact hk x o hx ho hf
end


section
variable {N : Nat} {f : Nat → Value} {s : Sls} {g : Gm} {n nm : Nat} {k : Sls → Gm → List Nat → List Nat → Prop} {d : Tmp} {ty : TypeId} {pos : String} {af : Array Edge} {gd : Option (Nat × Bool)}

theorem s_slh {t e z l o m c j : Nat} {x hi : Operand} (ht : E6.P.underlying t = some (.slice e)) (hz : szO E6.P e = some z) (hx : ov N s x = some (.slice (some ⟨l, o, none⟩) m c)) (hj : ov N s hi = some (.int .i64 (j : Int))) (hjc : j ≤ c)
    (hk : k ((d, .slice (some ⟨l, o, none⟩) j c) :: s) g [] []) : ST N f s g n nm ⟨some d, .slice t x none (some hi) none, ty, pos, af, gd⟩ k := by
  refine st_val rfl ?_ hk
  have b1 : boundO (aeval (Fr N f s)) (some hi) m c = some j := by
    unfold boundO
    simp only [ov_ok hj, Option.bind_some]
    rw [if_pos ⟨by omega, by omega⟩, Int.toNat_natCast]
  have b2 : boundO (aeval (Fr N f s)) none 0 j = some 0 := by unfold boundO; exact if_pos (Nat.zero_le _)
  simp only [aop, aSlice, ht, hz, ov_ok hx, b1, b2, Option.bind_some, if_true, Option.map_some]
theorem s_sll {t e z l o m c j : Nat} {x lo : Operand} {cl : List Value} {ro : Bool} (ht : E6.P.underlying t = some (.slice e)) (hz : szO E6.P e = some z) (hx : ov N s x = some (.slice (some ⟨l, o, none⟩) m c)) (hj : ov N s lo = some (.int .i64 (j : Int))) (hjm : j ≤ m) (hmc : m ≤ c)
    (hg : g l = some (.cells cl z ro)) (hk : ∀ tc, k ((d, .slice (some ⟨l, o + j * z, none⟩) (m - j) (c - j)) :: s) g tc []) : ST N f s g n nm ⟨some d, .slice t x (some lo) none none, ty, pos, af, gd⟩ k := by
  have b1 : boundO (aeval (Fr N f s)) none m c = some m := by unfold boundO; exact if_pos hmc
  have b2 : boundO (aeval (Fr N f s)) (some lo) 0 m = some j := by
    unfold boundO
    simp only [ov_ok hj, Option.bind_some]
    rw [if_pos ⟨by omega, by omega⟩, Int.toNat_natCast]
  by_cases h0 : j = 0
  · subst h0
    refine st_val (v := .slice (some ⟨l, o, none⟩) m c) rfl ?_ ?_
    · simp only [aop, aSlice, ht, hz, ov_ok hx, b1, b2, Option.bind_some, if_true, Option.map_some]
    · simpa using hk []
  · refine ⟨⟨[l], fun _ objs => match objs with
              | [.cells _ sz _] => if sz = z then some ⟨.slice (some ⟨l, o + j * z, none⟩) (m - j) (c - j), none, none⟩ else none
              | _ => none⟩, ⟨.slice (some ⟨l, o + j * z, none⟩) (m - j) (c - j), none, none⟩, ?_, ?_, rfl, _, _, Fr_put _ _ _ _ _, rfl, hk _⟩
    · simp only [aop, aSlice, ht, hz, ov_ok hx, b1, b2, Option.bind_some, if_neg h0, Option.map_some]
      rfl
    · simp only [Prim.run, getAll, hg, Option.bind_some, Option.map_some, if_true]
theorem s_slhE {t e z : Nat} {x hi : Operand} (ht : E6.P.underlying t = some (.slice e)) (hz : szO E6.P e = some z) (hx : ov N s x = some (.slice (some ⟨0, 0, some 0⟩) 0 0)) (hj : ov N s hi = some (.int .i64 0))
    (hk : k ((d, .slice (some ⟨0, 0, some 0⟩) 0 0) :: s) g [] []) : ST N f s g n nm ⟨some d, .slice t x none (some hi) none, ty, pos, af, gd⟩ k := by
  refine st_val rfl ?_ hk
  simp [aop, aSlice, ht, hz, ov_ok hx, ov_ok hj, boundO]
theorem s_slh0 {t e z : Nat} {x hi : Operand} (ht : E6.P.underlying t = some (.slice e)) (hz : szO E6.P e = some z) (hx : ov N s x = some (.slice none 0 0)) (hj : ov N s hi = some (.int .i64 0))
    (hk : k ((d, .slice none 0 0) :: s) g [] []) : ST N f s g n nm ⟨some d, .slice t x none (some hi) none, ty, pos, af, gd⟩ k := by
  refine st_val rfl ?_ hk
  simp [aop, aSlice, ht, hz, ov_ok hx, ov_ok hj, boundO]
end


def takeF : Nat → List Value → Option (List Value)
  | 0, _ => some []
  | _ + 1, [] => none
  | n + 1, x :: r => match takeF n r with
    | some q => some (x :: q)
    | none => none
def subF : List Value → Nat → Nat → Option (List Value)
  | c, 0, z => takeF z c
  | [], _ + 1, _ => none
  | _ :: r, o + 1, z => subF r o z
theorem takeF_ok : ∀ {n : Nat} {c q : List Value}, takeF n c = some q → n ≤ c.length ∧ c.take n = q
  | 0, c, q, h => by simp [takeF] at h; subst h; simp
  | n + 1, [], q, h => by simp [takeF] at h
  | n + 1, x :: r, q, h => by
    simp only [takeF] at h
    split at h
    · rename_i q' hq
      cases h
      obtain ⟨h1, h2⟩ := takeF_ok hq
      exact ⟨by simp; omega, by simp [h2]⟩
    · cases h
theorem subF_ok : ∀ {c : List Value} {o z : Nat} {q : List Value}, subF c o z = some q → o + z ≤ c.length ∧ (c.drop o).take z = q
  | c, 0, z, q, h => by
    have h : takeF z c = some q := by cases c <;> exact h
    obtain ⟨h1, h2⟩ := takeF_ok h
    exact ⟨by omega, by simpa using h2⟩
  | [], o + 1, z, q, h => by simp [subF] at h
  | x :: r, o + 1, z, q, h => by
    simp only [subF] at h
    obtain ⟨h1, h2⟩ := subF_ok h
    exact ⟨by simp; omega, by simpa using h2⟩

section
variable {N : Nat} {f : Nat → Value} {s : Sls} {g : Gm} {n nm : Nat} {k : Sls → Gm → List Nat → List Nat → Prop} {d : Tmp} {ty : TypeId} {pos : String} {af : Array Edge} {gd : Option (Nat × Bool)}

theorem s_ldf {t : TypeId} {x : Operand} {l o z : Nat} {c c' : List Value} {sz : Nat} {ro : Bool} (hx : ov N s x = some (.pointer (some ⟨l, o, none⟩))) (hg : g l = some (.cells c sz ro)) (ha : aggO E6.P t = some true) (hz : szO E6.P t = some z)
    (hv : subF c o z = some c') (hk : k ((d, .agg c'.toArray) :: s) g [l] []) : ST N f s g n nm ⟨some d, .load t x, ty, pos, af, gd⟩ k := by
  obtain ⟨h1, h2⟩ := subF_ok hv
  exact s_lda hx hg ha hz h1 h2 hk

theorem sLf {t : TypeId} {x : Operand} {l o z : Nat} {c c' : List Value} {sz : Nat} {ro : Bool} (hx : ov N s x = some (.pointer (some ⟨l, o, none⟩))) (ha : aggO E6.P t = some true) (hz : szO E6.P t = some z) (hk : k ((d, .agg c'.toArray) :: s) g [l] [])
    (hg : g l = some (.cells c sz ro) := by repeat first | exact gS | assumption | refine gN (by omega) ?_) (hv : subF c o z = some c' := by exact rfl) : ST N f s g n nm ⟨some d, .load t x, ty, pos, af, gd⟩ k := s_ldf hx hg ha hz hv hk

theorem s_b2s {t u e : TypeId} {x : Operand} {v : Value} {bs : List UInt8} (ht : E6.P.underlying t = some (.slice e)) (hu : E6.P.underlying u = some .string) (he : E6.P.underlying e = some (.int .u8)) (hx : ov N s x = some v) (hb : BytesAt g v bs)
    (hk : ∀ tc, k ((d, .string (str bs)) :: s) g tc []) : ST N f s g n nm ⟨some d, .convert t u x, ty, pos, af, gd⟩ k := by
  obtain ⟨h1, ⟨rfl, h2⟩ | ⟨rfl, h2⟩ | ⟨l, o, c, rfl, h3, h4⟩⟩ := hb
  · have : bs = [] := List.eq_nil_of_length_eq_zero h2
    subst this
    exact st_val (v := .string .empty) rfl (by simp only [aop, aConvert, ov_ok hx, Option.bind_some, ht, hu, he, Option.map_some]) (hk [])
  · have : bs = [] := List.eq_nil_of_length_eq_zero h2
    subst this
    exact st_val (v := .string .empty) rfl (by simp only [aop, aConvert, ov_ok hx, Option.bind_some, ht, hu, he, Option.map_some]) (hk [])
  · by_cases h0 : bs.length = 0
    · have : bs = [] := List.eq_nil_of_length_eq_zero h0
      subst this
      exact st_val (v := .string .empty) rfl (by simp only [aop, aConvert, ov_ok hx, Option.bind_some, ht, hu, he, List.length_nil, if_true, Option.map_some]) (hk [])
    · obtain ⟨cl, ro, h5, h6, h7⟩ := h4.resolve_left h0
      refine ⟨⟨[l], fun _ objs => match objs with
          | [.cells c _ _] => if o + bs.length ≤ c.length then
              (bytesOf ((c.drop o).take bs.length) ByteArray.empty).map fun s => ⟨.string s, none, none⟩ else none
          | _ => none⟩, ⟨.string (str bs), none, none⟩, ?_, ?_, rfl, _, _, Fr_put _ _ _ _ _, rfl, hk _⟩
      · simp only [aop, aConvert, ov_ok hx, Option.bind_some, ht, hu, he, if_neg h0, Option.map_some]
        rfl
      · simp only [Prim.run, getAll, h5, Option.bind_some, Option.map_some]
        rw [Nat.mul_one] at h6 h7
        rw [if_pos h6, h7, bytesOf_u8c]
        simp
theorem s_s2b {t u e : TypeId} {x : Operand} {b : ByteArray} (ht : E6.P.underlying t = some .string) (hu : E6.P.underlying u = some (.slice e)) (he : E6.P.underlying e = some (.int .u8)) (hx : ov N s x = some (.string b))
    (hk : ∀ tc wr, k ((d, .slice (some ⟨nm, 0, none⟩) b.size b.size) :: s) (gset g nm (.cells (u8c b.data.toList) 1 false)) tc wr) : ST N f s g n nm ⟨some d, .convert t u x, ty, pos, af, gd⟩ k :=
  ⟨Prim.newSlice (u8c b.data.toList) 1 b.size, ⟨.slice (some ⟨nm, 0, none⟩) b.size b.size, none, some (.cells (u8c b.data.toList) 1 false)⟩, by simp only [aop, aConvert, ov_ok hx, Option.bind_some, ht, hu, he, Option.map_some]; rfl, rfl, rfl, _, _, Fr_put _ _ _ _ _, rfl, hk _ _⟩
end

section
variable {X : Cx} {k : List Fm} {f : Nat → Value} {s : Sls} {g : Gm} {m j m₀ j₀ i : Nat} {ops : Array Oper} {ty : TypeId} {pos : String} {af : Array Edge} {gd : Option (Nat × Bool)} {lo : List Nat} {L : List (Nat × List Nat)} {D : List Rec}

theorem str_eq {a b : List UInt8} : ((str a).toList == (str b).toList) = decide (a = b) := by
  have e : ∀ l : List UInt8, (str l).toList = l := fun l => by
    rw [ByteArray.toList_eq] <;> simp [str]
  rw [e, e]
  by_cases h : a = b <;> simp [h]
end

end Go.Proofs.YtfchjhfccnodpaaGreat
end

section
namespace Go.Proofs.YtfchjhfccnodpaaGreat
set_option linter.unusedSimpArgs false
set_option linter.unusedVariables false

theorem zl_1 : zeroL E6.P 1 = some [.nilFunc] := by unfold zeroL; rw [zp_1]; rfl
theorem zl_2 : zeroL E6.P 2 = some [.int .i64 0] := by unfold zeroL; rw [zp_2]; rfl
theorem zl_3 : zeroL E6.P 3 = some [.int .i64 0] := by unfold zeroL; rw [zp_3]; rfl
theorem zl_4 : zeroL E6.P 4 = some [.bool false] := by unfold zeroL; rw [zp_4]; rfl
theorem zl_5 : zeroL E6.P 5 = some [.int .u8 0] := by unfold zeroL; rw [zp_5]; rfl
theorem zl_9 : zeroL E6.P 9 = some [.string .empty] := by unfold zeroL; rw [zp_9]; rfl
theorem zl_21 : zeroL E6.P 21 = some [.int .i32 0] := by unfold zeroL; rw [zp_21]; rfl
theorem zl_24 : zeroL E6.P 24 = some [.pointer none] := by unfold zeroL; rw [zp_24]; rfl
theorem zl_26 : zeroL E6.P 26 = some [.slice none 0 0] := by unfold zeroL; rw [zp_26]; rfl
theorem zl_27 : zeroL E6.P 27 = some [.slice none 0 0] := by unfold zeroL; rw [zp_27]; rfl
theorem zl_29 : zeroL E6.P 29 = some [.slice none 0 0, .slice none 0 0] := by unfold zeroL; rw [zp_29]; rfl
theorem zl_30 : zeroL E6.P 30 = some [.map none] := by unfold zeroL; rw [zp_30]; rfl
theorem zl_31 : zeroL E6.P 31 = some [.slice none 0 0] := by unfold zeroL; rw [zp_31]; rfl
theorem zl_33 : zeroL E6.P 33 = some [.int .i64 0, .int .i64 0, .int .i64 0] := by unfold zeroL; rw [zp_33]; rfl
theorem zl_34 : zeroL E6.P 34 = some [.slice none 0 0] := by unfold zeroL; rw [zp_34]; rfl
theorem zl_35 : zeroL E6.P 35 = some [.slice none 0 0] := by unfold zeroL; rw [zp_35]; rfl
theorem zl_36 : zeroL E6.P 36 = some [.slice none 0 0] := by unfold zeroL; rw [zp_36]; rfl
theorem zl_37 : zeroL E6.P 37 = some [.slice none 0 0] := by unfold zeroL; rw [zp_37]; rfl
theorem zl_39 : zeroL E6.P 39 = some [.string .empty, .int .i64 0, .int .i64 0, .int .i64 0, .int .i64 0, .int .i64 0, .slice none 0 0, .slice none 0 0, .slice none 0 0, .slice none 0 0, .string .empty, .slice none 0 0, .int .i64 0, .slice none 0 0, .string .empty, .int .i64 0] := by unfold zeroL; rw [zp_39]; rfl
theorem zl_40 : zeroL E6.P 40 = some [.slice none 0 0] := by unfold zeroL; rw [zp_40]; rfl
theorem zl_42 : zeroL E6.P 42 = some [.string .empty, .int .i64 0, .int .i64 0, .int .i64 0, .slice none 0 0, .slice none 0 0] := by unfold zeroL; rw [zp_42]; rfl
theorem zl_43 : zeroL E6.P 43 = some [.slice none 0 0] := by unfold zeroL; rw [zp_43]; rfl
theorem zl_45 : zeroL E6.P 45 = some [.int .i64 0, .int .i64 0, .slice none 0 0, .string .empty, .int .i64 0, .int .i64 0, .int .i64 0, .int .i64 0, .int .i64 0, .slice none 0 0, .slice none 0 0, .slice none 0 0, .slice none 0 0, .string .empty, .slice none 0 0, .int .i64 0, .slice none 0 0, .string .empty, .int .i64 0, .string .empty, .int .i64 0, .int .i64 0, .int .i64 0, .slice none 0 0, .slice none 0 0, .string .empty, .int .i64 0, .bool false, .slice none 0 0] := by unfold zeroL; rw [zp_45]; rfl
theorem zl_51 : zeroL E6.P 51 = some [.slice none 0 0] := by unfold zeroL; rw [zp_51]; rfl
theorem zl_57 : zeroL E6.P 57 = some [.pointer none] := by unfold zeroL; rw [zp_57]; rfl
theorem zl_63 : zeroL E6.P 63 = some [.slice none 0 0] := by unfold zeroL; rw [zp_63]; rfl
theorem zl_67 : zeroL E6.P 67 = some [.pointer none] := by unfold zeroL; rw [zp_67]; rfl
theorem zl_69 : zeroL E6.P 69 = some [.slice none 0 0] := by unfold zeroL; rw [zp_69]; rfl
theorem zl_71 : zeroL E6.P 71 = some [.slice none 0 0] := by unfold zeroL; rw [zp_71]; rfl
theorem zl_72 : zeroL E6.P 72 = some [.slice none 0 0] := by unfold zeroL; rw [zp_72]; rfl
theorem zl_74 : zeroL E6.P 74 = some [.slice none 0 0, .slice none 0 0] := by unfold zeroL; rw [zp_74]; rfl
theorem zl_76 : zeroL E6.P 76 = some [.int .i64 0, .int .i64 0, .int .i64 0, .string .empty, .int .i64 0, .slice none 0 0, .slice none 0 0] := by unfold zeroL; rw [zp_76]; rfl
theorem zl_81 : zeroL E6.P 81 = some [.pointer none] := by unfold zeroL; rw [zp_81]; rfl
theorem zl_83 : zeroL E6.P 83 = some [.slice none 0 0] := by unfold zeroL; rw [zp_83]; rfl
theorem zl_87 : zeroL E6.P 87 = some [.pointer none] := by unfold zeroL; rw [zp_87]; rfl
theorem zl_89 : zeroL E6.P 89 = some [.slice none 0 0] := by unfold zeroL; rw [zp_89]; rfl
theorem zl_91 : zeroL E6.P 91 = some [.slice none 0 0] := by unfold zeroL; rw [zp_91]; rfl
theorem zl_100 : zeroL E6.P 100 = some [.pointer none] := by unfold zeroL; rw [zp_100]; rfl
theorem zl_103 : zeroL E6.P 103 = some [.map none] := by unfold zeroL; rw [zp_103]; rfl
theorem zl_104 : zeroL E6.P 104 = some [.map none] := by unfold zeroL; rw [zp_104]; rfl
theorem zl_105 : zeroL E6.P 105 = some [.slice none 0 0] := by unfold zeroL; rw [zp_105]; rfl
theorem zl_107 : zeroL E6.P 107 = some [.bool false, .slice none 0 0, .pointer none, .pointer none, .pointer none, .slice none 0 0, .map none, .map none, .map none] := by unfold zeroL; rw [zp_107]; rfl
theorem zl_109 : zeroL E6.P 109 = some [.pointer none, .bool false, .int .i64 0] := by unfold zeroL; rw [zp_109]; rfl
theorem zl_116 : zeroL E6.P 116 = some [.map none] := by unfold zeroL; rw [zp_116]; rfl
theorem zl_117 : zeroL E6.P 117 = some [.map none] := by unfold zeroL; rw [zp_117]; rfl
theorem zl_118 : zeroL E6.P 118 = some [.pointer none] := by unfold zeroL; rw [zp_118]; rfl
theorem zl_120 : zeroL E6.P 120 = some [] := by unfold zeroL; rw [zp_120]; rfl
theorem zl_121 : zeroL E6.P 121 = some [] := by unfold zeroL; rw [zp_121]; rfl
theorem zl_123 : zeroL E6.P 123 = some [.int .i64 0] := by unfold zeroL; rw [zp_123]; rfl
theorem zl_125 : zeroL E6.P 125 = some [.int .i64 0, .map none, .map none, .pointer none, .int .i64 0, .int .i64 0] := by unfold zeroL; rw [zp_125]; rfl
theorem zl_130 : zeroL E6.P 130 = some [.string .empty, .int .i64 0, .slice none 0 0] := by unfold zeroL; rw [zp_130]; rfl
theorem zl_143 : zeroL E6.P 143 = some [.nilFunc] := by unfold zeroL; rw [zp_143]; rfl
theorem zl_148 : zeroL E6.P 148 = some [.pointer none] := by unfold zeroL; rw [zp_148]; rfl
theorem zl_150 : zeroL E6.P 150 = some [.pointer none] := by unfold zeroL; rw [zp_150]; rfl
theorem zl_152 : zeroL E6.P 152 = some [.pointer none] := by unfold zeroL; rw [zp_152]; rfl
theorem zl_154 : zeroL E6.P 154 = some [.pointer none] := by unfold zeroL; rw [zp_154]; rfl
theorem zl_156 : zeroL E6.P 156 = some [.slice none 0 0] := by unfold zeroL; rw [zp_156]; rfl
theorem zl_158 : zeroL E6.P 158 = some [.int .i64 0, .bool false, .int .i64 0, .pointer none, .pointer none, .pointer none, .pointer none, .slice none 0 0, .int .i64 0, .int .i64 0, .int .i64 0, .int .i64 0, .int .i64 0, .int .i64 0, .int .i64 0, .string .empty, .bool false, .int .i64 0] := by unfold zeroL; rw [zp_158]; rfl
theorem zl_168 : zeroL E6.P 168 = some [.pointer none] := by unfold zeroL; rw [zp_168]; rfl
theorem zl_172 : zeroL E6.P 172 = some [.string .empty, .int .i64 0, .bool false] := by unfold zeroL; rw [zp_172]; rfl
theorem zl_174 : zeroL E6.P 174 = some [.string .empty, .slice none 0 0, .bool false] := by unfold zeroL; rw [zp_174]; rfl
theorem zl_177 : zeroL E6.P 177 = some [.map none, .int .i64 0] := by unfold zeroL; rw [zp_177]; rfl
theorem zl_179 : zeroL E6.P 179 = some [.int .i64 0, .int .i64 0, .slice none 0 0, .slice none 0 0] := by unfold zeroL; rw [zp_179]; rfl
theorem zl_182 : zeroL E6.P 182 = some [.slice none 0 0] := by unfold zeroL; rw [zp_182]; rfl
theorem zl_198 : zeroL E6.P 198 = some [.string .empty, .string .empty, .slice none 0 0] := by unfold zeroL; rw [zp_198]; rfl
theorem zl_202 : zeroL E6.P 202 = some [.int .i64 0, .int .i64 0, .int .i64 0, .int .i64 0, .int .i64 0, .int .i64 0, .int .i64 0, .int .i64 0] := by unfold zeroL; rw [zp_202]; rfl
theorem zl_208 : zeroL E6.P 208 = some [.slice none 0 0, .int .i64 0] := by unfold zeroL; rw [zp_208]; rfl
theorem zl_210 : zeroL E6.P 210 = some [.string .empty, .string .empty] := by unfold zeroL; rw [zp_210]; rfl
theorem zl_212 : zeroL E6.P 212 = some [.string .empty, .int .i64 0, .slice none 0 0] := by unfold zeroL; rw [zp_212]; rfl
theorem zl_214 : zeroL E6.P 214 = some [.string .empty, .string .empty, .bool false] := by unfold zeroL; rw [zp_214]; rfl
theorem zl_215 : zeroL E6.P 215 = some [.string .empty, .string .empty] := by unfold zeroL; rw [zp_215]; rfl
theorem zl_218 : zeroL E6.P 218 = some [.bool false, .int .i64 0, .slice none 0 0] := by unfold zeroL; rw [zp_218]; rfl
theorem zl_228 : zeroL E6.P 228 = some [.nilFunc] := by unfold zeroL; rw [zp_228]; rfl
theorem zl_231 : zeroL E6.P 231 = some [.nilFunc] := by unfold zeroL; rw [zp_231]; rfl
theorem zl_243 : zeroL E6.P 243 = some [.int .i64 0, .int .i64 0, .pointer none, .bool false, .int .i64 0, .int .i64 0, .int .i64 0, .string .empty, .int .i64 0, .slice none 0 0, .slice none 0 0, .int .i64 0, .int .i64 0] := by unfold zeroL; rw [zp_243]; rfl
theorem zl_245 : zeroL E6.P 245 = some [.int .i64 0, .int .i64 0] := by unfold zeroL; rw [zp_245]; rfl
theorem zl_247 : zeroL E6.P 247 = some [.int .i64 0, .bool false, .bool false, .int .i64 0, .int .i64 0, .int .i64 0, .int .i64 0, .bool false, .int .i64 0, .int .i64 0, .int .i64 0] := by unfold zeroL; rw [zp_247]; rfl
theorem zl_248 : zeroL E6.P 248 = some [.slice none 0 0] := by unfold zeroL; rw [zp_248]; rfl
theorem zl_250 : zeroL E6.P 250 = some [.slice none 0 0, .slice none 0 0, .slice none 0 0, .bool false] := by unfold zeroL; rw [zp_250]; rfl
theorem zl_251 : zeroL E6.P 251 = some [.slice none 0 0] := by unfold zeroL; rw [zp_251]; rfl
theorem zl_253 : zeroL E6.P 253 = some [.slice none 0 0] := by unfold zeroL; rw [zp_253]; rfl
theorem zl_256 : zeroL E6.P 256 = some [.string .empty, .string .empty, .slice none 0 0, .int .i64 0, .int .i64 0, .int .i64 0] := by unfold zeroL; rw [zp_256]; rfl
theorem zl_258 : zeroL E6.P 258 = some [.nilFunc] := by unfold zeroL; rw [zp_258]; rfl
theorem zl_265 : zeroL E6.P 265 = some [] := by unfold zeroL; rw [zp_265]; rfl
theorem zl_266 : zeroL E6.P 266 = some [.int .u32 0] := by unfold zeroL; rw [zp_266]; rfl
theorem zl_268 : zeroL E6.P 268 = some [.int .u32 0] := by unfold zeroL; rw [zp_268]; rfl
theorem zl_270 : zeroL E6.P 270 = some [.int .i32 0, .int .u32 0] := by unfold zeroL; rw [zp_270]; rfl
theorem zl_272 : zeroL E6.P 272 = some [.int .i32 0, .int .u32 0] := by unfold zeroL; rw [zp_272]; rfl
theorem zl_274 : zeroL E6.P 274 = some [.int .u32 0, .int .i32 0, .int .u32 0] := by unfold zeroL; rw [zp_274]; rfl
theorem zl_275 : zeroL E6.P 275 = some [.int .u64 0] := by unfold zeroL; rw [zp_275]; rfl
theorem zl_277 : zeroL E6.P 277 = some [.int .u8 0, .int .u8 0, .int .u8 0, .int .u8 0, .int .u8 0, .int .u8 0, .int .u8 0, .int .u8 0, .int .u8 0, .int .u8 0, .int .u8 0, .int .u8 0, .int .u8 0, .int .u8 0, .int .u8 0, .int .u8 0, .int .u8 0, .int .u8 0, .int .u8 0, .int .u8 0, .int .u8 0, .int .u8 0, .int .u8 0, .int .u8 0, .int .u8 0, .int .u8 0, .int .u8 0, .int .u8 0, .int .u8 0, .int .u8 0, .int .u8 0, .int .u8 0, .int .u8 0, .int .u8 0, .int .u8 0, .int .u8 0, .int .u8 0, .int .u8 0] := by unfold zeroL; rw [zp_277]; rfl
theorem zl_292 : zeroL E6.P 292 = some [.string .empty, .string .empty, .slice none 0 0, .int .i64 0, .int .i64 0, .int .i64 0] := by unfold zeroL; rw [zp_292]; rfl
theorem zl_302 : zeroL E6.P 302 = some [.int .i64 0, .string .empty, .slice none 0 0, .bool false] := by unfold zeroL; rw [zp_302]; rfl
theorem zl_333 : zeroL E6.P 333 = some [.slice none 0 0, .int .i64 0, .int .i64 0, .int .i64 0] := by unfold zeroL; rw [zp_333]; rfl
theorem zl_341 : zeroL E6.P 341 = some [.pointer none] := by unfold zeroL; rw [zp_341]; rfl
theorem zl_343 : zeroL E6.P 343 = some [.nilFunc] := by unfold zeroL; rw [zp_343]; rfl
theorem zl_346 : zeroL E6.P 346 = some [.nilFunc] := by unfold zeroL; rw [zp_346]; rfl
theorem zl_348 : zeroL E6.P 348 = some [.nilFunc] := by unfold zeroL; rw [zp_348]; rfl
theorem zl_375 : zeroL E6.P 375 = some [.pointer none] := by unfold zeroL; rw [zp_375]; rfl
theorem zl_377 : zeroL E6.P 377 = some [.string .empty, .int .i64 0, .int .i64 0, .int .i64 0, .int .i64 0, .int .i64 0, .slice none 0 0, .slice none 0 0, .slice none 0 0, .slice none 0 0, .string .empty, .slice none 0 0, .int .i64 0, .slice none 0 0, .string .empty, .int .i64 0, .bool false, .int .i64 0, .int .i64 0] := by unfold zeroL; rw [zp_377]; rfl
theorem zl_421 : zeroL E6.P 421 = some [.pointer none] := by unfold zeroL; rw [zp_421]; rfl
theorem zl_440 : zeroL E6.P 440 = some [.nilFunc] := by unfold zeroL; rw [zp_440]; rfl
theorem zl_472 : zeroL E6.P 472 = some [.pointer none] := by unfold zeroL; rw [zp_472]; rfl
theorem zl_491 : zeroL E6.P 491 = some [.map none] := by unfold zeroL; rw [zp_491]; rfl
theorem zl_494 : zeroL E6.P 494 = some [.pointer none] := by unfold zeroL; rw [zp_494]; rfl
theorem zl_508 : zeroL E6.P 508 = some [.pointer none] := by unfold zeroL; rw [zp_508]; rfl
theorem zl_510 : zeroL E6.P 510 = some [.pointer none] := by unfold zeroL; rw [zp_510]; rfl
theorem zl_512 : zeroL E6.P 512 = some [.pointer none] := by unfold zeroL; rw [zp_512]; rfl

end Go.Proofs.YtfchjhfccnodpaaGreat
end

section
namespace Go.Proofs.YtfchjhfccnodpaaGreat
open Go.ChangeShapes Go.WideShapes Go.ChangeAt Go.RowKit
set_option linter.unusedVariables false
set_option linter.unusedSimpArgs false
set_option maxRecDepth 100000

theorem own : ownKnob Tryz.prog.godebug = none := by kernel_rfl
theorem laidOut : laidOutB Tryz.prog = true := by kernel_rfl

def Ro (σ : Heap) : Prop := ∀ l o, σ.get l = some o → o.owned = false

theorem lift_of {f : FuncId} {args args' : Array Value} {ρ : LMap} {g : Gm} {n : Nat} {w : World} (h : C f args g n fun u _ _ => u = .bool true) (hrel : Rel ρ ⟨g, n⟩ w) (hargs : VsRel ρ args args') (hro : Ro ⟨g, n⟩) :
    Calls Tryz.prog f args' w fun e w' => e = .returned (.bool true) ∧ Below w.heap.size w w' := by
  refine (h.out ρ w args' hrel hargs).mono ?_
  rintro e w' ⟨v, v', ρ', σ', rfl, h1, h2, h3, h4, h5⟩
  have h5 : v = .bool true := h5
  subst h5
  cases h4
  exact ⟨rfl, h2.os, h2.tape, h2.output, h2.size, fun b hb => h2.blk b hb fun ⟨l, o, p, k1, k2, _⟩ => by rw [hro l o k1] at k2; cases k2⟩

structure Grow (ρ : LMap) (σ : Heap) (ρ' : LMap) (σ' : Heap) : Prop where
  le : ρ.le ρ'
  sub : ∀ l o, σ.get l = some o → σ'.get l = some o
  wf : σ.nxt ≤ σ'.nxt

theorem Grow.refl (ρ : LMap) (σ : Heap) : Grow ρ σ ρ σ := ⟨LMap.le_refl ρ, fun _ _ h => h, Nat.le_refl _⟩
theorem Grow.trans {a b c : LMap} {x y z : Heap} (h : Grow a x b y) (k : Grow b y c z) : Grow a x c z := ⟨LMap.le_trans h.le k.le, fun l o q => k.sub l o (h.sub l o q), Nat.le_trans h.wf k.wf⟩

theorem grow_one {ρ : LMap} {σ : Heap} {w : World} (h : Rel ρ σ w) (hro : Ro σ) (p : Pl) (hp : p.blk < w.heap.size) (o : Option AObj) (ho : ∀ x, o = some x → x.owned = false ∧ Real (ρ.set σ.nxt p) p w x) :
    let σ' : Heap := ⟨fun l => if l = σ.nxt then o else σ.get l, σ.nxt + 1⟩
    Rel (ρ.set σ.nxt p) σ' w ∧ Grow ρ σ (ρ.set σ.nxt p) σ' ∧ Ro σ' := by
  have hn : ρ σ.nxt = none := by
    cases hq : ρ σ.nxt with
    | none => rfl
    | some q => exact absurd (h.bnd _ _ hq).1 (Nat.lt_irrefl _)
  have hle := LMap.le_set (l := σ.nxt) p hn
  have hg : ∀ l x, (if l = σ.nxt then o else σ.get l) = some x → (l = σ.nxt ∧ o = some x) ∨ (l ≠ σ.nxt ∧ σ.get l = some x) := by
    intro l x hx
    by_cases e : l = σ.nxt
    · rw [if_pos e] at hx; exact .inl ⟨e, hx⟩
    · rw [if_neg e] at hx; exact .inr ⟨e, hx⟩
  have hro' : Ro ⟨fun l => if l = σ.nxt then o else σ.get l, σ.nxt + 1⟩ := by
    intro l x hx
    rcases hg l x hx with ⟨_, e⟩ | ⟨_, e⟩
    · exact (ho x e).1
    · exact hro l x e
  refine ⟨⟨?_, ?_, ?_⟩, ⟨hle, ?_, Nat.le_succ _⟩, hro'⟩
  · intro l x hx
    rcases hg l x hx with ⟨rfl, e⟩ | ⟨_, e⟩
    · exact ⟨p, LMap.set_same _ _ _, (ho x e).2⟩
    · obtain ⟨q, hq, hr⟩ := h.dom l x e
      exact ⟨q, hle _ _ hq, hr.mono hle rfl⟩
  · intro l l' x x' q q' _ h1 _ hx
    rw [hro' l x h1] at hx; cases hx
  · intro l q hq
    by_cases e : l = σ.nxt
    · subst e
      rw [LMap.set_same] at hq; cases hq
      exact ⟨Nat.lt_succ_self _, hp⟩
    · rw [LMap.set_ne _ _ e] at hq
      obtain ⟨a, b⟩ := h.bnd _ _ hq
      exact ⟨Nat.lt_succ_of_lt a, b⟩
  · intro l x hx
    have : l ≠ σ.nxt := Nat.ne_of_lt (h.lt hx)
    show (if l = σ.nxt then o else σ.get l) = some x
    rw [if_neg this]; exact hx

theorem rel_none (w : World) : Rel (fun _ => none) ⟨fun _ => none, 0⟩ w := ⟨fun l o h => (by cases h), fun l l' o o' p p' _ h => (by cases h), fun l p h => (by cases h)⟩
theorem ro_none : Ro ⟨fun _ => none, 0⟩ := fun l o h => (by cases h)

theorem reads_bytes {H : Type} {enc : TypeId × Value → H} {W : World} {v : Value} {d : DataW H} {ps : List MemPlace} {sp : Nat → Bool} (hv : Value.okWide Tryz.prog W .any 0 43 v) (h : DataW.Trod enc Tryz.prog W 0 sp true 43 v d ps) (hsp : ∀ b, sp b = true)
    {ρ : LMap} {σ : Heap} (hrel : Rel ρ σ W) (hro : Ro σ) : ∃ ρ' σ' u bs, Rel ρ' σ' W ∧ Grow ρ σ ρ' σ' ∧ Ro σ' ∧ VRel ρ' u v ∧ BytesAt σ'.get u bs ∧ bs.length ≤ maxLen := by
  obtain ⟨a, len, cap, rfl⟩ := okWide_slice Tryz.underlying43 hv
  have hsp' : sp = fun _ => true := funext hsp
  subst hsp'
  obtain ⟨fuel, hf⟩ := h
  rcases open_ints Tryz.underlying43 Tryz.underlying5 (by kernel_rfl) hf with ⟨hcs, _⟩ | ⟨x, l, c, zs, hcs, _, hl, hm, hz, _, hcell, hwz⟩
  · simp [Value.cells] at hcs
    obtain ⟨rfl, rfl, rfl⟩ := hcs
    exact ⟨ρ, σ, .slice none 0 0, [], hrel, Grow.refl _ _, hro, .sliceNil 0 0, SlC.nil _ _, Nat.zero_le _⟩
  · simp [Value.cells] at hcs
    obtain ⟨rfl, rfl, rfl⟩ := hcs
    have hz' : zs.length = cap := by simpa using hz
    have hok : Cell.ok Tryz.prog W .any 0 43 (.slice (some x) len cap) := by
      have := hv
      simp only [Value.okWide, Tryz.underlying43, Cell.okWide] at this
      exact this
    simp only [Cell.ok, Tryz.underlying43] at hok
    obtain ⟨_, _, _, hspot, row, cells, hshape, _⟩ := hok
    obtain ⟨b, off, spot⟩ := x
    simp only at hspot hshape
    subst hspot
    have hblk : b < W.heap.size := by
      rcases Nat.lt_or_ge b W.heap.size with h | h
      · exact h
      · simp [World.shape?, Array.getElem?_eq_none h] at hshape
    let p : Pl := ⟨b, off, 0, 1, cap⟩
    let bs : List UInt8 := (zs.take len).map fun z => UInt8.ofNat z.toNat
    have hbs : bs.length = len := by simp [bs]; omega
    by_cases h0 : len = 0
    · subst h0
      obtain ⟨r1, r2, r3⟩ := grow_one hrel hro p hblk none (fun x hx => by cases hx)
      refine ⟨_, _, .slice (some ⟨σ.nxt, 0, none⟩) 0 cap, [], r1, r2, r3, ?_, ⟨rfl, .inr (.inr ⟨σ.nxt, 0, cap, rfl, Nat.zero_le _, .inl rfl⟩)⟩, Nat.zero_le _⟩
      have := VRel.slice (ρ := ρ.set σ.nxt p) (l := σ.nxt) (o := 0) (n := 0) (c := cap) (c' := cap) (p := p) (LMap.set_same _ _ _) (.inl rfl)
      simpa [p] using this
    · have hc0 := hcell 0 (by omega)
      obtain ⟨C, T, fz, hh⟩ : ∃ C T fz, W.heap[b]? = some (.cells C T fz) := by
        simp only [Addr.add, World.cell?] at hc0
        split at hc0
        · rename_i C T fz heq; exact ⟨C, T, fz, heq⟩
        · cases hc0
      have hcc : ∀ i, i < cap → C[off + i]? = some (.int .u8 (zs.getD i 0)) := by
        intro i hi
        have := hcell i (by omega)
        have e : Addr.add ⟨b, off, none⟩ i = ⟨b, off + i, none⟩ := by
          unfold Addr.add
          split
          · rename_i h; subst h; rfl
          · rfl
        rw [e] at this
        simpa [World.cell?, hh] using this
      obtain ⟨r1, r2, r3⟩ := grow_one hrel hro p hblk (some (.cells (zs.map fun z => .int .u8 z) 1 true)) (fun x hx => by
        cases hx
        refine ⟨rfl, by simp [p, hz'], ⟨rfl, fun h => by cases h⟩, C, T, fz, hh, fun i v hi => ?_, fun h => by cases h⟩
        rw [List.getElem?_map] at hi
        obtain ⟨z, hz1, rfl⟩ := Option.map_eq_some_iff.1 hi
        have hlt : i < zs.length := by
          rcases Nat.lt_or_ge i zs.length with h | h
          · exact h
          · rw [List.getElem?_eq_none h] at hz1; cases hz1
        refine ⟨_, hcc i (by omega), ?_⟩
        rw [List.getD_eq_getElem?_getD, hz1]
        exact .int _ _)
      refine ⟨_, _, .slice (some ⟨σ.nxt, 0, none⟩) len cap, bs, r1, r2, r3, ?_, ⟨by rw [u8c_length, Nat.mul_one], .inr (.inr ⟨σ.nxt, 0, cap, by rw [hbs], by omega, .inr ⟨zs.map fun z => .int .u8 z, true, if_pos rfl, by simp; omega, ?_⟩⟩)⟩, by omega⟩
      · have := VRel.slice (ρ := ρ.set σ.nxt p) (l := σ.nxt) (o := 0) (n := len) (c := cap) (c' := cap) (p := p) (LMap.set_same _ _ _) (.inl rfl)
        simpa [p] using this
      · rw [List.drop_zero, Nat.mul_one, hbs, ← List.map_take, u8c, List.map_map]
        refine List.map_congr_left fun z hz => ?_
        have hw := hwz z (List.mem_of_mem_take hz)
        have hw' : 0 ≤ z ∧ z ≤ 255 := by
          simp only [Lit.wf, Bool.and_eq_true, decide_eq_true_eq] at hw
          have h1 : IntKind.u8.min = 0 := rfl
          have h2 : IntKind.u8.max = 255 := rfl
          omega
        have e : ((UInt8.ofNat z.toNat).toNat : Int) = z := by
          rw [UInt8.toNat_ofNat']
          omega
        simp only [Function.comp]
        rw [e]

end Go.Proofs.YtfchjhfccnodpaaGreat
end

section
namespace Go.Proofs.YtfchjhfccnodpaaGreat.bulks

theorem one_le {H : Type} (d : DataW H) : 1 ≤ Rows.uptoBulk d := by
  cases d with
  | lit l => cases l <;> simp [Rows.uptoBulk]
  | nil => simp [Rows.uptoBulk]
  | ptr d => simp [Rows.uptoBulk]
  | slice elems spare => simp [Rows.uptoBulk]
  | agg parts => simp [Rows.uptoBulk]
  | iface t d => simp [Rows.uptoBulk]
  | map entries => simp [Rows.uptoBulk]
  | held h => simp [Rows.uptoBulk]

theorem part_le {H : Type} {d : DataW H} {l : List (DataW H)} (h : d ∈ l) : Rows.uptoBulk d ≤ Rows.uptoBulkAll l := by
  induction l with
  | nil => cases h
  | cons x r ih =>
    simp only [Rows.uptoBulkAll]
    cases List.mem_cons.1 h with
    | inl e => subst e; omega
    | inr e => have := ih e; omega

theorem append {H : Type} (l r : List (DataW H)) : Rows.uptoBulkAll (l ++ r) = Rows.uptoBulkAll l + Rows.uptoBulkAll r := by
  induction l with
  | nil => simp [Rows.uptoBulkAll]
  | cons x l ih => simp only [List.cons_append, Rows.uptoBulkAll, ih]; omega

theorem length_le {H : Type} (l : List (DataW H)) : l.length ≤ Rows.uptoBulkAll l := by
  induction l with
  | nil => simp [Rows.uptoBulkAll]
  | cons x r ih => have := one_le x; simp only [Rows.uptoBulkAll, List.length_cons]; omega

theorem slice_le {H : Type} (elems spare : List (DataW H)) : elems.length + spare.length + 1 ≤ Rows.uptoBulk (.slice elems spare) := by
  have h1 := length_le elems
  have h2 := length_le spare
  simp only [Rows.uptoBulk]
  omega
theorem slice_elems {H : Type} (elems spare : List (DataW H)) : Rows.uptoBulkAll elems + 1 ≤ Rows.uptoBulk (.slice elems spare) := by
  simp only [Rows.uptoBulk]
  omega

theorem string_eq {H : Type} (bytes : List UInt8) : Rows.uptoBulk (DataW.lit (H := H) (.string bytes)) = bytes.length + 1 := by
  simp [Rows.uptoBulk]

theorem bound {H : Type} {l : List (DataW H)} (hk : Rows.uptoSmall H l = true) : Rows.uptoBulkAll l ≤ 1048576 := by
  simpa [Rows.uptoSmall] using hk

theorem room {n b : Nat} (hn : n ≤ 2097152) (hb : b ≤ 4096) : (n + n / 4 + 192) * b ≤ 281474976710656 := by
  have h : (n + n / 4 + 192) * b ≤ 2621632 * 4096 := Nat.mul_le_mul (by omega) hb
  omega

end Go.Proofs.YtfchjhfccnodpaaGreat.bulks
end

section
namespace Go.Proofs.YtfchjhfccnodpaaGreat
open Go.ChangeShapes Go.WideShapes Go.ChangeAt Go.RowKit
set_option linter.unusedVariables false
set_option linter.unusedSimpArgs false
set_option maxRecDepth 100000

def fldsB (P : Program) : List Field → Nat → Nat → Bool
  | [], o, z => o == z
  | f :: r, o, z => f.offset == o && fldsB P r (o + P.cellsOf f.type) z

def rdT (P : Program) : Nat → TypeId → Bool
  | 0, _ => false
  | k + 1, t => match P.underlying t with
    | some .bool => true
    | some (.int _) => true
    | some .string => true
    | some (.slice e) => rdT P k e && Nat.blt 0 (P.cellsOf e)
    | some (.struct fs) => fldsB P fs.toList 0 (P.cellsOf t) && fs.toList.all fun f => rdT P k f.type
    | _ => false

def Sh (P : Program) (M : Nat) (g : Gm) : Nat → TypeId → List Value → Prop
  | 0, _, _ => False
  | k + 1, t, us => match P.underlying t with
    | some .bool => ∃ b, us = [.bool b]
    | some (.int i) => ∃ n, us = [.int i n] ∧ (Lit.int i n).wf = true
    | some .string => ∃ s : ByteArray, us = [.string s] ∧ s.size ≤ M
    | some (.slice e) => ∃ v n cs, us = [v] ∧ SlC g (P.cellsOf e) v n cs ∧ n ≤ M ∧ ∀ i, i < n → Sh P M g k e ((cs.drop (i * P.cellsOf e)).take (P.cellsOf e))
    | some (.struct fs) => us.length = P.cellsOf t ∧ ∀ f ∈ fs.toList, Sh P M g k f.type ((us.drop f.offset).take (P.cellsOf f.type))
    | _ => False

theorem SlC.up {g g' : Gm} {k n : Nat} {v : Value} {cs : List Value} (h : SlC g k v n cs) (hs : ∀ l o, g l = some o → g' l = some o) : SlC g' k v n cs := by
  obtain ⟨h1, h2 | h2 | ⟨l, o, c, h2, h3, h4 | ⟨cl, ro, h4, h5, h6⟩⟩⟩ := h
  · exact ⟨h1, .inl h2⟩
  · exact ⟨h1, .inr (.inl h2)⟩
  · exact ⟨h1, .inr (.inr ⟨l, o, c, h2, h3, .inl h4⟩)⟩
  · exact ⟨h1, .inr (.inr ⟨l, o, c, h2, h3, .inr ⟨cl, ro, hs _ _ h4, h5, h6⟩⟩)⟩

theorem Sh.up {P : Program} {M : Nat} {g g' : Gm} (hs : ∀ l o, g l = some o → g' l = some o) : ∀ {k : Nat} {t : TypeId} {us : List Value}, Sh P M g k t us → Sh P M g' k t us
  | 0, t, us, h => h
  | k + 1, t, us, h => by
    unfold Sh at h ⊢
    generalize P.underlying t = d at h ⊢
    rcases d with _ | d
    · exact h
    cases d with
    | slice e =>
      obtain ⟨v, n, cs, h1, h2, h3, h4⟩ := h
      exact ⟨v, n, cs, h1, h2.up hs, h3, fun i hi => (h4 i hi).up hs⟩
    | struct fs => exact ⟨h.1, fun f hf => (h.2 f hf).up hs⟩
    | _ => exact h

section
variable {H : Type} {enc : TypeId × Value → H} {P : Program} {W : World} {M : Nat}

def Bnd (M : Nat) (d : DataW H) : Prop := maxLen ≤ M ∨ Rows.uptoBulk d ≤ M

def RdOut (P : Program) (W : World) (M : Nat) (ρ : LMap) (σ : Heap) (k : Nat) (t : TypeId) (cs : List Value) : Prop :=
  ∃ (ρ' : LMap) (σ' : Heap) (us : List Value), Rel ρ' σ' W ∧ Grow ρ σ ρ' σ' ∧ Ro σ' ∧ VlRel ρ' us cs ∧ Sh P M σ'.get k t us

theorem reads_flds {k : Nat} {cs : List Value} (hf : ∀ f : Field, rdT P k f.type = true → ∀ ρ σ, Rel ρ σ W → Ro σ → (∃ n x, DataW.trod enc P W 0 (fun _ => true) true n f.type ((cs.drop f.offset).take (P.cellsOf f.type)) = some x ∧ Bnd M x.1) → RdOut P W M ρ σ k f.type ((cs.drop f.offset).take (P.cellsOf f.type))) :
    ∀ (fs : List Field) (o : Nat), fldsB P fs o cs.length = true → (∀ f ∈ fs, rdT P k f.type = true ∧ ∃ n x, DataW.trod enc P W 0 (fun _ => true) true n f.type ((cs.drop f.offset).take (P.cellsOf f.type)) = some x ∧ Bnd M x.1) →
      ∀ ρ σ, Rel ρ σ W → Ro σ → ∃ (ρ' : LMap) (σ' : Heap) (us : List Value), Rel ρ' σ' W ∧ Grow ρ σ ρ' σ' ∧ Ro σ' ∧ VlRel ρ' us (cs.drop o) ∧ ∀ f ∈ fs, o ≤ f.offset ∧ Sh P M σ'.get k f.type ((us.drop (f.offset - o)).take (P.cellsOf f.type))
  | [], o, ho, _, ρ, σ, h1, h2 => by
    simp only [fldsB, beq_iff_eq] at ho
    subst ho
    exact ⟨ρ, σ, [], h1, Grow.refl _ _, h2, by rw [List.drop_length]; exact .nil _, fun f h => by cases h⟩
  | f :: r, o, ho, ha, ρ, σ, h1, h2 => by
    simp only [fldsB, Bool.and_eq_true, beq_iff_eq] at ho
    obtain ⟨rfl, ho⟩ := ho
    obtain ⟨k1, k2⟩ := ha f (List.mem_cons_self ..)
    obtain ⟨ρ1, σ1, us1, a1, a2, a3, a4, a5⟩ := hf f k1 ρ σ h1 h2 k2
    obtain ⟨ρ2, σ2, us2, b1, b2, b3, b4, b5⟩ := reads_flds hf r (f.offset + P.cellsOf f.type) ho (fun x hx => ha x (List.mem_cons_of_mem _ hx)) ρ1 σ1 a1 a3
    have hle : f.offset + P.cellsOf f.type ≤ cs.length := by
      have : ∀ (fs : List Field) (o z : Nat), fldsB P fs o z = true → o ≤ z := by
        intro fs
        induction fs with
        | nil => intro o z h; simp only [fldsB, beq_iff_eq] at h; omega
        | cons x r ih => intro o z h; simp only [fldsB, Bool.and_eq_true, beq_iff_eq] at h; have := ih _ _ h.2; omega
      exact this _ _ _ ho
    have hl1 : us1.length = P.cellsOf f.type := by rw [a4.1, List.length_take, List.length_drop]; omega
    refine ⟨ρ2, σ2, us1 ++ us2, b1, a2.trans b2, b3, ?_, ?_⟩
    · have e : cs.drop f.offset = (cs.drop f.offset).take (P.cellsOf f.type) ++ cs.drop (f.offset + P.cellsOf f.type) := by
        rw [← List.drop_drop, List.take_append_drop]
      rw [e]
      exact (a4.mono b2.le).append b4
    · intro x hx
      rcases List.mem_cons.1 hx with rfl | hx
      · refine ⟨Nat.le_refl _, ?_⟩
        rw [Nat.sub_self, List.drop_zero, List.take_left' hl1]
        exact a5.up b2.sub
      · obtain ⟨c1, c2⟩ := b5 x hx
        refine ⟨by omega, ?_⟩
        have : (us1 ++ us2).drop (x.offset - f.offset) = us2.drop (x.offset - (f.offset + P.cellsOf f.type)) := by
          rw [List.drop_append, List.drop_eq_nil_of_le (by omega), List.nil_append]
          congr 1; omega
        rw [this]
        exact c2

theorem reads_elems {k z : Nat} {e : TypeId} {b off : Nat} {C : Array Value} {T : TypeId} {fz : Nat × Nat} (hz : 0 < z) (hh : W.heap[b]? = some (.cells C T fz))
    (he : ∀ cs n x, DataW.trod enc P W 0 (fun _ => true) true n e cs = some x → Bnd M x.1 → ∀ ρ σ, Rel ρ σ W → Ro σ → RdOut P W M ρ σ k e cs) :
    ∀ (m : Nat), (∀ i, i < m → ∃ cs n x, cs.length = z ∧ (DataW.trod enc P W 0 (fun _ => true) true n e cs = some x ∧ Bnd M x.1) ∧ ∀ j, j < z → C[off + i * z + j]? = cs[j]?) →
      ∀ ρ σ, Rel ρ σ W → Ro σ → ∃ (ρ' : LMap) (σ' : Heap) (us : List Value), Rel ρ' σ' W ∧ Grow ρ σ ρ' σ' ∧ Ro σ' ∧ us.length = m * z ∧ (∀ i v, us[i]? = some v → ∃ v', C[off + i]? = some v' ∧ VRel ρ' v v') ∧
        ∀ i, i < m → Sh P M σ'.get k e ((us.drop (i * z)).take z)
  | 0, _, ρ, σ, h1, h2 => ⟨ρ, σ, [], h1, Grow.refl _ _, h2, by simp, fun i v h => by simp at h, fun i h => by omega⟩
  | m + 1, hm, ρ, σ, h1, h2 => by
    obtain ⟨ρ1, σ1, us1, a1, a2, a3, a4, a5, a6⟩ := reads_elems hz hh he m (fun i hi => hm i (by omega)) ρ σ h1 h2
    obtain ⟨cs, n, x, c1, c2, c3⟩ := hm m (by omega)
    obtain ⟨ρ2, σ2, us2, b1, b2, b3, b4, b5⟩ := he cs n x c2.1 c2.2 ρ1 σ1 a1 a3
    have hl2 : us2.length = z := by rw [b4.1, c1]
    refine ⟨ρ2, σ2, us1 ++ us2, b1, a2.trans b2, b3, by rw [List.length_append, a4, hl2, Nat.succ_mul], ?_, ?_⟩
    · intro i v hv
      by_cases hi : i < us1.length
      · rw [List.getElem?_append_left hi] at hv
        obtain ⟨v', d1, d2⟩ := a5 i v hv
        exact ⟨v', d1, d2.mono b2.le⟩
      · rw [List.getElem?_append_right (by omega)] at hv
        obtain ⟨v', d1, d2⟩ := b4.get hv
        have hlt : i - us1.length < z := by
          rcases Nat.lt_or_ge (i - us1.length) us2.length with h | h
          · omega
          · rw [List.getElem?_eq_none h] at hv; cases hv
        refine ⟨v', ?_, d2⟩
        rw [← c3 _ hlt] at d1
        rw [show off + i = off + m * z + (i - us1.length) by omega]
        exact d1
    · intro i hi
      by_cases him : i < m
      · have h3 := (a6 i him).up b2.sub
        have hb : i * z + z ≤ m * z := by rw [← Nat.succ_mul]; exact Nat.mul_le_mul_right _ him
        have : ((us1 ++ us2).drop (i * z)).take z = (us1.drop (i * z)).take z := by
          rw [List.drop_append_of_le_length (by omega), List.take_append_of_le_length (by rw [List.length_drop]; omega)]
        rw [this]; exact h3
      · have : i = m := by omega
        subst this
        rw [← a4, List.drop_left, ← hl2, List.take_length]
        exact b5

theorem cells?_get {w : World} {a : Addr} {n : Nat} {cs : List Value} (h : w.cells? 0 a n = some cs) : cs.length = n ∧ ∀ j, j < n → w.cell? (a.add j) = cs[j]? := by
  unfold World.cells? at h
  rw [if_pos (Nat.zero_le _)] at h
  exact ⟨by simpa using mapM_some_length h, fun j hj => mapM_some_get h j j (by simp [hj])⟩

theorem add_off (a : Addr) (h : a.spot = none) (n : Nat) : a.add n = ⟨a.block, a.off + n, none⟩ := by
  unfold Addr.add
  obtain ⟨b, o, s⟩ := a
  simp only at h; subst h
  split
  · rename_i h; subst h; rfl
  · rfl

theorem reads_of : ∀ (k : Nat) (t : TypeId), rdT P k t = true → ∀ cs n x, DataW.trod enc P W 0 (fun _ => true) true n t cs = some x → Bnd M x.1 → ∀ ρ σ, Rel ρ σ W → Ro σ → RdOut P W M ρ σ k t cs
  | 0, t, h => by simp [rdT] at h
  | k + 1, t, h => by
    intro cs n x hx hB ρ σ hrel hro
    unfold rdT at h
    split at h
    · rename_i ht
      obtain ⟨b, rfl, _⟩ := DataW.trod_bool ht hx
      exact ⟨ρ, σ, [.bool b], hrel, Grow.refl _ _, hro, .cons (.bool b) (.nil _), by unfold Sh; simp only [ht]; exact ⟨b, rfl⟩⟩
    · rename_i i ht
      obtain ⟨m, rfl, _, hw⟩ := DataW.trod_int ht hx
      exact ⟨ρ, σ, [.int i m], hrel, Grow.refl _ _, hro, .cons (.int i m) (.nil _), by unfold Sh; simp only [ht]; exact ⟨m, rfl, hw⟩⟩
    · rename_i ht
      obtain ⟨s, rfl, rfl, hw⟩ := DataW.trod_string ht hx
      have hw : s.size ≤ M := by
        rcases hB with hB | hB
        · omega
        · simp only [Rows.uptoBulk, Array.length_toList] at hB
          have : s.data.size = s.size := rfl
          omega
      exact ⟨ρ, σ, [.string s], hrel, Grow.refl _ _, hro, .cons (.string s) (.nil _), by unfold Sh; simp only [ht]; exact ⟨s, rfl, hw⟩⟩
    · rename_i e ht
      simp only [Bool.and_eq_true, Nat.blt_eq] at h
      obtain ⟨he, hz⟩ := h
      rcases DataW.trod_slice ht hx with ⟨rfl, _⟩ | ⟨a, len, cap, elems, rest, m, rfl, rfl, rfl, _, hlc, hcm, hel, h1, h2, _⟩
      · exact ⟨ρ, σ, [.slice none 0 0], hrel, Grow.refl _ _, hro, .cons (.sliceNil 0 0) (.nil _), by unfold Sh; simp only [ht]; exact ⟨_, 0, [], rfl, SlC.nil _ _, Nat.zero_le _, fun i h => by omega⟩⟩
      · obtain ⟨hr1, hr2⟩ := h2 rfl
        have hlM : len ≤ M := by
          rcases hB with hB | hB
          · omega
          · have := bulks.slice_le (elems.map (·.1)) (rest.map (·.1))
            simp only [List.length_map] at this
            simp only at hB
            omega
        have hbE : ∀ y ∈ elems, Bnd M y.1 := fun y hy => by
          refine hB.imp id fun hB => ?_
          have h1 := bulks.part_le (List.mem_map_of_mem (f := (·.1)) hy)
          have h2 := bulks.slice_elems (elems.map (·.1)) (rest.map (·.1))
          simp only at hB
          omega
        have hall : ∀ i, i < cap → ∃ cs x, W.cells? 0 (a.add (i * P.cellsOf e)) (P.cellsOf e) = some cs ∧ DataW.trod enc P W 0 (fun _ => true) true m e cs = some x ∧ (i < len → Bnd M x.1) := by
          intro i hi
          by_cases hil : i < len
          · have q := h1 i hil
            rw [List.getElem?_eq_getElem (by omega)] at q
            obtain ⟨cs, q1, q2⟩ := Option.bind_eq_some_iff.1 q
            exact ⟨cs, _, q1, q2, fun _ => hbE _ (List.getElem_mem _)⟩
          · have q := hr2 (i - len) (by omega)
            rw [List.getElem?_eq_getElem (by omega), show len + (i - len) = i by omega] at q
            obtain ⟨cs, q1, q2⟩ := Option.bind_eq_some_iff.1 q
            exact ⟨cs, _, q1, q2, fun h => absurd h hil⟩
        by_cases hc0 : cap = 0
        · subst hc0
          have : len = 0 := by omega
          subst this
          exact ⟨ρ, σ, [.slice (some ⟨0, 0, some 0⟩) 0 0], hrel, Grow.refl _ _, hro, .cons .sliceE (.nil _), by unfold Sh; simp only [ht]; exact ⟨_, 0, [], rfl, ⟨by simp, .inr (.inl ⟨rfl, rfl⟩)⟩, Nat.zero_le _, fun i h => by omega⟩⟩
        · obtain ⟨cs0, x0, q1, _⟩ := hall 0 (by omega)
          obtain ⟨q2, q3⟩ := cells?_get q1
          have q4 := q3 0 hz
          rw [List.getElem?_eq_getElem (by omega)] at q4
          have q5 : a.add (0 * P.cellsOf e) = a := by rw [Nat.zero_mul]; rfl
          have q6 : a.add 0 = a := rfl
          rw [q5, q6] at q4
          obtain ⟨b, off, spot⟩ := a
          obtain ⟨C, T, fz, hh, hsp⟩ : ∃ C T fz, W.heap[b]? = some (.cells C T fz) ∧ spot = none := by
            simp only [World.cell?] at q4
            split at q4
            · rename_i C T fz heq
              refine ⟨C, T, fz, heq, ?_⟩
              cases spot with
              | none => rfl
              | some s => simp at q4
            · cases q4
          subst hsp
          obtain ⟨ρ1, σ1, us, a1, a2, a3, a4, a5, a6⟩ := reads_elems (enc := enc) (P := P) (W := W) (k := k) (off := off) hz hh (M := M) (fun cs n x hx hb => reads_of k e he cs n x hx hb) len (fun i hi => by
            obtain ⟨cs, x, p1, p2, p5⟩ := hall i (by omega)
            obtain ⟨p3, p4⟩ := cells?_get p1
            refine ⟨cs, m, x, p3, ⟨p2, p5 hi⟩, fun j hj => ?_⟩
            have := p4 j hj
            rw [add_off (⟨b, off, none⟩ : Addr) rfl, add_off (⟨b, off + i * P.cellsOf e, none⟩ : Addr) rfl] at this
            rw [← this]
            simp [World.cell?, hh]) ρ σ hrel hro
          have hblk : b < W.heap.size := by
            rcases Nat.lt_or_ge b W.heap.size with h | h
            · exact h
            · rw [Array.getElem?_eq_none h] at hh; cases hh
          have hn : (ρ1.set σ1.nxt ⟨b, off, 0, P.cellsOf e, len * P.cellsOf e⟩) σ1.nxt = some ⟨b, off, 0, P.cellsOf e, len * P.cellsOf e⟩ := LMap.set_same _ _ _
          have hno : ρ1 σ1.nxt = none := by
            cases hq : ρ1 σ1.nxt with
            | none => rfl
            | some q => exact absurd (a1.bnd _ _ hq).1 (Nat.lt_irrefl _)
          obtain ⟨r1, r2, r3⟩ := grow_one a1 a3 ⟨b, off, 0, P.cellsOf e, len * P.cellsOf e⟩ hblk (some (.cells us (P.cellsOf e) true)) (fun x hx => by
            cases hx
            refine ⟨rfl, a4.symm, ⟨rfl, fun h => by have h : P.cellsOf e = 0 := h; omega⟩, C, T, fz, hh, fun i v hi => ?_, fun h => by cases h⟩
            obtain ⟨v', d1, d2⟩ := a5 i v hi
            exact ⟨v', d1, d2.mono (LMap.le_set _ hno)⟩)
          refine ⟨_, _, [.slice (some ⟨σ1.nxt, 0, none⟩) len cap], r1, a2.trans r2, r3, .cons ?_ (.nil _), ?_⟩
          · have := VRel.slice (ρ := ρ1.set σ1.nxt ⟨b, off, 0, P.cellsOf e, len * P.cellsOf e⟩) (l := σ1.nxt) (o := 0) (n := len) (c := cap) (c' := cap) hn (.inl rfl)
            simpa using this
          · unfold Sh
            simp only [ht]
            refine ⟨_, len, us, rfl, ⟨a4, .inr (.inr ⟨σ1.nxt, 0, cap, rfl, hlc, .inr ⟨us, true, if_pos rfl, by omega, ?_⟩⟩)⟩, hlM, fun i hi => (a6 i hi).up r2.sub⟩
            rw [List.drop_zero, ← a4, List.take_length]
    · rename_i fs ht
      simp only [Bool.and_eq_true, List.all_eq_true] at h
      obtain ⟨hfl, hfs⟩ := h
      obtain ⟨xs, m, rfl, rfl, hlen, hxs, hget⟩ := DataW.trod_struct ht hx
      rw [← hlen] at hfl
      obtain ⟨ρ1, σ1, us, a1, a2, a3, a4, a5⟩ := reads_flds (enc := enc) (P := P) (W := W) (k := k) (cs := cs) (M := M) (fun f hf ρ σ h1 h2 ⟨n, x, hx, hb⟩ => reads_of k f.type hf _ n x hx hb ρ σ h1 h2) fs.toList 0 hfl (fun f hf => by
        obtain ⟨i, hi⟩ := List.getElem?_of_mem hf
        refine ⟨hfs f hf, m, ?_⟩
        have q := hget i f (by simpa using hi)
        have hlt : i < xs.length := by
          rcases Nat.lt_or_ge i fs.toList.length with h | h
          · simpa [hxs] using h
          · rw [List.getElem?_eq_none h] at hi; cases hi
        rw [List.getElem?_eq_getElem hlt] at q
        refine ⟨_, q, hB.imp id fun hB => ?_⟩
        have h1 := bulks.part_le (List.mem_map_of_mem (f := (·.1)) (List.getElem_mem hlt))
        simp only [Rows.uptoBulk] at hB
        omega) ρ σ hrel hro
      rw [List.drop_zero] at a4
      refine ⟨ρ1, σ1, us, a1, a2, a3, a4, ?_⟩
      unfold Sh
      simp only [ht]
      exact ⟨a4.1.trans hlen, fun f hf => by have := (a5 f hf).2; rwa [Nat.sub_zero] at this⟩
    · cases h


theorem reads_slice {k : Nat} {t e : TypeId} {v : Value} {d : DataW H} {ps : List MemPlace} (ht : P.underlying t = some (.slice e)) (hr : rdT P k t = true) (hv : Value.okWide P W .any 0 t v) (h : DataW.Trod enc P W 0 (fun _ => true) true t v d ps) (hB : Bnd M d)
    {ρ : LMap} {σ : Heap} (hrel : Rel ρ σ W) (hro : Ro σ) : ∃ ρ' σ' u, Rel ρ' σ' W ∧ Grow ρ σ ρ' σ' ∧ Ro σ' ∧ VRel ρ' u v ∧ Sh P M σ'.get k t [u] := by
  obtain ⟨a, len, cap, rfl⟩ := okWide_slice ht hv
  obtain ⟨fuel, hf⟩ := h
  obtain ⟨ρ', σ', us, h1, h2, h3, h4, h5⟩ := reads_of (M := M) k t hr _ fuel _ hf hB ρ σ hrel hro
  have h4 : VlRel ρ' us [.slice a len cap] := h4
  obtain ⟨u, r, rfl⟩ : ∃ u r, us = u :: r := by
    cases us with
    | nil => have := h4.1; simp at this
    | cons u r => exact ⟨u, r, rfl⟩
  obtain ⟨v', a', e', k1, k2⟩ := h4.inv_cons
  simp only [List.cons.injEq] at e'
  obtain ⟨rfl, rfl⟩ := e'
  have : r = [] := List.eq_nil_of_length_eq_zero (by have := k2.1; simpa using this)
  subst this
  exact ⟨ρ', σ', u, h1, h2, h3, k1, h5⟩
end


theorem rows_of {α : Type} {z : Nat} {R : List Value → α → Prop} : ∀ {n : Nat} {cs : List Value}, cs.length = n * z → (∀ i, i < n → ∃ x, R ((cs.drop (i * z)).take z) x) → ∃ xs : List α, xs.length = n ∧ Rows z R cs xs
  | 0, cs, hl, _ => ⟨[], rfl, List.eq_nil_of_length_eq_zero (by simpa using hl)⟩
  | n + 1, cs, hl, h => by
    have hn : (n + 1) * z = n * z + z := Nat.succ_mul n z
    obtain ⟨x, hx⟩ := h 0 (by omega)
    rw [Nat.zero_mul, List.drop_zero] at hx
    obtain ⟨xs, h1, h2⟩ := rows_of (z := z) (R := R) (n := n) (cs := cs.drop z) (by rw [List.length_drop]; omega) (fun i hi => by
      obtain ⟨y, hy⟩ := h (i + 1) (by omega)
      refine ⟨y, ?_⟩
      rw [List.drop_drop, show z + i * z = (i + 1) * z by rw [Nat.succ_mul]; omega]
      exact hy)
    exact ⟨x :: xs, by simp [h1], cs.take z, cs.drop z, (List.take_append_drop z cs).symm, by rw [List.length_take]; omega, hx, h2⟩

theorem rows_one {α : Type} {F : α → Value} : ∀ {cs : List Value} {xs : List α}, Rows 1 (fun c x => c = [F x]) cs xs → cs = xs.map F
  | cs, [], h => h
  | cs, x :: xs, h => by
    obtain ⟨c, d, rfl, _, h2, h3⟩ := h
    have h2 : c = [F x] := h2
    subst h2
    rw [rows_one h3]; rfl

section
variable {P : Program} {M : Nat} {g : Gm}

theorem sh_slice {k : Nat} {t e : TypeId} {u : Value} (ht : P.underlying t = some (.slice e)) (h : Sh P M g (k + 1) t [u]) : ∃ n cs, SlC g (P.cellsOf e) u n cs ∧ n ≤ M ∧ ∀ i, i < n → Sh P M g k e ((cs.drop (i * P.cellsOf e)).take (P.cellsOf e)) := by
  unfold Sh at h
  rw [ht] at h
  obtain ⟨v, n, cs, h1, h2, h3, h4⟩ := h
  cases h1
  exact ⟨n, cs, h2, h3, h4⟩

theorem sh_ints {k : Nat} {t e : TypeId} {u : Value} (ht : P.underlying t = some (.slice e)) (he : P.underlying e = some (.int .i64)) (hc : P.cellsOf e = 1) (h : Sh P M g (k + 2) t [u]) : ∃ xs : List Int, SlC g 1 u xs.length (xs.map fun z => .int .i64 z) ∧ xs.length ≤ M ∧ ∀ x ∈ xs, -9223372036854775808 ≤ x ∧ x ≤ 9223372036854775807 := by
  obtain ⟨n, cs, h1, h2, h3⟩ := sh_slice ht h
  rw [hc] at h1 h3
  obtain ⟨xs, k1, k2⟩ := rows_of (R := fun c (x : {x : Int // (Lit.int .i64 x).wf = true}) => c = [.int .i64 x.1]) h1.1 (fun i hi => by
    have := h3 i hi
    unfold Sh at this
    rw [he] at this
    obtain ⟨m, e1, e2⟩ := this
    exact ⟨⟨m, e2⟩, e1⟩)
  have k3 := rows_one k2
  subst k3
  refine ⟨xs.map (·.1), ?_, by simpa [k1] using h2, fun x hx => ?_⟩
  · rw [List.length_map, k1, List.map_map]
    exact h1
  · obtain ⟨y, _, rfl⟩ := List.mem_map.1 hx
    exact bounds_i64 y.2

theorem sh_bytes {k : Nat} {t e : TypeId} {u : Value} (ht : P.underlying t = some (.slice e)) (he : P.underlying e = some (.int .u8)) (hc : P.cellsOf e = 1) (h : Sh P M g (k + 2) t [u]) : ∃ bs : List UInt8, BytesAt g u bs ∧ bs.length ≤ M := by
  obtain ⟨n, cs, h1, h2, h3⟩ := sh_slice ht h
  rw [hc] at h1 h3
  obtain ⟨xs, k1, k2⟩ := rows_of (R := fun c (x : UInt8) => c = [.int .u8 (x.toNat : Int)]) h1.1 (fun i hi => by
    have := h3 i hi
    unfold Sh at this
    rw [he] at this
    obtain ⟨m, e1, e2⟩ := this
    have hb := bounds_u8 e2
    refine ⟨UInt8.ofNat m.toNat, ?_⟩
    rw [e1]
    have e : ((UInt8.ofNat m.toNat).toNat : Int) = m := by
      rw [UInt8.toNat_ofNat']
      omega
    rw [e])
  have k3 := rows_one k2
  subst k3
  exact ⟨xs, by unfold BytesAt; rw [k1]; exact h1, by omega⟩
end

end Go.Proofs.YtfchjhfccnodpaaGreat
end

section
open Go.Proofs
namespace Go.Proofs.YtfchjhfccnodpaaGreat
set_option linter.unusedSimpArgs false
set_option linter.unusedVariables false
set_option maxRecDepth 100000

set_option maxHeartbeats 4000000

def BegunOk : Prop := ∀ (g : Gm) (n : Nat), C 6 #[] g n fun u g' n' => u = .bool true ∧ g' = g


theorem clone_ok {σ : Heap} {v : Value} {bs : List UInt8} (h : BytesAt σ.get v bs) (hs : bs.length ≤ 2 ^ 46) :
    ACall E6.P 143 #[v] σ fun u τ => BytesNew σ.nxt τ.get u bs ∧ Keep0 σ τ := by
  refine ACall.wf fun hw => ?_
  obtain ⟨rfl, h2⟩ | ⟨A, N0, c, h2⟩ : (v = .slice none 0 0 ∧ bs.length = 0) ∨ ∃ A N0 c, v = .slice (some A) N0 c := by
    obtain ⟨h1, h2 | ⟨h2, _⟩ | ⟨l, o, c, h2, h3, h4⟩⟩ := id h
    · exact .inl h2
    · exact .inr ⟨_, _, _, h2⟩
    · exact .inr ⟨_, _, _, h2⟩
  · have : bs = [] := List.eq_nil_of_length_eq_zero h2
    subst this
    refine acall Tryz.func143 rfl ?_
    rw [entry1 Tryz.ntmps143 (by decide)]
    refine awp_seq (awp_region_n envOk6 fun K hK => ?_)
    simp only [push_cast, ↓cases2_t, ↓cases2_f, ↓obind_some, ↓cbind_true, ↓tbind_true, ↓tbind_false, Nat.reduceLT, Nat.reduceAdd, Nat.reduceMul, Nat.reduceSub, Nat.reduceEqDiff, Nat.reduceLeDiff, Nat.reduceBEq, reduceCtorEq, reduceIte]
    refine hK _ _ ?_; clear hK K
    refine awp_seq ?_
    refine awp_seq (awp_region_n envOk6 fun K hK => ?_)
    simp only [push_cast, ↓cases2_t, ↓cases2_f, ↓obind_some, ↓cbind_true, ↓tbind_true, ↓tbind_false, Nat.reduceLT, Nat.reduceAdd, Nat.reduceMul, Nat.reduceSub, Nat.reduceEqDiff, Nat.reduceLeDiff, Nat.reduceBEq, reduceCtorEq, reduceIte]
    refine hK _ _ ?_; clear hK K
    refine awp_yes (by simp only [push_cast, ↓cases2_t, ↓cases2_f, ↓obind_some, ↓cbind_true, ↓tbind_true, ↓tbind_false, Nat.reduceLT, Nat.reduceAdd, Nat.reduceMul, Nat.reduceSub, Nat.reduceEqDiff, Nat.reduceLeDiff, Nat.reduceBEq, reduceCtorEq, reduceIte]) ?_
    refine awp_seq (awp_region_n envOk6 fun K hK => ?_)
    simp only [push_cast, ↓cases2_t, ↓cases2_f, ↓obind_some, ↓cbind_true, ↓tbind_true, ↓tbind_false, Nat.reduceLT, Nat.reduceAdd, Nat.reduceMul, Nat.reduceSub, Nat.reduceEqDiff, Nat.reduceLeDiff, Nat.reduceBEq, reduceCtorEq, reduceIte]
    refine hK _ _ ?_; clear hK K
    refine awp_ret ⟨rfl, _, res1 rfl (by decide), ?_⟩
    simp only [push_cast, ↓cases2_t, ↓cases2_f, ↓obind_some, ↓cbind_true, ↓tbind_true, ↓tbind_false, Nat.reduceLT, Nat.reduceAdd, Nat.reduceMul, Nat.reduceSub, Nat.reduceEqDiff, Nat.reduceLeDiff, Nat.reduceBEq, reduceCtorEq, reduceIte]
    exact ⟨⟨SlOwn.nil _ _, fun l hl => by cases hl⟩, (((Keeps.refl _ _).bump _).bump _).bump _⟩
  · subst h2
    refine acall Tryz.func143 rfl ?_
    rw [entry1 Tryz.ntmps143 (by decide)]
    refine awp_seq (awp_region_n envOk6 fun K hK => ?_)
    simp only [push_cast, ↓cases2_t, ↓cases2_f, ↓obind_some, ↓cbind_true, ↓tbind_true, ↓tbind_false, Nat.reduceLT, Nat.reduceAdd, Nat.reduceMul, Nat.reduceSub, Nat.reduceEqDiff, Nat.reduceLeDiff, Nat.reduceBEq, reduceCtorEq, reduceIte]
    refine hK _ _ ?_; clear hK K
    refine awp_seq ?_
    refine awp_seq (awp_region_n envOk6 fun K hK => ?_)
    simp only [push_cast, ↓cases2_t, ↓cases2_f, ↓obind_some, ↓cbind_true, ↓tbind_true, ↓tbind_false, Nat.reduceLT, Nat.reduceAdd, Nat.reduceMul, Nat.reduceSub, Nat.reduceEqDiff, Nat.reduceLeDiff, Nat.reduceBEq, reduceCtorEq, reduceIte]
    refine hK _ _ ?_; clear hK K
    refine awp_no (by simp only [push_cast, ↓cases2_t, ↓cases2_f, ↓obind_some, ↓cbind_true, ↓tbind_true, ↓tbind_false, Nat.reduceLT, Nat.reduceAdd, Nat.reduceMul, Nat.reduceSub, Nat.reduceEqDiff, Nat.reduceLeDiff, Nat.reduceBEq, reduceCtorEq, reduceIte]) ?_
    refine awp_skip ?_
    refine awp_seq (awp_region_n envOk6 fun K hK => ?_)
    simp only [push_cast, ↓cases2_t, ↓cases2_f, ↓obind_some, ↓cbind_true, ↓tbind_true, ↓tbind_false, Nat.reduceLT, Nat.reduceAdd, Nat.reduceMul, Nat.reduceSub, Nat.reduceEqDiff, Nat.reduceLeDiff, Nat.reduceBEq, reduceCtorEq, reduceIte]
    have hk : Keep0 σ ((((σ.bump 1).bump 2).bump 4).upd (σ.nxt + 3) (some (AObj.cells [] 1 false))) := ((((Keeps.refl _ _).bump _).bump _).bump _).updNew (by omega) _
    refine at_append app43 (n := 0) (cs := []) (by simp only [push_cast, ↓cases2_t, ↓cases2_f, ↓obind_some, ↓cbind_true, ↓tbind_true, ↓tbind_false, Nat.reduceLT, Nat.reduceAdd, Nat.reduceMul, Nat.reduceSub, Nat.reduceEqDiff, Nat.reduceLeDiff, Nat.reduceBEq, reduceCtorEq, reduceIte]) (by simp only [push_cast, ↓cases2_t, ↓cases2_f, ↓obind_some, ↓cbind_true, ↓tbind_true, ↓tbind_false, Nat.reduceLT, Nat.reduceAdd, Nat.reduceMul, Nat.reduceSub, Nat.reduceEqDiff, Nat.reduceLeDiff, Nat.reduceBEq, reduceCtorEq, reduceIte]) ⟨rfl, .inr ⟨_, 0, 0, [], rfl, Nat.le_refl _, Heap.upd_same _ _ _, Nat.le_refl _, rfl⟩⟩ (h.keep hk hw).src (u8c_one _) (by omega) fun v' τ hv' hg => ?_
    simp only [push_cast, ↓cases2_t, ↓cases2_f, ↓obind_some, ↓cbind_true, ↓tbind_true, ↓tbind_false, Nat.reduceLT, Nat.reduceAdd, Nat.reduceMul, Nat.reduceSub, Nat.reduceEqDiff, Nat.reduceLeDiff, Nat.reduceBEq, reduceCtorEq, reduceIte]
    refine hK _ _ ?_; clear hK K
    refine awp_ret ⟨rfl, _, res1 rfl (by decide), ?_⟩
    simp only [push_cast, ↓cases2_t, ↓cases2_f, ↓obind_some, ↓cbind_true, ↓tbind_true, ↓tbind_false, Nat.reduceLT, Nat.reduceAdd, Nat.reduceMul, Nat.reduceSub, Nat.reduceEqDiff, Nat.reduceLeDiff, Nat.reduceBEq, reduceCtorEq, reduceIte]
    rw [Nat.zero_add, List.nil_append] at hv'
    refine ⟨⟨hv', fun l hl => ?_⟩, hk.grown hg (by omega) fun l hl => ?_⟩
    · rcases hg.name with e | e | e <;> rw [e] at hl <;> cases hl <;> omega
    · cases hl; left; omega


section
variable {F : Nat → AObj → Prop} {g g' : Gm} {n n' b : Nat} {v : Value}
theorem BytesNew.kpb {bs : List UInt8} (h : BytesNew b g v bs) (hk : Kp F g n g') (hw : WF g n) (hF : ∀ x cl ro, b ≤ x → ¬ F x (.cells cl 1 ro)) : BytesNew b g' v bs := by
  refine ⟨h.1.kp hk hw fun l o hl ho hf => ?_, h.2⟩
  have hb := h.2 l hl
  obtain ⟨_, ⟨rfl, _⟩ | ⟨l', o', c, cl, rfl, _, h4, _⟩⟩ := h.1
  · cases hl
  · simp only [vname, Option.some.injEq] at hl
    subst hl
    rw [h4] at ho; cases ho
    exact hF _ _ _ hb hf
end

theorem str_t {a b : List UInt8} (h : a = b) : ((str a).toList == (str b).toList) = true := by rw [str_eq]; simpa using h
theorem str_f {a b : List UInt8} (h : a ≠ b) : ((str a).toList == (str b).toList) = false := by rw [str_eq]; simpa using h
theorem clone_c {g : Gm} {n : Nat} {v : Value} {bs : List UInt8} (h : BytesAt g v bs) (hs : bs.length ≤ 2 ^ 46) : C 143 #[v] g n fun u g' n' => (∃ a c, u = .slice a bs.length c) ∧ BytesNew n g' u bs ∧ K0 g n g' :=
  C.of (clone_ok (σ := ⟨g, n⟩) h hs) fun v τ ⟨h1, h2⟩ => ⟨by obtain ⟨a, c, h, _⟩ := h1.1.slc.len; exact ⟨a, c, h⟩, h1, h2.k0⟩

theorem SlOwn.other {g : Gm} {k m x : Nat} {v : Value} {cs : List Value} (h : SlOwn g k v m cs) (hx : vname v ≠ some x) (o : AObj) : SlOwn (gset g x o) k v m cs := by
  obtain ⟨h1, h2 | ⟨l, q, c, cl, rfl, h3, h4, h5, h6⟩⟩ := h
  · exact ⟨h1, .inl h2⟩
  · exact ⟨h1, .inr ⟨l, q, c, cl, rfl, h3, by rw [gs_ne (fun e => hx (by rw [e]; rfl))]; exact h4, h5, h6⟩⟩
theorem BytesNew.nil (b : Nat) (g : Gm) : BytesNew b g (.slice none 0 0) [] := ⟨SlOwn.nil _ _, fun l h => by cases h⟩
theorem BytesNew.len {b : Nat} {g : Gm} {v : Value} {bs : List UInt8} (h : BytesNew b g v bs) : ∃ a c, v = .slice a bs.length c := by
  obtain ⟨a, c, h, _⟩ := h.1.slc.len; exact ⟨a, c, h⟩
theorem BytesAt.len {g : Gm} {v : Value} {bs : List UInt8} (h : BytesAt g v bs) : ∃ a c, v = .slice a bs.length c := by
  obtain ⟨a, c, h, _⟩ := SlC.len h; exact ⟨a, c, h⟩
theorem BytesNew.other {b : Nat} {g : Gm} {v : Value} {bs : List UInt8} (h : BytesNew b g v bs) {x : Nat} (hx : vname v ≠ some x) (o : AObj) : BytesNew b (gset g x o) v bs := ⟨h.1.other hx o, h.2⟩
theorem bytes_row {b nm : Nat} {g : Gm} {cl : List Value} {bs : List UInt8} (h : g nm = some (.cells cl 1 false)) (hc : cl = u8c bs) (hb : b ≤ nm) : BytesNew b g (.slice (some ⟨nm, 0, none⟩) bs.length bs.length) bs := by
  subst hc
  refine ⟨⟨by rw [u8c_length]; omega, .inr ⟨nm, 0, bs.length, _, rfl, Nat.le_refl _, h, by rw [u8c_length]; omega, ?_⟩⟩, fun l hl => by cases hl; exact hb⟩
  rw [List.drop_zero, Nat.mul_one, ← u8c_length bs, List.take_length]
theorem BytesNew.pos {b : Nat} {g : Gm} {v : Value} {x : UInt8} {bs : List UInt8} (h : BytesNew b g v (x :: bs)) : ∃ l o c cl, v = .slice (some ⟨l, o, none⟩) (bs.length + 1) c ∧ bs.length + 1 ≤ c ∧ b ≤ l ∧ g l = some (.cells cl 1 false) ∧ o + c ≤ cl.length ∧ cl[o]? = some (.int .u8 x.toNat) ∧
    ∀ y : UInt8, (((splice cl o [.int .u8 y.toNat]).drop o).take (bs.length + 1)) = u8c (y :: bs) := by
  obtain ⟨⟨h1, ⟨_, h2⟩ | ⟨l, o, c, cl, rfl, h3, h4, h5, h6⟩⟩, h7⟩ := h
  · cases h2
  · simp only [List.length_cons, Nat.mul_one] at h3 h5 h6
    refine ⟨l, o, c, cl, rfl, h3, h7 l rfl, h4, h5, ?_, fun y => ?_⟩
    · have := take_cell h6 (show 0 < bs.length + 1 by omega)
      rw [Nat.add_zero] at this
      rw [this]; rfl
    · have := splice_in (cl := cl) (src := [.int .u8 y.toNat]) (o := o) (m := bs.length + 1) (j := 0) (by omega) (by simp)
      simp only [Nat.add_zero] at this
      rw [this, h6]
      simp [splice, u8c]

section
variable {N : Nat} {f : Nat → Value} {s : Sls} {g : Gm} {n nm : Nat} {k : Sls → Gm → List Nat → List Nat → Prop} {d : Tmp} {ty : TypeId} {pos : String} {af : Array Edge} {gd : Option (Nat × Bool)}

theorem s_appB {b : Nat} {x y : Operand} {v w : Value} {xs ys : List UInt8} (hx : ov N s x = some v) (hy : ov N s y = some w) (hv : BytesNew b g v xs) (hw : BytesAt g w ys) (hfit : xs.length + ys.length ≤ 2 ^ 46) (hb : b ≤ nm)
    (h : ∀ a c g' tc wr, BytesNew b g' (.slice a (xs ++ ys).length c) (xs ++ ys) → Gr g g' nm v (.slice a (xs ++ ys).length c) → k ((d, .slice a (xs ++ ys).length c) :: s) g' tc wr) : ST N f s g n nm ⟨some d, .call ⟨.builtin .append, #[x, y], #[43, 43]⟩, ty, pos, af, gd⟩ k := by
  refine s_app app43 hx hy hv.1 (SlC.src hw) (u8c_one _) (by omega) fun a c g' tc wr hr hg => ?_
  have e : (xs ++ ys).length = xs.length + ys.length := List.length_append
  rw [← e] at hr hg ⊢
  refine h a c g' tc wr ⟨by rw [u8c_append]; exact hr, fun l hl => ?_⟩ hg
  rcases hg.name with q | q | q
  · rw [q] at hl; cases hl
  · rw [q] at hl; exact hv.2 l hl
  · rw [q] at hl; cases hl; exact hb

theorem s_appN {b : Nat} {x y : Operand} {w : Value} {ys : List UInt8} (hx : ov N s x = some (.slice none 0 0)) (hy : ov N s y = some w) (hw : BytesAt g w ys) (hfit : ys.length ≤ 2 ^ 46) (hb : b ≤ nm)
    (h : ∀ a c g' tc wr, BytesNew b g' (.slice a ys.length c) ys → Gr g g' nm (.slice none 0 0) (.slice a ys.length c) → k ((d, .slice a ys.length c) :: s) g' tc wr) : ST N f s g n nm ⟨some d, .call ⟨.builtin .append, #[x, y], #[43, 43]⟩, ty, pos, af, gd⟩ k :=
  s_appB (xs := []) hx hy (BytesNew.nil b g) hw (by simpa using hfit) hb h

theorem s_hiB {x hi : Operand} {v : Value} {bs : List UInt8} {j : Nat} (hx : ov N s x = some v) (hb : BytesAt g v bs) (hj : ov N s hi = some (.int .i64 (j : Int))) (hjl : j ≤ bs.length)
    (h : ∀ w, BytesAt g w (bs.take j) → k ((d, w) :: s) g [] []) : ST N f s g n nm ⟨some d, .slice 43 x none (some hi) none, ty, pos, af, gd⟩ k := by
  obtain ⟨h1, ⟨rfl, h2⟩ | ⟨rfl, h2⟩ | ⟨l, o, c, rfl, h3, h4⟩⟩ := hb
  · have : bs = [] := List.eq_nil_of_length_eq_zero h2
    subst this
    have : j = 0 := by simpa using hjl
    subst this
    exact s_slh0 un_43 sz_5 hx hj (h _ (SlC.nil _ _))
  · have : bs = [] := List.eq_nil_of_length_eq_zero h2
    subst this
    have : j = 0 := by simpa using hjl
    subst this
    exact s_slhE un_43 sz_5 hx hj (h _ ⟨rfl, .inr (.inl ⟨rfl, rfl⟩)⟩)
  · have hl : (bs.take j).length = j := by rw [List.length_take]; omega
    refine s_slh un_43 sz_5 hx hj (by omega) (h _ ⟨by rw [u8c_length]; omega, .inr (.inr ⟨l, o, c, by rw [hl], by omega, ?_⟩)⟩)
    rw [hl]
    rcases h4 with h4 | ⟨cl, ro, h4, h5, h6⟩
    · left; omega
    · refine .inr ⟨cl, ro, h4, by omega, ?_⟩
      have : ((cl.drop o).take (bs.length * 1)).take (j * 1) = (u8c bs).take (j * 1) := by rw [h6]
      rw [List.take_take, Nat.min_eq_left (by omega)] at this
      rw [this, Nat.mul_one, u8c, u8c, List.map_take]
end

end Go.Proofs.YtfchjhfccnodpaaGreat
end

section
namespace Go.Proofs.YtfchjhfccnodpaaGreat
set_option linter.unusedSimpArgs false
set_option linter.unusedVariables false

abbrev Bs := List UInt8

def be : Nat → Nat → Bs
  | 0, _ => []
  | s + 1, n => UInt8.ofNat (n / 256 ^ s) :: be s n
theorem be_length : ∀ s n, (be s n).length = s
  | 0, _ => rfl
  | s + 1, n => by simp [be, be_length s n]
def decN (a : Nat) (bs : Bs) : Nat := bs.foldl (fun n x => n * 256 + x.toNat) a
theorem dec_be : ∀ s n a, decN a (be s n) = a * 256 ^ s + n % 256 ^ s
  | 0, n, a => by simp [be, decN, Nat.mod_one]
  | s + 1, n, a => by
    show decN (a * 256 + (UInt8.ofNat (n / 256 ^ s)).toNat) (be s n) = _
    rw [dec_be s n]
    have h1 : (UInt8.ofNat (n / 256 ^ s)).toNat = n / 256 ^ s % 256 := by rw [UInt8.toNat_ofNat']
    rw [h1, Nat.pow_succ, Nat.mod_mul (a := 256 ^ s) (b := 256)]
    rw [Nat.add_mul, Nat.mul_assoc, Nat.mul_comm 256 (256 ^ s), Nat.mul_comm (n / 256 ^ s % 256)]
    omega
theorem be_inj {s a b : Nat} (ha : a < 256 ^ s) (hb : b < 256 ^ s) (h : be s a = be s b) : a = b := by
  have h1 := dec_be s a 0
  have h2 := dec_be s b 0
  rw [h] at h1
  rw [Nat.mod_eq_of_lt ha] at h1
  rw [Nat.mod_eq_of_lt hb] at h2
  omega
theorem be_pre {s a b : Nat} {x y : Bs} (ha : a < 256 ^ s) (hb : b < 256 ^ s) (h : be s a ++ x = be s b ++ y) : a = b ∧ x = y := by
  obtain ⟨h1, h2⟩ := List.append_inj h (by rw [be_length, be_length])
  exact ⟨be_inj ha hb h1, h2⟩

def txt (s : Bs) : Bs := be 2 s.length ++ s
theorem txt_pre {s t x y : Bs} (hs : s.length < 65536) (ht : t.length < 65536) (h : txt s ++ x = txt t ++ y) : s = t ∧ x = y := by
  unfold txt at h
  rw [List.append_assoc, List.append_assoc] at h
  obtain ⟨h1, h2⟩ := be_pre (s := 2) (by omega) (by omega) h
  exact List.append_inj h2 h1

def bit (b : Bool) : Nat := match b with
  | true => 1
  | false => 0
theorem bit_inj {a b : Bool} (h : bit a = bit b) : a = b := by cases a <;> cases b <;> first | rfl | cases h
theorem bit_lt (a : Bool) : bit a < 256 ^ 1 := by cases a <;> decide

structure Gd where
  key : Bs
  rev : Int
  under : Bool
deriving DecidableEq
structure Wr where
  key : Bs
  val : Bs
  gone : Bool
deriving DecidableEq
structure Cal where
  from_ : Int
  id : Int
  kind : Int
  key : Bs
  rev : Int
  gs : List Gd
  ws : List Wr

def putG (x : Gd) : Bs := txt x.key ++ (be 8 x.rev.toNat ++ be 1 (bit x.under))
def putW (x : Wr) : Bs := txt x.key ++ (txt x.val ++ be 1 (bit x.gone))

def keyOk (k : Bs) : Prop := 1 ≤ k.length ∧ k.length ≤ 20
def revOk (n : Int) : Prop := 0 ≤ n ∧ n ≤ 1099511627776
def Gd.may (x : Gd) : Prop := keyOk x.key ∧ revOk x.rev
def Wr.may (x : Wr) : Prop := keyOk x.key ∧ x.val.length ≤ 4000
def txnOk (gs : List Gd) (ws : List Wr) : Prop := gs.length ≤ 20 ∧ ws.length ≤ 64 ∧ (∀ x ∈ gs, x.may) ∧ ∀ x ∈ ws, x.may

def Cal.bare (c : Cal) : Cal := ⟨c.from_, c.id, c.kind, if c.kind = 1 then c.key else [], if c.kind = 3 then c.rev else 0, if c.kind = 4 then c.gs else [], if c.kind = 4 then c.ws else []⟩
def Cal.may (c : Cal) : Prop := (0 ≤ c.from_ ∧ c.from_ ≤ 7 ∧ 1 ≤ c.id ∧ c.id ≤ 1099511627776 ∧ c = c.bare) ∧
  (c.kind = 1 ∧ keyOk c.key ∨ c.kind = 2 ∨ c.kind = 3 ∧ revOk c.rev ∨ c.kind = 4 ∧ txnOk c.gs c.ws)

def Cal.out (c : Cal) : Bs := be 1 c.kind.toNat ++ (be 1 c.from_.toNat ++ (be 8 c.id.toNat ++ (txt c.key ++ (be 8 c.rev.toNat ++ (be 1 c.gs.length ++ (c.gs.flatMap putG ++ (be 1 c.ws.length ++ c.ws.flatMap putW)))))))
open Classical in
noncomputable def Cal.put (c : Cal) : Bs := if c.may then c.out else []
def Cal.zero : Cal := ⟨0, 0, 0, [], 0, [], []⟩

theorem Cal.put_yes {c : Cal} (h : c.may) : c.put = c.out := if_pos h
theorem Cal.put_no {c : Cal} (h : ¬ c.may) : c.put = [] := if_neg h
theorem Cal.out_ne (c : Cal) : c.out ≠ [] := fun h => by
  have := congrArg List.length h
  simp [Cal.out, be_length] at this
theorem Cal.may_of_put {c : Cal} (h : c.put ≠ []) : c.may := by
  by_cases hc : c.may
  · exact hc
  · exact absurd (Cal.put_no hc) h

theorem flat_pre {α : Type} {f : α → Bs} {p : α → Prop} (hf : ∀ a b x y, p a → p b → f a ++ x = f b ++ y → a = b ∧ x = y) : ∀ {us bs : List α} {x y : Bs}, (∀ a ∈ us, p a) → (∀ b ∈ bs, p b) → us.length = bs.length → us.flatMap f ++ x = bs.flatMap f ++ y → us = bs ∧ x = y
  | [], [], x, y, _, _, _, h => ⟨rfl, h⟩
  | [], b :: bs, _, _, _, _, hl, _ => by cases hl
  | a :: us, [], _, _, _, _, hl, _ => by cases hl
  | a :: us, b :: bs, x, y, ha, hb, hl, h => by
    rw [List.flatMap_cons, List.flatMap_cons, List.append_assoc, List.append_assoc] at h
    obtain ⟨rfl, h2⟩ := hf _ _ _ _ (ha a (List.mem_cons_self ..)) (hb b (List.mem_cons_self ..)) h
    obtain ⟨rfl, h3⟩ := flat_pre hf (fun z hz => ha z (List.mem_cons_of_mem _ hz)) (fun z hz => hb z (List.mem_cons_of_mem _ hz)) (by simpa using hl) h2
    exact ⟨rfl, h3⟩

theorem putG_pre (a b : Gd) (x y : Bs) (ha : a.may) (hb : b.may) (h : putG a ++ x = putG b ++ y) : a = b ∧ x = y := by
  unfold putG at h
  simp only [List.append_assoc] at h
  obtain ⟨⟨_, a1⟩, a2, a3⟩ := ha
  obtain ⟨⟨_, b1⟩, b2, b3⟩ := hb
  obtain ⟨h1, i1⟩ := txt_pre (by omega) (by omega) h
  obtain ⟨h2, i2⟩ := be_pre (s := 8) (by omega) (by omega) i1
  obtain ⟨h3, i3⟩ := be_pre (s := 1) (bit_lt _) (bit_lt _) i2
  have h4 : a.rev = b.rev := by omega
  have h5 := bit_inj h3
  clear h h2 h3 i1 i2
  cases a; cases b
  simp only at h1 h4 h5
  subst h1 h4 h5
  exact ⟨rfl, i3⟩
theorem putW_pre (a b : Wr) (x y : Bs) (ha : a.may) (hb : b.may) (h : putW a ++ x = putW b ++ y) : a = b ∧ x = y := by
  unfold putW at h
  simp only [List.append_assoc] at h
  obtain ⟨⟨_, a1⟩, a2⟩ := ha
  obtain ⟨⟨_, b1⟩, b2⟩ := hb
  obtain ⟨h1, i1⟩ := txt_pre (by omega) (by omega) h
  obtain ⟨h2, i2⟩ := txt_pre (by omega) (by omega) i1
  obtain ⟨h3, i3⟩ := be_pre (s := 1) (bit_lt _) (bit_lt _) i2
  have h5 := bit_inj h3
  clear h h3 i1 i2
  cases a; cases b
  simp only at h1 h2 h5
  subst h1 h2 h5
  exact ⟨rfl, i3⟩

theorem Cal.ext' {a b : Cal} (h1 : a.from_ = b.from_) (h2 : a.id = b.id) (h3 : a.kind = b.kind) (h4 : a.key = b.key) (h5 : a.rev = b.rev) (h6 : a.gs = b.gs) (h7 : a.ws = b.ws) : a = b := by
  cases a; cases b; simp_all

theorem Cal.may.sizes {c : Cal} (h : c.may) : (0 ≤ c.kind ∧ c.kind < 256) ∧ c.key.length ≤ 20 ∧ revOk c.rev ∧ txnOk c.gs c.ws := by
  obtain ⟨⟨_, _, _, _, hb⟩, h⟩ := h
  have e1 : c.key = if c.kind = 1 then c.key else [] := congrArg Cal.key hb
  have e2 : c.rev = if c.kind = 3 then c.rev else 0 := congrArg Cal.rev hb
  have e3 : c.gs = if c.kind = 4 then c.gs else [] := congrArg Cal.gs hb
  have e4 : c.ws = if c.kind = 4 then c.ws else [] := congrArg Cal.ws hb
  have t0 : txnOk [] [] := ⟨by decide, by decide, (fun x h => nomatch h), (fun x h => nomatch h)⟩
  have r0 : revOk 0 := ⟨by decide, by decide⟩
  rcases h with ⟨hk, h⟩ | hk | ⟨hk, h⟩ | ⟨hk, h⟩
  · rw [if_neg (by omega)] at e2 e3 e4
    rw [e2, e3, e4]
    exact ⟨by omega, h.2, r0, t0⟩
  · rw [if_neg (by omega)] at e1 e2 e3 e4
    rw [e1, e2, e3, e4]
    exact ⟨by omega, by decide, r0, t0⟩
  · rw [if_neg (by omega)] at e1 e3 e4
    rw [e1, e3, e4]
    exact ⟨by omega, by decide, h, t0⟩
  · rw [if_neg (by omega)] at e1 e2
    rw [e1, e2]
    exact ⟨by omega, by decide, r0, h⟩

theorem Cal.put_inj {a b : Cal} (ha : a.may) (hb : b.may) (h : a.put = b.put) : a = b := by
  rw [Cal.put_yes ha, Cal.put_yes hb] at h
  obtain ⟨⟨a1, a2⟩, a3, ⟨a4, a5⟩, a6, a7, a8, a9⟩ := ha.sizes
  obtain ⟨⟨b1, b2⟩, b3, ⟨b4, b5⟩, b6, b7, b8, b9⟩ := hb.sizes
  obtain ⟨⟨a10, a11, a12, a13, _⟩, _⟩ := ha
  obtain ⟨⟨b10, b11, b12, b13, _⟩, _⟩ := hb
  unfold Cal.out at h
  obtain ⟨h1, h⟩ := be_pre (s := 1) (by omega) (by omega) h
  obtain ⟨h2, h⟩ := be_pre (s := 1) (by omega) (by omega) h
  obtain ⟨h3, h⟩ := be_pre (s := 8) (by omega) (by omega) h
  obtain ⟨h4, h⟩ := txt_pre (by omega) (by omega) h
  obtain ⟨h5, h⟩ := be_pre (s := 8) (by omega) (by omega) h
  obtain ⟨h6, h⟩ := be_pre (s := 1) (by omega) (by omega) h
  obtain ⟨h7, h⟩ := flat_pre putG_pre a8 b8 h6 h
  obtain ⟨h8, h⟩ := be_pre (s := 1) (by omega) (by omega) h
  have h : a.ws.flatMap putW ++ [] = b.ws.flatMap putW ++ [] := by rw [h]
  obtain ⟨h9, _⟩ := flat_pre putW_pre a9 b9 h8 h
  exact Cal.ext' (by omega) (by omega) (by omega) h4 (by omega) h7 h9

theorem Cal.put_len (c : Cal) : c.put.length ≤ 2 ^ 20 := by
  by_cases hc : c.may
  · rw [Cal.put_yes hc]
    obtain ⟨_, h3, _, h6, h7, h8, h9⟩ := hc.sizes
    have hG : ∀ l : List Gd, (∀ x ∈ l, x.may) → (l.flatMap putG).length ≤ l.length * 40 := by
      intro l
      induction l with
      | nil => intro _; exact Nat.le_refl _
      | cons x r ih =>
        intro h
        have h1 := ih fun z hz => h z (List.mem_cons_of_mem _ hz)
        have h2 := (h x (List.mem_cons_self ..)).1.2
        rw [List.flatMap_cons, List.length_append]
        simp only [putG, txt, List.length_append, be_length, List.length_cons]
        omega
    have hW : ∀ l : List Wr, (∀ x ∈ l, x.may) → (l.flatMap putW).length ≤ l.length * 4040 := by
      intro l
      induction l with
      | nil => intro _; exact Nat.le_refl _
      | cons x r ih =>
        intro h
        have h1 := ih fun z hz => h z (List.mem_cons_of_mem _ hz)
        have h2 := (h x (List.mem_cons_self ..)).1.2
        have h3 := (h x (List.mem_cons_self ..)).2
        rw [List.flatMap_cons, List.length_append]
        simp only [putW, txt, List.length_append, be_length, List.length_cons]
        omega
    have a := hG _ h8
    have b := hW _ h9
    simp only [Cal.out, txt, List.length_append, be_length]
    omega
  · rw [Cal.put_no hc]; exact Nat.zero_le _

end Go.Proofs.YtfchjhfccnodpaaGreat
end

section
open Go.Proofs
namespace Go.Proofs.YtfchjhfccnodpaaGreat
set_option linter.unusedSimpArgs false
set_option linter.unusedVariables false
set_option maxRecDepth 100000

def callB' (lo : List Nat) : List Rec → Bool
  | [] => true
  | d :: D => (match memN d.i lo with
    | true => d.alloc || (match d.wrt with
      | [] => true
      | _ :: _ => false)
    | false => true) && callB' lo D
theorem call_b' {lo : List Nat} : ∀ {D : List Rec}, callB' lo D = true → callS lo D
  | [], _ => trivial
  | d :: D, h => by
    simp only [callB', Bool.and_eq_true] at h
    refine ⟨?_, call_b' h.2⟩
    have h1 := h.1
    cases hm : memN d.i lo with
    | false => exact trivial
    | true =>
      rw [hm] at h1
      simp only [Bool.or_eq_true] at h1
      show d.alloc = true ∨ d.wrt = []
      rcases h1 with h1 | h1
      · exact .inl h1
      · right
        split at h1
        · assumption
        · cases h1

section
variable {N : Nat} {f : Nat → Value} {s : Sls} {g : Gm} {n nm : Nat} {k : Sls → Gm → List Nat → List Nat → Prop} {d : Tmp} {ty : TypeId} {pos : String} {af : Array Edge} {gd : Option (Nat × Bool)}

theorem st_bin {op : BinOp} {t t2 : TypeId} {x y : Operand} {u v r : Value} (hx : ov N s x = some u) (hy : ov N s y = some v) (hu : plainV u = true) (hv : plainV v = true) (hr : plainV r = true)
    (h : pureRun E6.P (do eqGuard op t x y u v; Go.binOp op t u v) = some r) (hk : k ((d, r) :: s) g [] []) : ST N f s g n nm ⟨some d, .binOp op t x y t2, ty, pos, af, gd⟩ k := by
  refine st_val (v := r) rfl ?_ hk
  simp only [aop, aBin, ov_ok hx, ov_ok hy, Option.bind_some, hu, hv, Bool.and_self, if_true, pureVal, h, hr, Option.map_some]

theorem s_shl {t t2 : TypeId} {x y : Operand} {yk : IntKind} {a b : Int} {j : Nat} (hx : ov N s x = some (.int .i64 a)) (hy : ov N s y = some (.int yk b)) (hb : b = (j : Int)) (hj : j ≤ 64)
    (hk : k ((d, .int .i64 (IntKind.i64.wrap (a * 2 ^ j))) :: s) g [] []) : ST N f s g n nm ⟨some d, .binOp .shl t x y t2, ty, pos, af, gd⟩ k := by
  subst hb
  refine st_bin hx hy rfl rfl rfl ?_ hk
  have h1 : (do eqGuard .shl t x y (.int .i64 a) (.int yk (j : Int)); Go.binOp .shl t (.int .i64 a) (.int yk (j : Int)) : Sem Value) = Op.shift .shl .i64 a yk (j : Int) := rfl
  rw [h1]
  unfold Op.shift
  rw [if_neg (by omega), Int.toNat_natCast, Nat.min_eq_left (by exact hj)]
  rfl
theorem s_shr {t t2 : TypeId} {x y : Operand} {yk : IntKind} {a b : Int} {j : Nat} (hx : ov N s x = some (.int .i64 a)) (hy : ov N s y = some (.int yk b)) (hb : b = (j : Int)) (hj : j ≤ 64)
    (hk : k ((d, .int .i64 (a.fdiv (2 ^ j))) :: s) g [] []) : ST N f s g n nm ⟨some d, .binOp .shr t x y t2, ty, pos, af, gd⟩ k := by
  subst hb
  refine st_bin hx hy rfl rfl rfl ?_ hk
  have h1 : (do eqGuard .shr t x y (.int .i64 a) (.int yk (j : Int)); Go.binOp .shr t (.int .i64 a) (.int yk (j : Int)) : Sem Value) = Op.shift .shr .i64 a yk (j : Int) := rfl
  rw [h1]
  unfold Op.shift
  rw [if_neg (by omega), Int.toNat_natCast, Nat.min_eq_left (by exact hj)]
  rfl
def orV (a b : Int) : Int := IntKind.i64.wrap (BitVec.ofInt 64 a ||| BitVec.ofInt 64 b).toNat
theorem s_or {t t2 : TypeId} {x y : Operand} {a b : Int} (hx : ov N s x = some (.int .i64 a)) (hy : ov N s y = some (.int .i64 b))
    (hk : k ((d, .int .i64 (orV a b)) :: s) g [] []) : ST N f s g n nm ⟨some d, .binOp .or t x y t2, ty, pos, af, gd⟩ k := by
  refine st_bin hx hy rfl rfl rfl ?_ hk
  have h1 : (do eqGuard .or t x y (.int .i64 a) (.int .i64 b); Go.binOp .or t (.int .i64 a) (.int .i64 b) : Sem Value) = Op.intBits .or .i64 a b := rfl
  rw [h1]
  rfl

theorem s_b2i {t u : TypeId} {x : Operand} {a : Int} (ht : E6.P.underlying t = some (.int .u8)) (hu : E6.P.underlying u = some (.int .i64)) (hx : ov N s x = some (.int .u8 a)) (h0 : 0 ≤ a) (h1 : a < 256)
    (hk : k ((d, .int .i64 a) :: s) g [] []) : ST N f s g n nm ⟨some d, .convert t u x, ty, pos, af, gd⟩ k := by
  refine st_val rfl ?_ hk
  have h1 : pureRun E6.P (convert t u (.int .u8 a)) = some (.int .i64 a) := by
    unfold convert
    rw [pureRun_bind E6.P _ _ (pureRun_underlying ht), pureRun_bind E6.P _ _ (pureRun_underlying hu)]
    have : IntKind.i64.wrap a = a := wrap_id (by omega) (by omega)
    show some (Value.int .i64 (IntKind.i64.wrap a)) = _
    rw [this]
  have h2 : pureVal E6.P (convert t u (.int .u8 a)) = some (Prim.ofVal (.int .i64 a)) := by
    unfold pureVal
    rw [h1]; rfl
  simp only [aop, aConvert, ov_ok hx, Option.bind_some, ht, hu]
  rw [if_pos (show plainV (.int .u8 a) = true from rfl), h2]
  rfl

theorem s_hiC {t e : TypeId} {kk : Nat} {x hi : Operand} {v : Value} {m j : Nat} {cs : List Value} (ht : E6.P.underlying t = some (.slice e)) (hz : szO E6.P e = some kk) (hx : ov N s x = some v) {gg : Gm} (hb : SlC gg kk v m cs) (hj : ov N s hi = some (.int .i64 (j : Int))) (hjl : j ≤ m)
    (h : ∀ a c, SlC gg kk (.slice a j c) j (cs.take (j * kk)) → (∀ x, vname (.slice a j c) = some x → vname v = some x) → k ((d, .slice a j c) :: s) g [] []) : ST N f s g n nm ⟨some d, .slice t x none (some hi) none, ty, pos, af, gd⟩ k := by
  obtain ⟨h1, ⟨rfl, h2⟩ | ⟨rfl, h2⟩ | ⟨l, o, c, rfl, h3, h4⟩⟩ := hb
  · subst h2
    have : cs = [] := List.eq_nil_of_length_eq_zero (by omega)
    subst this
    have : j = 0 := by omega
    subst this
    exact s_slh0 ht hz hx hj (h _ _ (by simpa using SlC.nil gg kk) fun x hx => hx)
  · subst h2
    have : cs = [] := List.eq_nil_of_length_eq_zero (by omega)
    subst this
    have : j = 0 := by omega
    subst this
    exact s_slhE ht hz hx hj (h _ _ ⟨by simp, .inr (.inl ⟨rfl, rfl⟩)⟩ fun x hx => hx)
  · have hm : j * kk ≤ m * kk := Nat.mul_le_mul_right _ hjl
    refine s_slh ht hz hx hj (by omega) (h _ _ ⟨by rw [List.length_take]; omega, .inr (.inr ⟨l, o, c, rfl, by omega, ?_⟩)⟩ fun x hx => hx)
    rcases h4 with h4 | ⟨cl, ro, h4, h5, h6⟩
    · left; omega
    · refine .inr ⟨cl, ro, h4, by omega, ?_⟩
      rw [← h6, List.take_take, Nat.min_eq_left hm]

theorem s_loB {b : Nat} {x lo : Operand} {v : Value} {bs : List UInt8} {j : Nat} (hx : ov N s x = some v) (hb : BytesNew b g v bs) (hj : ov N s lo = some (.int .i64 (j : Int))) (hjl : j ≤ bs.length)
    (h : ∀ a c tc, BytesNew b g (.slice a (bs.drop j).length c) (bs.drop j) → k ((d, .slice a (bs.drop j).length c) :: s) g tc []) : ST N f s g n nm ⟨some d, .slice 43 x (some lo) none none, ty, pos, af, gd⟩ k := by
  obtain ⟨⟨h1, ⟨rfl, h2⟩ | ⟨l, o, c, cl, rfl, h3, h4, h5, h6⟩⟩, h7⟩ := hb
  · have : bs = [] := List.eq_nil_of_length_eq_zero h2
    subst this
    have : j = 0 := by simpa using hjl
    subst this
    refine st_val (v := .slice none 0 0) rfl ?_ (h none 0 [] ⟨SlOwn.nil _ _, fun l hl => by cases hl⟩)
    simp [aop, aSlice, un_43, sz_5, ov_ok hx, ov_ok hj, boundO]
  · have e : (bs.drop j).length = bs.length - j := List.length_drop
    refine s_sll un_43 sz_5 hx hj hjl h3 h4 fun tc => ?_
    rw [← e]
    refine h _ _ tc ⟨⟨by rw [u8c_length]; omega, .inr ⟨l, _, _, cl, rfl, by omega, h4, by omega, ?_⟩⟩, fun x hx => by cases hx; exact h7 l rfl⟩
    have : ((cl.drop o).take (bs.length * 1)).drop j = (u8c bs).drop j := by rw [h6]
    rw [List.drop_take, List.drop_drop] at this
    rw [e, Nat.mul_one, Nat.mul_one, show bs.length - j = bs.length * 1 - j by omega, this, u8c, u8c, List.map_drop]
end

theorem bi_mul {P : Program} {t : TypeId} {a b c : Int} (h : a * b = c) (h1 : -9223372036854775808 ≤ c) (h2 : c ≤ 9223372036854775807) : binS P .mul t (.int .i64 a) (.int .i64 b) = some (.int .i64 c) := by
  subst h
  simp only [binS, if_true, intV, wrap_id h1 h2]

theorem pureRun_bind2 {α β : Type} (P : Program) (s : Sem α) (f : α → Sem β) : pureRun P (s >>= f) = (pureRun P s).bind fun v => pureRun P (f v) := by
  induction s with
  | pure b => rfl
  | program k ih => exact ih P
  | _ => rfl

theorem pr_program (P : Program) : pureRun P program = some P := rfl
theorem pr_struct {P : Program} (d : Nat) (t : TypeId) (xs ys : Array Value) {fs : Array Field} (ht : P.underlying t = some (.struct fs)) (hp : P.stoodInHeld t = false) :
    pureRun P (Op.equalIn (d + 1) t (.agg xs) (.agg ys)) = pureRun P (Op.eqFields d xs ys fs.toList) := by
  simp only [Op.equalIn, pureRun_bind2, pureRun_underlying ht, Option.bind_some, pr_program, hp, Bool.false_eq_true, if_false]
  rw [← Array.forIn_toList]
  generalize fs.toList = l
  clear ht
  induction l with
  | nil => rfl
  | cons f l ih =>
    simp only [List.forIn_cons, Op.eqFields]
    by_cases hf : f.name ≠ "_"
    · rw [if_pos hf, if_pos hf]
      simp only [pureRun_bind2]
      cases h1 : pureRun P (part f.type xs f.offset) with
      | none => rfl
      | some a =>
        simp only [Option.bind_some]
        cases h2 : pureRun P (part f.type ys f.offset) with
        | none => rfl
        | some b =>
          simp only [Option.bind_some]
          cases h3 : pureRun P (Op.equalIn d f.type a b) with
          | none => rfl
          | some r =>
            cases r
            · rfl
            · exact ih
    · rw [if_neg hf, if_neg hf]
      exact ih

theorem eq36 (a b : Bs) (c d : Int) (e f : Bool) : pureRun E6.P (Op.equal 172 (.agg [.string (str a), .int .i64 c, .bool e].toArray) (.agg [.string (str b), .int .i64 d, .bool f].toArray)) = some (decide (a = b ∧ c = d ∧ e = f)) := by
  have hst : E6.P.stoodInHeld 172 = false := id (by kernel_rfl)
  have g9 : ∀ (x y : Bs), pureRun E6.P (Op.equalIn 9999 9 (.string (str x)) (.string (str y))) = some (decide (x = y)) := fun x y => by
    unfold Op.equalIn
    rw [pureRun_bind E6.P _ _ (pureRun_underlying un_9)]
    show some ((str x) == (str y)) = _
    rw [beq_toListBytes, str_eq]
  have g2 : ∀ (x y : Int), pureRun E6.P (Op.equalIn 9999 2 (.int .i64 x) (.int .i64 y)) = some (decide (x = y)) := fun x y => by
    unfold Op.equalIn
    rw [pureRun_bind E6.P _ _ (pureRun_underlying un_2)]
    show some (x == y) = _
    congr 1
  have g4 : ∀ (x y : Bool), pureRun E6.P (Op.equalIn 9999 4 (.bool x) (.bool y)) = some (decide (x = y)) := fun x y => by
    unfold Op.equalIn
    rw [pureRun_bind E6.P _ _ (pureRun_underlying un_4)]
    show some (x == y) = _
    cases x <;> cases y <;> rfl
  have ia : ∀ t dd, E6.P.underlying t = some dd → (∀ fs, dd ≠ .struct fs) → (∀ n e, dd ≠ .array n e) → pureRun E6.P (isAgg t) = some false := fun t dd h h1 h2 => by
    unfold isAgg
    rw [pureRun_bind E6.P _ _ (pureRun_underlying h)]
    cases dd <;> first | rfl | exact absurd rfl (h1 _) | exact absurd rfl (h2 _ _)
  have i9 := ia 9 _ un_9 (fun _ h => by cases h) (fun _ _ h => by cases h)
  have i2 := ia 2 _ un_2 (fun _ h => by cases h) (fun _ _ h => by cases h)
  have i4 := ia 4 _ un_4 (fun _ h => by cases h) (fun _ _ h => by cases h)
  have p9 : ∀ (x : ByteArray) (y z : Value), pureRun E6.P (part 9 [.string x, y, z].toArray 0) = some (.string x) := fun x y z => by
    unfold part; rw [pureRun_bind E6.P _ _ i9]; rfl
  have p2 : ∀ (x : Value) (y : Int) (z : Value), pureRun E6.P (part 2 [x, .int .i64 y, z].toArray 1) = some (.int .i64 y) := fun x y z => by
    unfold part; rw [pureRun_bind E6.P _ _ i2]; rfl
  have p4 : ∀ (x y : Value) (z : Bool), pureRun E6.P (part 4 [x, y, .bool z].toArray 2) = some (.bool z) := fun x y z => by
    unfold part; rw [pureRun_bind E6.P _ _ i4]; rfl
  unfold Op.equal Op.maxDepth
  rw [pr_struct 9999 172 _ _ (show E6.P.underlying 172 = _ from Tryz.underlying172) hst]
  simp only [Op.eqFields]
  rw [if_pos (by decide), if_pos (by decide), if_pos (by decide)]
  simp only [pureRun_bind2, p9, p2, p4, g9, g2, g4, Option.bind_some]
  by_cases h1 : a = b
  · by_cases h2 : c = d
    · by_cases h3 : e = f
      · simp [h1, h2, h3, pureRun_pure, pureRun_bind2, p9, p2, p4, g9, g2, g4]
      · simp [h1, h2, h3, pureRun_pure, pureRun_bind2, p9, p2, p4, g9, g2, g4]
    · simp [h1, h2, pureRun_pure, pureRun_bind2, p9, p2, p4, g9, g2, g4]
  · simp [h1, pureRun_pure, pureRun_bind2, p9, p2, p4, g9, g2, g4]

section
variable {N : Nat} {f : Nat → Value} {s : Sls} {g : Gm} {n nm : Nat} {k : Sls → Gm → List Nat → List Nat → Prop} {d : Tmp} {ty : TypeId} {pos : String} {af : Array Edge} {gd : Option (Nat × Bool)}
theorem s_neG {t2 : TypeId} {x y : Operand} (p q : Gd) (hx : ov N s x = some (.agg [.string (str p.key), .int .i64 p.rev, .bool p.under].toArray)) (hy : ov N s y = some (.agg [.string (str q.key), .int .i64 q.rev, .bool q.under].toArray))
    (hk : k ((d, .bool (!(decide (p = q)))) :: s) g [] []) : ST N f s g n nm ⟨some d, .binOp .neq 172 x y t2, ty, pos, af, gd⟩ k := by
  have hd : decide (p = q) = decide (p.key = q.key ∧ p.rev = q.rev ∧ p.under = q.under) := by
    cases p; cases q; simp
  rw [hd] at hk
  refine st_bin hx hy rfl rfl rfl ?_ hk
  have h1 : (do eqGuard .neq 172 x y (.agg [.string (str p.key), .int .i64 p.rev, .bool p.under].toArray) (.agg [.string (str q.key), .int .i64 q.rev, .bool q.under].toArray); Go.binOp .neq 172 (.agg [.string (str p.key), .int .i64 p.rev, .bool p.under].toArray) (.agg [.string (str q.key), .int .i64 q.rev, .bool q.under].toArray) : Sem Value) =
      (do (do if !(← program).eqGuardType (← program).depth 172 then return
              if ← Op.eqGuardIn Op.maxDepth 172 (.agg [.string (str p.key), .int .i64 p.rev, .bool p.under].toArray) (.agg [.string (str q.key), .int .i64 q.rev, .bool q.under].toArray) then unsupported (.noEntry "binop/eql: two nil values of an interface type with methods, in a part of a struct or an array") : Sem Unit)
          pure (.bool (!(← Op.equal 172 (.agg [.string (str p.key), .int .i64 p.rev, .bool p.under].toArray) (.agg [.string (str q.key), .int .i64 q.rev, .bool q.under].toArray))))) := rfl
  rw [h1]
  have hg : E6.P.eqGuardType E6.P.depth 172 = false := id (by kernel_rfl)
  simp only [pureRun_bind2, pr_program, Option.bind_some, hg, eq36]
  rfl
end

end Go.Proofs.YtfchjhfccnodpaaGreat
end

section
open Go.Proofs
namespace Go.Proofs.YtfchjhfccnodpaaGreat
set_option linter.unusedSimpArgs false
set_option linter.unusedVariables false
set_option maxRecDepth 100000

def p0 (x : Nat) : Value := .pointer (some ⟨x, 0, none⟩)
def i0 (x : Int) : Value := .int .i64 x
def cacheC : AObj := .cells [.map none, .int .i64 (-1)] 0 false
def queueC : AObj := .cells [.slice none 0 0, .slice none 0 0, .slice none 0 0, .bool false] 0 false
def assuC : AObj := .cells [.slice none 0 0] 0 false
def elecC (me : Int) : AObj := .cells [.int .i64 me, .bool false, .bool false, .int .i64 0, .int .i64 0, .int .i64 0, .int .i64 0, .bool false, .int .i64 0, .int .i64 0, .int .i64 0] 0 false
def reliC (me id at_ : Int) (c : Nat) (out : Bool) (f i k r : Int) : AObj :=
  .cells [.int .i64 me, .int .i64 id, .pointer (some ⟨c, 0, none⟩), .bool out, .int .i64 f, .int .i64 i, .int .i64 k, .string .empty, .int .i64 r, .slice none 0 0, .slice none 0 0, .int .i64 at_, .int .i64 0] 0 false
def replC (me base : Int) (pack : Bool) (rl el q a : Nat) (asked kind : Int) : AObj :=
  .cells [.int .i64 me, .bool pack, .int .i64 base, .pointer (some ⟨rl, 0, none⟩), .pointer (some ⟨el, 0, none⟩), .pointer (some ⟨q, 0, none⟩), .pointer (some ⟨a, 0, none⟩), .slice none 0 0, .int .i64 0,
    .int .i64 asked, .int .i64 kind, .int .i64 0, .int .i64 0, .int .i64 0, .int .i64 0, .string .empty, .bool false, .int .i64 0] 0 false

theorem cacheNew_c (g : Gm) (n : Nat) : C 146 #[] g n fun u g' n' => ∃ c, u = .pointer (some ⟨c, 0, none⟩) ∧ g' c = some cacheC ∧ n ≤ c ∧ K0 g n g' := by
  refine c_in0 Tryz.func146 rfl Tryz.ntmps146 fun hw => (Na (w_reg 1 rfl rfl (j' := 1) (nA rfl (n_nil (Nc (Na (w_reg 3 rfl rfl (j' := 4) (nO (s_bld pl_177 zl_177 rfl rfl rfl (n_op .no (q := 2) rfl (s_boxa rfl (nA rfl (n_nil (Nc (Nf (z_r1 rfl rfl ?_))))))))))))))))
  exact ⟨_, rfl, gs_same _ _ _, by omega, (by repeat (first | exact Kp.refl _ _ _ | refine Kp.new ?_ (by omega) _))⟩

theorem queueNew_c (g : Gm) (n : Nat) : C 79 #[] g n fun u g' n' => ∃ c, u = .pointer (some ⟨c, 0, none⟩) ∧ g' c = some queueC ∧ n ≤ c ∧ K0 g n g' := by
  refine c_in0 Tryz.func79 rfl Tryz.ntmps79 fun hw => (Na (w_reg 1 rfl rfl (j' := 1) (nA rfl (n_nil (Nc (Na (w_reg 3 rfl rfl (j' := 4) (nO (s_bld pl_250 zl_250 rfl rfl rfl (n_op .no (q := 2) rfl (s_boxa rfl (nA rfl (n_nil (Nc (Nf (z_r1 rfl rfl ?_))))))))))))))))
  exact ⟨_, rfl, gs_same _ _ _, by omega, (by repeat (first | exact Kp.refl _ _ _ | refine Kp.new ?_ (by omega) _))⟩

theorem assuNew_c (g : Gm) (n : Nat) : C 80 #[] g n fun u g' n' => ∃ c, u = .pointer (some ⟨c, 0, none⟩) ∧ g' c = some assuC ∧ n ≤ c ∧ K0 g n g' := by
  refine c_in0 Tryz.func80 rfl Tryz.ntmps80 fun hw => (Na (w_reg 1 rfl rfl (j' := 1) (nA rfl (n_nil (Nc (Na (w_reg 3 rfl rfl (j' := 4) (nO (s_bld pl_253 zl_253 rfl rfl rfl (n_op .no (q := 2) rfl (s_boxa rfl (nA rfl (n_nil (Nc (Nf (z_r1 rfl rfl ?_))))))))))))))))
  exact ⟨_, rfl, gs_same _ _ _, by omega, (by repeat (first | exact Kp.refl _ _ _ | refine Kp.new ?_ (by omega) _))⟩

theorem elecNew_c {g : Gm} {n : Nat} {me : Int} (h0 : 0 ≤ me) (h7 : me ≤ 7) : C 78 #[.int .i64 me] g n fun u g' n' => ∃ c, u = .pointer (some ⟨c, 0, none⟩) ∧ g' c = some (elecC me) ∧ n ≤ c ∧ K0 g n g' := by
  refine c_in1 Tryz.func78 rfl Tryz.ntmps78 rfl fun hw => (Na (w_reg 1 rfl rfl (j' := 1) (nA rfl (n_nil (Nc (Na (Na (w_reg 6 rfl rfl (j' := 7) (nM rfl (nO (s_bin rfl rfl rfl (nM rfl (nG rfl rfl (decide_eq_false (Int.not_lt.2 h0)) rfl (nY rfl rfl (decide_eq_false (Int.not_lt.2 h0)) (s_bin rfl rfl rfl (nO (s_pf rfl (decide_eq_false (Int.not_lt.2 h0)) rfl (n_nil (Nc (w_no rfl (decide_eq_false (Int.not_lt.2 h7)) (Ne (Nc (Na (w_reg 4 rfl rfl (j' := 11) (nM rfl (nO (s_bld pl_247 zl_247 rfl rfl rfl (n_op .no (q := 9) rfl (s_boxa rfl (nA rfl (n_nil (Nc (Nf (z_r1 rfl rfl ?_))))))))))))))))))))))))))))))))))
  exact ⟨_, rfl, gs_same _ _ _, by omega, (by repeat (first | exact Kp.refl _ _ _ | refine Kp.new ?_ (by omega) _))⟩

theorem reliNew_c {g : Gm} {n : Nat} {me : Int} (h0 : 0 ≤ me) (h7 : me ≤ 7) : C 77 #[.int .i64 me] g n fun u g' n' =>
    ∃ r c, u = .pointer (some ⟨r, 0, none⟩) ∧ g' r = some (reliC me 0 0 c false 0 0 0 0) ∧ g' c = some cacheC ∧ n ≤ r ∧ n ≤ c ∧ r ≠ c ∧ K0 g n g' := by
  refine c_in1 Tryz.func77 rfl Tryz.ntmps77 rfl fun hw => (Na (w_reg 1 rfl rfl (j' := 1) (nA rfl (n_nil (Nc (Na (Na (w_reg 6 rfl rfl (j' := 7) (nM rfl (nO (s_bin rfl rfl rfl (nM rfl (nG rfl rfl (decide_eq_false (Int.not_lt.2 h0)) rfl (nY rfl rfl (decide_eq_false (Int.not_lt.2 h0)) (s_bin rfl rfl rfl (nO (s_pf rfl (decide_eq_false (Int.not_lt.2 h0)) rfl (n_nil (Nc (w_no rfl (decide_eq_false (Int.not_lt.2 h7)) (Ne (Nc (Na (w_reg 5 rfl rfl (j' := 12) (nM rfl (n_call .no rfl rfl rfl (C.use (cacheNew_c _ _) fun v g1 n1 hw1 hn1 hq => ?_)))))))))))))))))))))))))))
  obtain ⟨c, rfl, hc, hcn, k1⟩ := hq
  refine nO (s_bld pl_243 zl_243 rfl rfl rfl (n_op .no (q := 10) rfl (s_boxa rfl (nA rfl (n_nil (Nc (Nf (z_r1 rfl rfl ?_))))))))
  exact ⟨n + 10, c, rfl, gs_same _ _ _, (gs_ne (by omega) _).trans hc, by omega, by omega, by omega, Kp.new (k1.dn (by omega)) (by omega) _⟩

structure RepAt (b : Nat) (g : Gm) (r rl c el q a : Nat) (me base : Int) (pack : Bool) (asked kind id at_ : Int) (out : Bool) (f i k v : Int) : Prop where
  hr : g r = some (replC me base pack rl el q a asked kind)
  hrl : g rl = some (reliC me id at_ c out f i k v)
  hc : g c = some cacheC
  hel : g el = some (elecC me)
  hq : g q = some queueC
  ha : g a = some assuC
  br : b ≤ r ∧ b ≤ rl ∧ b ≤ c ∧ b ≤ el ∧ b ≤ q ∧ b ≤ a

theorem replNew_c {g : Gm} {n : Nat} {me life : Int} {pack : Bool} (h0 : 0 ≤ me) (h7 : me ≤ 7) (l0 : 0 ≤ life) (l1 : life ≤ 1000000) : C 22 #[.int .i64 me, .bool pack, .int .i64 life] g n fun u g' n' =>
    ∃ r rl c el q a, u = .pointer (some ⟨r, 0, none⟩) ∧ RepAt n g' r rl c el q a me (life * 1048576) pack 0 0 0 0 false 0 0 0 0 ∧ K0 g n g' := by
  refine c_in3 Tryz.func22 rfl Tryz.ntmps22 rfl fun hw => (Na (w_reg 1 rfl rfl (j' := 1) (nA rfl (n_nil (Nc (Na (Na (w_reg 14 rfl rfl (j' := 15) (nM rfl (nO (s_bin rfl rfl rfl (nM rfl (nG rfl rfl (decide_eq_false (Int.not_lt.2 h0)) rfl (nY rfl rfl (decide_eq_false (Int.not_lt.2 h0)) (s_bin rfl rfl rfl (nO (s_pf rfl (decide_eq_false (Int.not_lt.2 h0)) rfl (nM rfl (nG rfl rfl (decide_eq_false (Int.not_lt.2 h7)) rfl (nY rfl rfl (decide_eq_false (Int.not_lt.2 h7)) (s_bin rfl rfl rfl (nO (s_pf rfl (decide_eq_false (Int.not_lt.2 h7)) rfl (nM rfl (nG rfl rfl (decide_eq_false (Int.not_lt.2 l0)) rfl (nY rfl rfl (decide_eq_false (Int.not_lt.2 l0)) (s_bin rfl rfl rfl (nO (s_pf rfl (decide_eq_false (Int.not_lt.2 l0)) rfl (n_nil (Nc (w_no rfl (decide_eq_false (Int.not_lt.2 l1)) (Ne (Nc (Na (w_reg 13 rfl rfl (j' := 28) (nM rfl (nM rfl (nM rfl (n_op .no (q := 18) rfl (s_shl (j := 20) rfl rfl rfl (by decide) ?_)))))))))))))))))))))))))))))))))))))))))
  have e : IntKind.i64.wrap (life * 2 ^ 20) = life * 1048576 := by rw [wrap_id (by omega) (by omega)]; omega
  rw [e]
  refine nM rfl (n_call .no rfl rfl rfl (C.use (reliNew_c h0 h7) fun v g1 n1 hw1 hn1 hq => ?_))
  obtain ⟨rl, c, rfl, hrl, hc, hbl, hbc, hne, k1⟩ := hq
  refine nM rfl (n_call .no rfl rfl rfl (C.use (elecNew_c h0 h7) fun v g2 n2 hw2 hn2 hq => ?_))
  obtain ⟨el, rfl, hel, hbe, k2⟩ := hq
  refine n_call .no rfl rfl rfl (C.use (queueNew_c _ _) fun v g3 n3 hw3 hn3 hq => ?_)
  obtain ⟨q, rfl, hq, hbq, k3⟩ := hq
  refine n_call .no rfl rfl rfl (C.use (assuNew_c _ _) fun v g4 n4 hw4 hn4 hq => ?_)
  obtain ⟨a, rfl, ha, hba, k4⟩ := hq
  refine nO (s_bld pl_158 zl_158 rfl rfl rfl (n_op .no (q := 26) rfl (s_boxa rfl (nA rfl (n_nil (Nc (Nf (z_r1 rfl rfl ?_))))))))
  have l1' := hw1 _ _ hrl
  have l2 := hw1 _ _ hc
  have l3 := hw2 _ _ hel
  have l4 := hw3 _ _ hq
  have k14 : K0 g1 n1 g4 := (k2.trans0 (k3.dn (m := n1) (by omega)) (by omega)).trans0 (k4.dn (m := n1) (by omega)) (by omega)
  refine ⟨n + 26, rl, c, el, q, a, rfl, ⟨gs_same _ _ _, (gs_ne (by omega) _).trans (k14.lt l1' hrl), (gs_ne (by omega) _).trans (k14.lt l2 hc), (gs_ne (by omega) _).trans ((k3.trans0 (n' := n2) (k4.dn (m := n2) (by omega)) (by omega)).lt l3 hel), (gs_ne (by omega) _).trans (k4.lt l4 hq), (gs_ne (by omega) _).trans ha, by omega⟩, ?_⟩
  exact Kp.new ((k1.dn (m := n) (by omega)).trans0 (k14.dn (m := n) (by omega)) (by omega)) (by omega) _

end Go.Proofs.YtfchjhfccnodpaaGreat
end

section
open Go.Proofs
namespace Go.Proofs.YtfchjhfccnodpaaGreat
set_option linter.unusedSimpArgs false
set_option linter.unusedVariables false
set_option maxRecDepth 100000

section
variable {N : Nat} {f : Nat → Value} {s : Sls} {g : Gm} {n : Nat} {nm : Nat} {d : Tmp} {ty : TypeId} {pos : String} {af : Array Edge} {gd : Option (Nat × Bool)} {k : Sls → Gm → List Nat → List Nat → Prop}
theorem s_i2u {t u : TypeId} {x : Operand} {a : Int} (ht : E6.P.underlying t = some (.int .i64)) (hu : E6.P.underlying u = some (.int .u64)) (hx : ov N s x = some (.int .i64 a))
    (hk : k ((d, .int .u64 (IntKind.u64.wrap a)) :: s) g [] []) : ST N f s g n nm ⟨some d, .convert t u x, ty, pos, af, gd⟩ k := by
  refine st_val rfl ?_ hk
  have h1 : pureRun E6.P (convert t u (.int .i64 a)) = some (.int .u64 (IntKind.u64.wrap a)) := by
    unfold convert
    rw [pureRun_bind E6.P _ _ (pureRun_underlying ht), pureRun_bind E6.P _ _ (pureRun_underlying hu)]
    rfl
  have h2 : pureVal E6.P (convert t u (.int .i64 a)) = some (Prim.ofVal (.int .u64 (IntKind.u64.wrap a))) := by
    unfold pureVal
    rw [h1]; rfl
  simp only [aop, aConvert, ov_ok hx, Option.bind_some, ht, hu]
  rw [if_pos (show plainV (.int .i64 a) = true from rfl), h2]
  rfl
theorem s_i2b {t u : TypeId} {x : Operand} {a : Int} (ht : E6.P.underlying t = some (.int .i64)) (hu : E6.P.underlying u = some (.int .u8)) (hx : ov N s x = some (.int .i64 a))
    (hk : k ((d, .int .u8 (IntKind.u8.wrap a)) :: s) g [] []) : ST N f s g n nm ⟨some d, .convert t u x, ty, pos, af, gd⟩ k := by
  refine st_val rfl ?_ hk
  have h1 : pureRun E6.P (convert t u (.int .i64 a)) = some (.int .u8 (IntKind.u8.wrap a)) := by
    unfold convert
    rw [pureRun_bind E6.P _ _ (pureRun_underlying ht), pureRun_bind E6.P _ _ (pureRun_underlying hu)]
    rfl
  have h2 : pureVal E6.P (convert t u (.int .i64 a)) = some (Prim.ofVal (.int .u8 (IntKind.u8.wrap a))) := by
    unfold pureVal
    rw [h1]; rfl
  simp only [aop, aConvert, ov_ok hx, Option.bind_some, ht, hu]
  rw [if_pos (show plainV (.int .i64 a) = true from rfl), h2]
  rfl
end

theorem u64_id {a : Int} (h0 : 0 ≤ a) (h1 : a < 2 ^ 62) : IntKind.u64.wrap a = a := by
  simp only [IntKind.wrap, IntKind.bits, IntKind.signed]
  simp
  omega

theorem bi_subu {x y : Int} (h0 : 0 ≤ x - y) (h1 : x - y < 2 ^ 62) : binS E6.P .sub 275 (.int .u64 x) (.int .u64 y) = some (.int .u64 (x - y)) := by
  have : binS E6.P .sub 275 (.int .u64 x) (.int .u64 y) = some (.int .u64 (IntKind.u64.wrap (x - y))) := by
    rfl
  rw [this, u64_id h0 h1]

theorem late153_c {g : Gm} {n : Nat} {a b : Int} (h0 : 0 ≤ b) (h1 : b ≤ a) (h2 : a < 2 ^ 62) : C 153 #[i0 a, i0 b] g n fun u g' n' => u = .bool (decide (200 ≤ a - b)) ∧ K0 g n g' := by
  unfold i0
  refine c_in2 Tryz.func153 rfl Tryz.ntmps153 rfl fun hw => (Na (w_reg 1 rfl rfl (j' := 1) (nA rfl (n_nil (Nc (Na (w_reg 12 rfl rfl (j' := 13) (nM rfl (nM rfl (nO (s_bin rfl rfl rfl (nM rfl (nG rfl rfl (decide_eq_true h1) rfl (n_op (.yes rfl rfl (decide_eq_true h1)) (q := 6) rfl (s_i2u un_2 un_275 rfl ?_)))))))))))))))
  rw [u64_id (by omega) (by omega)]
  refine nG rfl rfl (decide_eq_true h1) rfl (n_op (.yes rfl rfl (decide_eq_true h1)) (q := 8) rfl (s_i2u un_2 un_275 rfl ?_))
  rw [u64_id h0 (by omega)]
  refine nY rfl rfl (decide_eq_true h1) (s_bin rfl rfl (bi_subu (by omega) (by omega)) (nY rfl rfl (decide_eq_true h1) (s_bin rfl rfl rfl (nO (s_pt rfl (decide_eq_true h1) rfl (nA rfl (n_nil (Nc (Nf (z_r1 rfl rfl ?_))))))))))
  exact ⟨rfl, (by repeat (first | exact Kp.refl _ _ _ | refine Kp.new ?_ (by omega) _))⟩


def call0 (me id kind : Int) : List Value := [.int .i64 me, .int .i64 id, .int .i64 kind, .string .empty, .int .i64 0, .slice none 0 0, .slice none 0 0]

theorem relCache_c {g : Gm} {n rl c : Nat} {me id at_ : Int} {out : Bool} {x i k v : Int} (h : g rl = some (reliC me id at_ c out x i k v)) : C 82 #[p0 rl] g n fun u g' n' => u = p0 c ∧ K0 g n g' := by
  unfold p0
  refine c_in1 Tryz.func82 rfl Tryz.ntmps82 rfl fun hw => (Na (w_reg 1 rfl rfl (j' := 1) (nA rfl (n_nil (Nc (Na (Na (w_reg 2 rfl rfl (j' := 3) (nM rfl (nO (s_bin rfl rfl (bi_d un_148 rfl) ?_)))))))))))
  refine n_nil (Nc (w_no rfl (rfl) (Ne (Nc (Na (w_reg 5 rfl rfl (j' := 8) (nM rfl (nN rfl (nO (s_fa0 rfl fo_243_2 (nO (sL rfl ag_81 ?_))))))))))))
  refine nA rfl (n_nil (Nc (Nf (z_r1 rfl rfl ?_))))
  exact ⟨rfl, (by repeat (first | exact Kp.refl _ _ _ | refine Kp.new ?_ (by omega) _))⟩

theorem elTerm_c {g : Gm} {n el : Nat} {me : Int} (h : g el = some (elecC me)) : C 83 #[p0 el] g n fun u g' n' => u = i0 0 ∧ K0 g n g' := by
  unfold p0 i0
  refine c_in1 Tryz.func83 rfl Tryz.ntmps83 rfl fun hw => (Na (w_reg 1 rfl rfl (j' := 1) (nA rfl (n_nil (Nc (Na (Na (w_reg 2 rfl rfl (j' := 3) (nM rfl (nO (s_bin rfl rfl (bi_d un_150 rfl) ?_)))))))))))
  refine n_nil (Nc (w_no rfl (rfl) (Ne (Nc (Na (w_reg 5 rfl rfl (j' := 8) (nM rfl (nN rfl (nO (s_fa0 rfl fo_247_8 (nO (sL rfl ag_2 ?_))))))))))))
  refine nA rfl (n_nil (Nc (Nf (z_r1 rfl rfl ?_))))
  exact ⟨rfl, (by repeat (first | exact Kp.refl _ _ _ | refine Kp.new ?_ (by omega) _))⟩

theorem cacheRev_c {g : Gm} {n c : Nat} (h : g c = some cacheC) : C 28 #[p0 c] g n fun u g' n' => u = i0 (-1) ∧ K0 g n g' := by
  unfold p0 i0
  refine c_in1 Tryz.func28 rfl Tryz.ntmps28 rfl fun hw => (Na (w_reg 1 rfl rfl (j' := 1) (nA rfl (n_nil (Nc (Na (Na (w_reg 2 rfl rfl (j' := 3) (nM rfl (nO (s_bin rfl rfl (bi_d un_81 rfl) ?_)))))))))))
  refine n_nil (Nc (w_no rfl (rfl) (Ne (Nc (Na (w_reg 5 rfl rfl (j' := 8) (nM rfl (nN rfl (nO (s_fa0 rfl fo_177_1 (nO (sL rfl ag_2 ?_))))))))))))
  refine nA rfl (n_nil (Nc (Nf (z_r1 rfl rfl ?_))))
  exact ⟨rfl, (by repeat (first | exact Kp.refl _ _ _ | refine Kp.new ?_ (by omega) _))⟩

theorem elLeads_c {g : Gm} {n el : Nat} {me now : Int} (h : g el = some (elecC me)) : C 98 #[p0 el, i0 now] g n fun u g' n' => u = .bool false ∧ K0 g n g' := by
  unfold p0 i0
  refine c_in2 Tryz.func98 rfl Tryz.ntmps98 rfl fun hw => (Na (w_reg 1 rfl rfl (j' := 1) (nA rfl (n_nil (Nc (Na (w_reg 18 rfl rfl (j' := 19) (nM rfl (nO (s_bin rfl rfl (bi_d un_150 rfl) ?_))))))))))
  refine nM rfl (nG rfl rfl (rfl) rfl (nY rfl rfl (rfl) (s_nil rfl (nY rfl rfl (rfl) (s_fa0 rfl fo_247_8 (nY rfl rfl (rfl) (sL rfl ag_2 ?_)))))))
  refine nY rfl rfl (rfl) (s_bin rfl rfl rfl (nO (s_pt rfl (rfl) rfl (nM rfl (nSk rfl rfl (rfl) rfl 5 rfl (nO (s_pf rfl (rfl) rfl (nA rfl (n_nil (Nc (Nf (z_r1 rfl rfl ?_))))))))))))
  exact ⟨rfl, (by repeat (first | exact Kp.refl _ _ _ | refine Kp.new ?_ (by omega) _))⟩

theorem elWants_c {g : Gm} {n el : Nat} {me now : Int} (h : g el = some (elecC me)) : C 160 #[p0 el, i0 now] g n fun u g' n' => u = .bool false ∧ K0 g n g' := by
  unfold p0 i0
  refine c_in2 Tryz.func160 rfl Tryz.ntmps160 rfl fun hw => (Na (w_reg 1 rfl rfl (j' := 1) (nA rfl (n_nil (Nc (Na (Nb (Na (w_reg 6 rfl rfl (j' := 7) (nM rfl (nN rfl (nO (s_fa0 rfl fo_247_1 (nO (sL rfl ag_4 ?_)))))))))))))))
  refine nO (s_not rfl (nA rfl (n_nil (Nc (w_yes rfl (rfl) (Na (w_reg 1 rfl rfl (j' := 8) (nA rfl (n_nil (Nc (Nf (z_r1 rfl rfl ?_))))))))))))
  exact ⟨rfl, (by repeat (first | exact Kp.refl _ _ _ | refine Kp.new ?_ (by omega) _))⟩

theorem idx0_c {g : Gm} {n : Nat} {w : Value} : C 253 #[.slice none 0 0, w] g n fun u g' n' => u = i0 (-1) ∧ K0 g n g' := by
  unfold i0
  refine c_in2 Tryz.func253 rfl Tryz.ntmps253 rfl fun hw => (Na (w_reg 1 rfl rfl (j' := 1) (nA rfl (n_nil (Nc (Na (Na (w_reg 3 rfl rfl (j' := 4) (nM rfl (nO (s_len rfl rfl un_251 rfl (nM rfl (n_nil ?_)))))))))))))
  repeat first | refine Na ?_ | refine Nb ?_ | refine Nc ?_ | refine Nd ?_ | refine Ne ?_
  refine w_loop (β := Unit) (fun _ => [(0, .slice none 0 0), (7, i0 0), (8, i0 0)])
    (fun _ g' n' => n ≤ n' ∧ K0 g n g') (fun _ => 0) () ⟨rfl, rfl, rfl, trivial⟩ ⟨by omega, (by repeat (first | exact Kp.refl _ _ _ | refine Kp.new ?_ (by omega) _))⟩ ?_
  rintro ⟨⟩ f g1 n1 hw1 ⟨hn1, k1⟩
  unfold i0
  repeat first | refine Na ?_ | refine Nb ?_ | refine Nc ?_ | refine Nd ?_ | refine Ne ?_
  refine w_reg 1 rfl rfl (j' := 1) (nO (s_bin rfl rfl rfl (n_nil (Nc (Na (w_no rfl (rfl) ?_))))))
  refine w_exit rfl ?_
  repeat first | refine Na ?_ | refine Nb ?_ | refine Nc ?_ | refine Nd ?_ | refine Ne ?_
  refine w_reg 1 rfl rfl (j' := 2) (nA rfl (n_nil (Nc (Nf (z_r1 rfl rfl ?_)))))
  exact ⟨rfl, k1⟩

theorem del0_c {g : Gm} {n : Nat} {w : Value} : C 147 #[.slice none 0 0, w] g n fun u g' n' => u = .slice none 0 0 ∧ K0 g n g' := by
  refine c_in2 Tryz.func147 rfl Tryz.ntmps147 rfl fun hw => (Na (w_reg 1 rfl rfl (j' := 1) (nA rfl (n_nil (Nc (Na (w_reg 4 rfl rfl (j' := 5) (nM rfl (nM rfl (n_call .no rfl rfl rfl (C.use (idx0_c) fun v g1 n1 hw1 hn1 hq => ?_)))))))))))
  obtain ⟨rfl, k1⟩ := hq
  unfold i0
  refine nA rfl (n_nil (Nc (Na (Na (w_reg 2 rfl rfl (j' := 2) (nM rfl (nO (s_bin rfl rfl rfl (n_nil (Nc (w_yes rfl (rfl) (Na (w_reg 2 rfl rfl (j' := 4) (nM rfl (nA rfl (n_nil (Nc (Nf (z_r1 rfl rfl ?_)))))))))))))))))))
  exact ⟨rfl, k1.dn (by omega)⟩

theorem Kp.same {F : Nat → AObj → Prop} {g g' : Gm} {n l : Nat} {o : AObj} (h : Kp F g n g') (hx : g' l = some o) : Kp F g n (gset g' l o) := by
  have : gset g' l o = g' := by
    funext x
    by_cases e : x = l
    · subst e; rw [gs_same, hx]
    · exact gs_ne e _
  rw [this]; exact h

theorem settle0_c {g : Gm} {n a c : Nat} {x y : Int} (h : g a = some assuC) : C 81 #[p0 a, p0 c, i0 x, i0 y] g n fun u g' n' => u = i0 0 ∧ K0 g n g' := by
  unfold p0 i0
  refine c_in4 Tryz.func81 rfl Tryz.ntmps81 rfl fun hw => ?_
  have ha := hw _ _ h
  refine Na (w_reg 4 rfl rfl (j' := 4) (n_op .no (q := 0) rfl (s_box rfl rfl (n_op .no (q := 1) rfl (s_box rfl rfl (n_op .no (q := 2) rfl (s_box rfl rfl (nA rfl (n_nil (Nc (Na (Na (w_reg 2 rfl rfl (j' := 6) (nM rfl (nO (s_bin rfl rfl (bi_d un_154 rfl) ?_))))))))))))))))
  refine n_nil (Nc (w_no rfl (rfl) (Ne (Nc (Na (w_reg 6 rfl rfl (j' := 12) (nM rfl (nN rfl (nO (s_fa0 rfl fo_253_0 (nO (sL rfl ag_251 ?_))))))))))))
  refine nO (s_len rfl rfl un_251 rfl (nA rfl (n_nil (Nc (Na (w_reg 10 rfl rfl (j' := 22) (nM rfl (nM rfl (nN rfl (nO (s_fa0 rfl fo_253_0 (nO (sL rfl ag_251 ?_)))))))))))))
  refine nO (s_mf rfl rfl rfl (n_call .no rfl rfl rfl (C.use (del0_c) fun v g1 n1 hw1 hn1 hq => ?_)))
  obtain ⟨rfl, k1⟩ := hq
  have h1 : g1 a = some assuC := k1.lt (by omega) ((gs_ne (by omega) _).trans ((gs_ne (by omega) _).trans ((gs_ne (by omega) _).trans h)))
  refine nN rfl (nO (s_fa0 rfl fo_253_0 (nO (sS rfl rfl sz_251 rfl rfl ?_))))
  refine n_nil (Nc (Na (w_reg 8 rfl rfl (j' := 8) (nM rfl (nM rfl (nN rfl (nO (s_fa0 rfl fo_253_0 (nO (sL rfl ag_251 ?_))))))))))
  refine nO (s_len rfl rfl un_251 rfl (nO (s_bin rfl rfl (bi_sub rfl (by omega) (by omega)) (nA rfl (n_nil (Nc (Nf (z_r1 rfl rfl ?_))))))))
  refine ⟨rfl, Kp.same (Kp.trans0 (n := n) (by repeat (first | exact Kp.refl _ _ _ | refine Kp.new ?_ (by omega) _)) k1 (by omega)) h1⟩

theorem sees0_c {g : Gm} {n b r rl c el q a : Nat} {me base now : Int} {pack : Bool} {asked kind id at_ : Int} {out : Bool} {x i k v : Int}
    (h : RepAt b g r rl c el q a me base pack asked kind id at_ out x i k v) : C 84 #[p0 r, i0 now] g n fun u g' n' => K0 g n g' := by
  have hr := h.hr
  unfold p0 i0
  unfold replC at hr
  refine c_in2 Tryz.func84 rfl Tryz.ntmps84 rfl fun hw => (Na (Na (w_reg 7 rfl rfl (j' := 7) (nM rfl (nN rfl (nO (s_fa0 rfl fo_158_3 (nO (sL rfl ag_148 ?_)))))))))
  refine n_call .no rfl rfl rfl (C.use (relCache_c h.hrl) fun v g1 n1 hw1 hn1 hq => ?_)
  obtain ⟨rfl, k1⟩ := hq
  unfold p0
  refine n_call .no rfl rfl rfl (C.use (cacheRev_c (k1.lt (by have := hw _ _ h.hc; omega) h.hc)) fun v g2 n2 hw2 hn2 hq => ?_)
  obtain ⟨rfl, k2⟩ := hq
  unfold i0
  refine nO (s_bin rfl rfl rfl (n_nil (Nc (w_yes rfl (rfl) (Nf (z_r0 rfl ?_))))))
  exact (k1.dn (m := n) (by omega)).trans0 (k2.dn (m := n) (by omega)) (by omega)

theorem elWant0_c {g : Gm} {n el : Nat} {me now : Int} (h : g el = some (elecC me)) : C 88 #[p0 el, i0 now] g n fun u g' n' => u = .tuple #[.agg #[.slice none 0 0, .slice none 0 0], .bool false] ∧ K0 g n g' := by
  unfold p0 i0
  refine c_in2 Tryz.func88 rfl Tryz.ntmps88 rfl fun hw => ?_
  have he := hw _ _ h
  refine Na (w_reg 2 rfl rfl (j' := 2) (n_op .no (q := 0) rfl (s_al zl_74 (nA rfl (n_nil (Nc (Na (Na (w_reg 17 rfl rfl (j' := 19) (nM rfl (nO (s_bin rfl rfl (bi_d un_150 rfl) ?_))))))))))))
  refine nM rfl (nG rfl rfl (rfl) rfl (nY rfl rfl (rfl) (s_nil rfl (nY rfl rfl (rfl) (s_fa0 rfl fo_247_6 (nY rfl rfl (rfl) (sL rfl ag_4 ?_)))))))
  refine nG rfl rfl (rfl) rfl (nSk rfl rfl (rfl) rfl 6 rfl (nY rfl rfl (rfl) (s_pf rfl (rfl) rfl (nO (s_pf rfl (rfl) rfl (n_nil (Nc (w_no rfl (rfl) (Ne (Nc (Na (w_reg 4 rfl rfl (j' := 23) (nM rfl (nN rfl (nO (s_fa0 rfl fo_247_6 (nO (sS rfl rfl sz_4 rfl rfl ?_))))))))))))))))))
  refine n_nil (Nc (Na (Na (w_reg 4 rfl rfl (j' := 27) (nM rfl (nM rfl (n_call .no rfl rfl rfl (C.use (elWants_c ((gs_same _ _ _))) fun v g1 n1 hw1 hn1 hq => ?_))))))))
  obtain ⟨rfl, k1⟩ := hq
  have h5 : g1 (n + 0) = some (.cells [.slice none 0 0, .slice none 0 0] 0 false) := k1.lt (by omega) ((gs_ne (by omega) _).trans (gs_same _ _ _))
  have h6 : g1 el = some (elecC me) := k1.lt (by omega) (gs_same _ _ _)
  refine nO (s_not rfl (n_nil (Nc (w_yes rfl (rfl) (Na (w_reg 3 rfl rfl (j' := 3) (nO (s_bld pl_74 zl_74 rfl rfl rfl (nO (sSw rfl rfl sz_74 rfl rfl ?_))))))))))
  refine nA rfl (n_nil (Nc (Nf (z_rc1 rfl rfl rfl (by repeat first | exact gS | refine gN (by omega) ?_) ag_74 sz_74 (by exact rfl) (by exact Nat.le_of_ble_eq_true rfl) ?_))))
  refine ⟨rfl, Kp.new (Kp.trans0 (n := n) (n' := n + 27) (Kp.same (Kp.new (Kp.refl _ _ _) (by omega) _) ((gs_ne (by omega) _).trans h)) k1 (by omega)) (by omega) _⟩

theorem plans0_c {g : Gm} {n b r rl c el q a : Nat} {me base now : Int} {pack : Bool} {asked kind id at_ : Int} {out : Bool} {x i k v : Int}
    (h : RepAt b g r rl c el q a me base pack asked kind id at_ out x i k v) : C 90 #[p0 r, i0 now] g n fun u g' n' => u = .slice none 0 0 ∧ K0 g n g' := by
  have hr := h.hr
  unfold p0 i0
  unfold replC at hr
  refine c_in2 Tryz.func90 rfl Tryz.ntmps90 rfl fun hw => (Na (w_reg 1 rfl rfl (j' := 1) (nA rfl (n_nil (Nc (Na (w_drw (T6 90 1) [(0, []), (1, []), (2, []), (3, []), (5, [3]), (6, [3]), (7, [3]), (8, [3]), (4, [8]), (9, []), (10, []), (11, [])] 12 (by kernel_rfl) rfl rfl (j' := 13) (dM rfl rfl (dO rfl rfl (s_nil rfl ⟨⟨rfl, rfl⟩, (dO rfl rfl (s_fa0 rfl fo_158_3 ⟨⟨rfl, rfl⟩, (dT rfl rfl rfl (sL rfl ag_148 ⟨clash_nil, ?_⟩))⟩))⟩))))))))))
  refine dM rfl rfl (dO rfl rfl (s_nil rfl ⟨⟨rfl, rfl⟩, (dO rfl rfl (s_fa0 rfl fo_158_4 ⟨⟨rfl, rfl⟩, (dT rfl rfl rfl (sL rfl ag_150 ⟨clash_rd rfl, ?_⟩))⟩))⟩))
  refine d_call rfl .no rfl rfl rfl (call_rd rfl) (C.use (relCache_c h.hrl) fun v g1 n1 hw1 hn1 hq => ?_)
  obtain ⟨rfl, k1⟩ := hq
  refine ⟨?_, ?_⟩
  · have := hw _ _ hr
    repeat' (first | exact trivial | exact kept1 k1 (by omega) hr | apply And.intro)
  have r1 : g1 r = some _ := k1.lt (by have := hw _ _ hr; omega) hr
  have e1 : g1 el = some _ := k1.lt (by have := hw _ _ h.hel; omega) h.hel
  unfold p0
  refine d_call rfl .no rfl rfl rfl call_nil (C.use (elTerm_c e1) fun v g2 n2 hw2 hn2 hq => ?_)
  obtain ⟨rfl, k2⟩ := hq
  refine ⟨kept_nil, ?_⟩
  have r2 : g2 r = some _ := k2.at0 (hw1.up (by omega)) r1
  have e2 : g2 el = some _ := k2.at0 (hw1.up (by omega)) e1
  unfold i0
  refine dO rfl rfl (s_as rfl ⟨⟨rfl, rfl⟩, (dO rfl rfl (s_as rfl ⟨⟨rfl, rfl⟩, (d_nil (Nc (Na (Na (w_reg 13 rfl rfl (j' := 13) (nM rfl (nN rfl (nO (s_fa0 rfl fo_158_4 (nO (sL rfl ag_150 ?_)))))))))))⟩))⟩)
  refine nM rfl (n_call .no rfl rfl rfl (C.use (elLeads_c e2) fun v g3 n3 hw3 hn3 hq => ?_))
  obtain ⟨rfl, k3⟩ := hq
  refine nO (s_not rfl (nM rfl (nSk rfl rfl (rfl) rfl 3 rfl (nO (s_pt rfl (rfl) rfl (n_nil (Nc (w_yes rfl (rfl) (Na (w_reg 1 rfl rfl (j' := 1) (nA rfl (n_nil (Nc (Nf (z_r1 rfl rfl ?_)))))))))))))))
  exact ⟨rfl, ((k1.dn (m := n) (by omega)).trans0 (k2.dn (m := n) (by omega)) (by omega)).trans0 (k3.dn (m := n) (by omega)) (by omega)⟩

theorem relWant_c {g : Gm} {n rl c : Nat} {me id at_ now : Int} {out : Bool} {x i k v : Int} (h : g rl = some (reliC me id at_ c out x i k v)) (hc : g c = some cacheC) (h0 : 0 ≤ at_) (h1 : at_ ≤ now) (h2 : now < 2 ^ 62) (h3 : 0 ≤ id) (h4 : id < 2 ^ 40)
    (hgo : out = false ∨ 200 ≤ now - at_) : C 85 #[p0 rl, i0 now] g n fun u g' n' => u = .tuple #[.agg (call0 me (id + 1) 2).toArray, .bool true] ∧ g' rl = some (reliC me (id + 1) now c true me (id + 1) 2 0) ∧ Kp (fun x _ => x = rl) g n g' := by
  unfold p0 i0
  refine c_in2 Tryz.func85 rfl Tryz.ntmps85 rfl fun hw => ?_
  have he := hw _ _ h
  have hcn := hw _ _ hc
  have hne : c ≠ rl := fun e => by subst e; rw [h] at hc; simp [reliC, cacheC] at hc
  refine Na (w_reg 2 rfl rfl (j' := 2) (n_op .no (q := 0) rfl (s_al zl_76 (nA rfl (n_nil ?_)))))
  cases out
  · refine Nc (Na (Na (w_reg 17 rfl rfl (j' := 19) (nM rfl (nO (s_bin rfl rfl (bi_d un_148 rfl) ?_))))))
    refine nM rfl (nG rfl rfl (rfl) rfl (nY rfl rfl (rfl) (s_nil rfl (nY rfl rfl (rfl) (s_fa0 rfl fo_243_3 (nY rfl rfl (rfl) (sL rfl ag_4 ?_)))))))
    refine nG rfl rfl (rfl) rfl (nSk rfl rfl (rfl) rfl 6 rfl (nY rfl rfl (rfl) (s_pf rfl (rfl) rfl (nO (s_pf rfl (rfl) rfl (n_nil (Nc (w_no rfl (rfl) (Ne (Nc (Na (w_reg 8 rfl rfl (j' := 27) (nM rfl (nN rfl (nO (s_fa0 rfl fo_243_1 (nO (sL rfl ag_2 ?_))))))))))))))))))
    refine nO (s_bin rfl rfl (by first | exact bi_inc (by omega) | exact bi_add rfl (by omega) (by omega)) ?_)
    refine nN rfl (nO (s_fa0 rfl fo_243_1 (nO (sS rfl rfl sz_2 rfl rfl ?_))))
    refine n_nil (Nc (Na (w_drw (T6 85 4) [(0, []), (1, []), (2, []), (3, []), (4, []), (5, [4]), (6, [4]), (7, [4]), (8, [4]), (9, []), (10, []), (11, []), (12, [])] 13 (by kernel_rfl) rfl rfl (j' := 40) (dM rfl rfl (dM rfl rfl (dO rfl rfl (s_nil rfl ⟨⟨rfl, rfl⟩, (dO rfl rfl (s_fa0 rfl fo_243_0 ⟨⟨rfl, rfl⟩, (dT rfl rfl rfl (sL rfl ag_3 ⟨clash_nil, ?_⟩))⟩))⟩)))))))
    refine dM rfl rfl (dO rfl rfl (s_nil rfl ⟨⟨rfl, rfl⟩, (dO rfl rfl (s_fa0 rfl fo_243_1 ⟨⟨rfl, rfl⟩, (dT rfl rfl rfl (sL rfl ag_2 ⟨clash_rd rfl, ?_⟩))⟩))⟩))
    refine dO rfl rfl (s_bld pl_76 zl_76 rfl rfl rfl ⟨⟨rfl, rfl⟩, (dO rfl rfl (s_nil rfl ⟨⟨rfl, rfl⟩, (dO rfl rfl (s_fa0 rfl fo_243_4 ⟨⟨rfl, rfl⟩, (dT rfl rfl rfl (sSa rfl rfl sz_76 rfl rfl ⟨clash_nil, ?_⟩))⟩))⟩))⟩)
    refine d_nil (Nc (Na (Na (w_reg 6 rfl rfl (j' := 46) (nM rfl (nN rfl (nO (s_fa0 rfl fo_243_2 (nO (sL rfl ag_81 ?_))))))))))
    refine n_call .no rfl rfl rfl (C.use (cacheRev_c ((gs_ne (by omega) _).trans ((gs_ne (by omega) _).trans ((gs_ne (by omega) _).trans hc)))) fun v g1 n1 hw1 hn1 hq => ?_)
    obtain ⟨rfl, k1⟩ := hq
    unfold i0
    have h6 : g1 rl = some _ := k1.lt (by omega) (gs_same _ _ _)
    have h7 : g1 (n + 0) = some _ := k1.lt (by omega) ((gs_ne (by omega) _).trans ((gs_ne (by omega) _).trans (gs_same _ _ _)))
    refine nA rfl (n_nil (Nc (Na (w_reg 2 rfl rfl (j' := 2) (nM rfl (nO (s_bin rfl rfl rfl (n_nil (Nc (w_no rfl (rfl) (Ne (Nc (Na (w_reg 9 rfl rfl (j' := 11) (nM rfl (nM rfl (nM rfl (nN rfl (nO (s_fa0 rfl fo_243_3 (nO (sS rfl rfl sz_4 rfl rfl ?_))))))))))))))))))))))
    refine nN rfl (nO (s_fa0 rfl fo_243_5 (nO (sS rfl rfl sz_2 rfl rfl ?_))))
    refine n_nil (Nc (Na (w_reg 6 rfl rfl (j' := 17) (nM rfl (nN rfl (nO (s_fa0 rfl fo_243_4 (nO (sLa rfl ag_76 sz_76 ?_)))))))))
    refine nO (sSw rfl rfl sz_76 rfl rfl ?_)
    refine nA rfl (n_nil (Nc (Nf (z_rc1 rfl rfl rfl (by repeat first | exact gS | refine gN (by omega) ?_) ag_76 sz_76 (by exact rfl) (by exact Nat.le_of_ble_eq_true rfl) ?_))))
    have kF : Kp (fun x _ => x = rl) g n g1 := Kp.trans0 (n := n) (n' := n + 46) (Kp.set (Kp.set (Kp.new (Kp.refl _ _ _) (by omega) _) (fun _ _ => rfl) _) (fun _ _ => rfl) _) k1 (by omega)
    exact ⟨rfl, (gs_ne (by omega) _).trans (gs_same _ _ _), Kp.new (Kp.set (Kp.set kF (fun _ _ => rfl) _) (fun _ _ => rfl) _) (by omega) _⟩
  · have hl : 200 ≤ now - at_ := hgo.resolve_left (by simp)
    refine Nc (Na (Na (w_reg 17 rfl rfl (j' := 19) (nM rfl (nO (s_bin rfl rfl (bi_d un_148 rfl) ?_))))))
    refine nM rfl (nG rfl rfl (rfl) rfl (nY rfl rfl (rfl) (s_nil rfl (nY rfl rfl (rfl) (s_fa0 rfl fo_243_3 (nY rfl rfl (rfl) (sL rfl ag_4 ?_)))))))
    refine nG rfl rfl (rfl) rfl (nG rfl rfl (rfl) rfl (nG rfl rfl (rfl) rfl (nY rfl rfl (rfl) (s_nil rfl (nY rfl rfl (rfl) (s_fa0 rfl fo_243_5 (nY rfl rfl (rfl) (sL rfl ag_2 ?_))))))))
    refine n_call (.yes rfl rfl (rfl)) rfl rfl rfl (C.use (late153_c h0 h1 h2) fun v g3 n3 hw3 hn3 hq => ?_)
    obtain ⟨rfl, k3⟩ := hq
    have h8 : g3 rl = some _ := k3.lt (by omega) ((gs_ne (by omega) _).trans h)
    have h9 : g3 (n + 0) = some _ := k3.lt (by omega) (gs_same _ _ _)
    have hc3 : g3 c = some cacheC := k3.lt (by omega) ((gs_ne (by omega) _).trans hc)
    refine nY rfl rfl (rfl) (s_not rfl (nY rfl rfl (rfl) (s_pt rfl (rfl) rfl (nO (s_pf rfl (rfl) rfl (n_nil (Nc (w_no rfl (by simp [hl]) (Ne (Nc (Na (w_reg 8 rfl rfl (j' := 8) (nM rfl (nN rfl (nO (s_fa0 rfl fo_243_1 (nO (sL rfl ag_2 ?_))))))))))))))))))
    refine nO (s_bin rfl rfl (by first | exact bi_inc (by omega) | exact bi_add rfl (by omega) (by omega)) ?_)
    refine nN rfl (nO (s_fa0 rfl fo_243_1 (nO (sS rfl rfl sz_2 rfl rfl ?_))))
    refine n_nil (Nc (Na (w_drw (T6 85 4) [(0, []), (1, []), (2, []), (3, []), (4, []), (5, [4]), (6, [4]), (7, [4]), (8, [4]), (9, []), (10, []), (11, []), (12, [])] 13 (by kernel_rfl) rfl rfl (j' := 21) (dM rfl rfl (dM rfl rfl (dO rfl rfl (s_nil rfl ⟨⟨rfl, rfl⟩, (dO rfl rfl (s_fa0 rfl fo_243_0 ⟨⟨rfl, rfl⟩, (dT rfl rfl rfl (sL rfl ag_3 ⟨clash_nil, ?_⟩))⟩))⟩)))))))
    refine dM rfl rfl (dO rfl rfl (s_nil rfl ⟨⟨rfl, rfl⟩, (dO rfl rfl (s_fa0 rfl fo_243_1 ⟨⟨rfl, rfl⟩, (dT rfl rfl rfl (sL rfl ag_2 ⟨clash_rd rfl, ?_⟩))⟩))⟩))
    refine dO rfl rfl (s_bld pl_76 zl_76 rfl rfl rfl ⟨⟨rfl, rfl⟩, (dO rfl rfl (s_nil rfl ⟨⟨rfl, rfl⟩, (dO rfl rfl (s_fa0 rfl fo_243_4 ⟨⟨rfl, rfl⟩, (dT rfl rfl rfl (sSa rfl rfl sz_76 rfl rfl ⟨clash_nil, ?_⟩))⟩))⟩))⟩)
    refine d_nil (Nc (Na (Na (w_reg 6 rfl rfl (j' := 27) (nM rfl (nN rfl (nO (s_fa0 rfl fo_243_2 (nO (sL rfl ag_81 ?_))))))))))
    refine n_call .no rfl rfl rfl (C.use (cacheRev_c ((gs_ne (by omega) _).trans ((gs_ne (by omega) _).trans hc3))) fun v g1 n1 hw1 hn1 hq => ?_)
    obtain ⟨rfl, k1⟩ := hq
    unfold i0
    have h6 : g1 rl = some _ := k1.lt (by omega) (gs_same _ _ _)
    have h7 : g1 (n + 0) = some _ := k1.lt (by omega) ((gs_ne (by omega) _).trans ((gs_ne (by omega) _).trans h9))
    refine nA rfl (n_nil (Nc (Na (w_reg 2 rfl rfl (j' := 2) (nM rfl (nO (s_bin rfl rfl rfl (n_nil (Nc (w_no rfl (rfl) (Ne (Nc (Na (w_reg 9 rfl rfl (j' := 11) (nM rfl (nM rfl (nM rfl (nN rfl (nO (s_fa0 rfl fo_243_3 (nO (sS rfl rfl sz_4 rfl rfl ?_))))))))))))))))))))))
    refine nN rfl (nO (s_fa0 rfl fo_243_5 (nO (sS rfl rfl sz_2 rfl rfl ?_))))
    refine n_nil (Nc (Na (w_reg 6 rfl rfl (j' := 17) (nM rfl (nN rfl (nO (s_fa0 rfl fo_243_4 (nO (sLa rfl ag_76 sz_76 ?_)))))))))
    refine nO (sSw rfl rfl sz_76 rfl rfl ?_)
    refine nA rfl (n_nil (Nc (Nf (z_rc1 rfl rfl rfl (by repeat first | exact gS | refine gN (by omega) ?_) ag_76 sz_76 (by exact rfl) (by exact Nat.le_of_ble_eq_true rfl) ?_))))
    have kA : Kp (fun x _ => x = rl) g n g3 := Kp.trans0 (n := n) (Kp.new (Kp.refl _ _ _) (by omega) _) k3 (by omega)
    have kF : Kp (fun x _ => x = rl) g n g1 := Kp.trans0 (n := n) (Kp.set (Kp.set kA (fun _ _ => rfl) _) (fun _ _ => rfl) _) k1 (by omega)
    exact ⟨rfl, (gs_ne (by omega) _).trans (gs_same _ _ _), Kp.new (Kp.set (Kp.set kF (fun _ _ => rfl) _) (fun _ _ => rfl) _) (by omega) _⟩

theorem relWait_c {g : Gm} {n rl c : Nat} {me id at_ now : Int} {x i k v : Int} (h : g rl = some (reliC me id at_ c true x i k v)) (h0 : 0 ≤ at_) (h1 : at_ ≤ now) (h2 : now < 2 ^ 62) (h3 : now - at_ < 200) :
    C 85 #[p0 rl, i0 now] g n fun u g' n' => u = .tuple #[.agg (call0 0 0 0).toArray, .bool false] ∧ K0 g n g' := by
  unfold p0 i0
  refine c_in2 Tryz.func85 rfl Tryz.ntmps85 rfl fun hw => ?_
  have he := hw _ _ h
  refine Na (w_reg 2 rfl rfl (j' := 2) (n_op .no (q := 0) rfl (s_al zl_76 (nA rfl (n_nil (Nc (Na (Na (w_reg 17 rfl rfl (j' := 19) (nM rfl (nO (s_bin rfl rfl (bi_d un_148 rfl) ?_))))))))))))
  refine nM rfl (nG rfl rfl (rfl) rfl (nY rfl rfl (rfl) (s_nil rfl (nY rfl rfl (rfl) (s_fa0 rfl fo_243_3 (nY rfl rfl (rfl) (sL rfl ag_4 ?_)))))))
  refine nG rfl rfl (rfl) rfl (nG rfl rfl (rfl) rfl (nG rfl rfl (rfl) rfl (nY rfl rfl (rfl) (s_nil rfl (nY rfl rfl (rfl) (s_fa0 rfl fo_243_5 (nY rfl rfl (rfl) (sL rfl ag_2 ?_))))))))
  refine n_call (.yes rfl rfl (rfl)) rfl rfl rfl (C.use (late153_c h0 h1 h2) fun v g3 n3 hw3 hn3 hq => ?_)
  obtain ⟨rfl, k3⟩ := hq
  have h8 : g3 rl = some _ := k3.lt (by omega) ((gs_ne (by omega) _).trans h)
  have h9 : g3 (n + 0) = some _ := k3.lt (by omega) (gs_same _ _ _)
  refine nY rfl rfl (rfl) (s_not rfl (nY rfl rfl (rfl) (s_pt rfl (rfl) rfl (nO (s_pf rfl (rfl) rfl (n_nil (Nc (w_yes rfl (by simp; omega) (Na (w_reg 3 rfl rfl (j' := 3) (nO (s_bld pl_76 zl_76 rfl rfl rfl (nO (sSw rfl rfl sz_76 rfl rfl ?_))))))))))))))
  refine nA rfl (n_nil (Nc (Nf (z_rc1 rfl rfl rfl (by repeat first | exact gS | refine gN (by omega) ?_) ag_76 sz_76 (by exact rfl) (by exact Nat.le_of_ble_eq_true rfl) ?_))))
  refine ⟨rfl, Kp.new (Kp.trans0 (n := n) (Kp.new (Kp.refl _ _ _) (by omega) _) k3 (by omega)) (by omega) _⟩

end Go.Proofs.YtfchjhfccnodpaaGreat
end

section
open Go.Proofs
namespace Go.Proofs.YtfchjhfccnodpaaGreat
set_option linter.unusedSimpArgs false
set_option linter.unusedVariables false
set_option maxRecDepth 100000

noncomputable def zW : List Value := (zeroL E6.P 281).getD []
theorem zl_281 : zeroL E6.P 281 = some zW := id (by kernel_rfl)
theorem zW_len : zW.length = 298 := id (by kernel_rfl)
theorem zW_b : zW[297]? = some (.slice none 0 0) := id (by kernel_rfl)

def WrAt (b : Nat) (g : Gm) (w : Nat) (bs : Bs) : Prop := ∃ c v, g w = some (.cells c 0 false) ∧ c.length = 298 ∧ c[297]? = some v ∧ BytesNew b g v bs ∧ b ≤ w
def FW (b w : Nat) (x : Nat) (o : AObj) : Prop := b ≤ x ∧ (x = w ∨ ∃ cl, o = .cells cl 1 false)

theorem BytesNew.ne {b : Nat} {g : Gm} {v : Value} {bs : List UInt8} {x : Nat} {c : List Value} {ro : Bool} (h : BytesNew b g v bs) (hx : g x = some (.cells c 0 ro)) : vname v ≠ some x := by
  obtain ⟨⟨_, ⟨rfl, _⟩ | ⟨l', o, c, cl, rfl, _, h4, _⟩⟩, _⟩ := h
  · intro h; cases h
  · intro h
    simp only [vname, Option.some.injEq] at h
    subst h
    rw [h4] at hx; cases hx
theorem BytesNew.isB {b : Nat} {g : Gm} {v : Value} {bs : List UInt8} {x : Nat} (h : BytesNew b g v bs) (hx : vname v = some x) : ∃ cl, g x = some (.cells cl 1 false) := by
  obtain ⟨⟨_, ⟨rfl, _⟩ | ⟨l', o, c, cl, rfl, _, h4, _⟩⟩, _⟩ := h
  · cases hx
  · simp only [vname, Option.some.injEq] at hx
    subst hx
    exact ⟨cl, h4⟩

theorem byte_eq (m k : Nat) : ([.int .u8 (IntKind.u8.wrap ((m : Int).fdiv (2 ^ (8 * k))))] : List Value) = u8c [UInt8.ofNat (m / 256 ^ k)] := by
  have h1 : ((m : Int).fdiv (2 ^ (8 * k))) = ((m / 256 ^ k : Nat) : Int) := by
    rw [Int.fdiv_eq_ediv_of_nonneg _ (by exact Int.le_of_lt (Int.pow_pos (by decide))), Nat.pow_mul' 2 8 k |> fun _ => show (2 : Int) ^ (8 * k) = ((256 ^ k : Nat) : Int) by rw [Int.pow_mul]; simp]
    exact (Int.natCast_ediv _ _).symm
  have h2 : IntKind.u8.wrap ((m / 256 ^ k : Nat) : Int) = ((UInt8.ofNat (m / 256 ^ k)).toNat : Int) := by
    rw [UInt8.toNat_ofNat']
    simp only [IntKind.wrap, IntKind.bits, IntKind.signed]
    simp
  rw [h1, h2]; rfl

theorem Kp.tr {F : Nat → AObj → Prop} {g g' g'' : Gm} {n n' : Nat} (h : Kp F g n g') (k : Kp F g' n' g'') (hn : n ≤ n') : Kp F g n g'' := h.trans k hn fun _ _ _ h _ => h
theorem Kp.fw {b w : Nat} {g g' : Gm} {n q : Nat} (h : Kp (FW b w) g n g') (hb : q ≤ b) (hq : q ≤ n) : K0 g q g' := fun x o hx ho _ => h x o (by omega) ho fun hf => by have := hf.1; omega

theorem num_c {g : Gm} {n b w m s : Nat} {z zs : Int} {bs : Bs} (h : WrAt b g w bs) (hb : b ≤ n) (hz : z = (m : Int)) (hzs : zs = (s : Int)) (hs : s ≤ 8) (hl : bs.length ≤ 2 ^ 40) :
    C 155 #[.pointer (some ⟨w, 0, none⟩), .int .i64 z, .int .i64 zs] g n fun u g' n' => WrAt b g' w (bs ++ be s m) ∧ Kp (FW b w) g n g' := by
  subst hz hzs
  refine c_in3 Tryz.func155 rfl Tryz.ntmps155 rfl fun hw => (Na (w_reg 2 rfl rfl (j' := 2) (nM rfl (nM rfl (n_nil ?_)))))
  repeat first | refine Na ?_ | refine Nb ?_ | refine Nc ?_ | refine Nd ?_ | refine Ne ?_
  refine w_loop (β := Nat) (fun i => [(0, .pointer (some ⟨w, 0, none⟩)), (1, .int .i64 (m : Int)), (2, .int .i64 (s : Int)), (7, .int .i64 (s : Int)), (8, .int .i64 (i : Int))])
    (fun i g' n' => i ≤ s ∧ n ≤ n' ∧ Kp (FW b w) g n g' ∧ ∃ pre, WrAt b g' w (bs ++ pre) ∧ pre ++ be (s - i) m = be s m ∧ pre.length = i) (fun i => s - i) 0 ⟨rfl, rfl, rfl, rfl, rfl, trivial⟩ ⟨by omega, by omega, Kp.refl _ _ _, [], by simpa using h, by simp, rfl⟩ ?_
  rintro i f g1 n1 hw1 ⟨hi, hn1, k1, pre, hA, hpre, hlen⟩
  repeat first | refine Na ?_ | refine Nb ?_ | refine Nc ?_ | refine Nd ?_ | refine Ne ?_
  refine w_reg 1 rfl rfl (j' := 1) (nO (s_bin rfl rfl rfl (n_nil (Nc (Na (w_if rfl (fun hc => ?_) (fun hc => ?_)))))))
  · have hc : i < s := by simpa using hc
    obtain ⟨c, v, h1, h2, h3, h4, h5⟩ := hA
    obtain ⟨av, cv, rfl⟩ := h4.len
    have hwn := hw1 _ _ h1
    repeat first | refine Na ?_ | refine Nb ?_ | refine Nc ?_ | refine Nd ?_ | refine Ne ?_
    refine w_reg 2 rfl rfl (j' := 3) (nM rfl (nA rfl (n_nil (Nc (w_drw (T6 155 3) [(0, []), (1, []), (2, []), (3, []), (4, []), (5, [4]), (6, [4]), (7, [4]), (8, [4]), (9, [4]), (10, [4]), (11, [4]), (12, [4]), (13, [4]), (14, []), (15, []), (16, []), (17, [])] 18 (by kernel_rfl) rfl rfl (j' := 21) (dM rfl rfl (dM rfl rfl (dO rfl rfl (s_nil rfl ⟨⟨rfl, rfl⟩, (dO rfl rfl (s_fa0 rfl fo_281_1 ⟨⟨rfl, rfl⟩, (dT rfl rfl rfl (sL rfl ag_43 ⟨clash_nil, ?_⟩))⟩))⟩)))))))))
    refine dM rfl rfl (dM rfl rfl (dO rfl rfl (s_bin rfl rfl (by first | exact bi_dec (by omega) (by omega) | exact bi_sub rfl (by omega) (by omega)) ⟨⟨rfl, rfl⟩, ?_⟩)))
    refine dM rfl rfl (dO rfl rfl (s_bin rfl rfl (r := .int .i64 (((s - 1 - i : Nat) : Int))) (by first | exact bi_sub (by omega) (by omega) (by omega) | exact bi_sub rfl (by omega) (by omega)) ⟨⟨rfl, rfl⟩, ?_⟩))
    refine dO rfl rfl (s_bin rfl rfl (r := .int .i64 (((8 * (s - 1 - i) : Nat) : Int))) (bi_mul (by omega) (by omega) (by omega)) ⟨⟨rfl, rfl⟩, (dO rfl rfl (s_shr rfl rfl rfl (by omega) ⟨⟨rfl, rfl⟩, (d_tc rfl rfl rfl .no (q := 15) rfl (s_i2b un_2 un_5 rfl ⟨clash_rd rfl, (d_al rfl rfl rfl .no (q := 16) rfl (s_bs el_43 ez_43 rfl rfl rfl (d_tc rfl rfl rfl .no (q := 17) rfl (s_appB (b := b) rfl rfl (h4.kp0 (n := n1) (by repeat (first | exact Kp.refl _ _ _ | refine Kp.new ?_ (by omega) _)) hw1) (bytes_row (b := b) (bs := [UInt8.ofNat (m / 256 ^ (s - 1 - i))]) (gs_same _ _ _) (byte_eq m (s - 1 - i)) (by omega)).at (by simp only [List.length_append, List.length_singleton]; omega) (by omega) fun a c' g2 tc wr hr hg => ⟨clash_nil, ?_⟩))))⟩))⟩))⟩)
    have hne : vname (.slice av (bs ++ pre).length cv) ≠ some w := h4.ne h1
    have h6 : g2 w = some (.cells c 0 false) := (hg.same w (by omega) hne).trans ((gs_ne (by omega) _).trans h1)
    have kA : Kp (FW b w) g1 n1 g2 := hg.kp (n := n1) (by repeat (first | exact Kp.refl _ _ _ | refine Kp.new ?_ (by omega) _)) (by omega) fun l hl => .inr fun o ho => by
      obtain ⟨cl, hcl⟩ := h4.isB hl
      rw [hcl] at ho; cases ho
      exact ⟨h4.2 l hl, .inr ⟨_, rfl⟩⟩
    refine dO rfl rfl (s_nil rfl ⟨⟨rfl, rfl⟩, (dO rfl rfl (s_fa0 rfl fo_281_1 ⟨⟨rfl, rfl⟩, (dT rfl rfl rfl (sSg rfl rfl sz_43 rfl rfl ⟨clash_nil, ?_⟩))⟩))⟩)
    refine d_nil ?_
    repeat first | refine Na ?_ | refine Nb ?_ | refine Nc ?_ | refine Nd ?_ | refine Ne ?_
    repeat first | refine Na ?_ | refine Nb ?_ | refine Nc ?_ | refine Nd ?_ | refine Ne ?_
    refine w_reg 2 rfl rfl (j' := 23) (nO (s_bin rfl rfl (by first | exact bi_inc (by omega) | exact bi_add rfl (by omega) (by omega)) ?_))
    refine nM rfl (n_nil ?_)
    have e1 : bs ++ pre ++ [UInt8.ofNat (m / 256 ^ (s - 1 - i))] = bs ++ (pre ++ [UInt8.ofNat (m / 256 ^ (s - 1 - i))]) := List.append_assoc _ _ _
    have hr2 := BytesNew.other hr (hr.ne h6)
    refine z_round (i + 1) ⟨rfl, rfl, rfl, rfl, rfl, trivial⟩ ⟨hc, by omega, k1.tr (Kp.set kA (fun o ho => ⟨h5, .inl rfl⟩) _) hn1, pre ++ [UInt8.ofNat (m / 256 ^ (s - 1 - i))], ⟨_, _, gs_same _ _ _, ?_, ?_, by rw [← e1]; exact hr2 _, h5⟩, ?_, by simp [hlen]⟩ (by omega)
    · rw [splice_length (by simp; omega)]; exact h2
    · rw [splice_get (by simp; omega), if_pos (by simp)]; simp
    · rw [← hpre, List.append_assoc]
      congr 1
      obtain ⟨q, hq⟩ : ∃ q, s - i = q + 1 := ⟨s - i - 1, by omega⟩
      rw [hq, show s - (i + 1) = q by omega, show s - 1 - i = q by omega]
      rfl
  · refine w_exit rfl ?_
    have : i = s := by simp at hc; omega
    subst this
    repeat first | refine Nf ?_ | refine Na ?_ | refine Nb ?_ | refine Nc ?_ | refine Nd ?_ | refine Ne ?_
    refine z_r0 rfl ?_
    have : be (i - i) m = [] := by rw [Nat.sub_self]; rfl
    rw [this, List.append_nil] at hpre
    rw [hpre] at hA
    exact ⟨hA, k1⟩

theorem app26s : AppT E6.P 43 9 1 1 := ⟨5, _, un_43, sz_5, by_5, zp_5, rfl, by decide, by decide, by rw [un_9]; rfl⟩

theorem text_c {g : Gm} {n b w : Nat} {bs t : Bs} (h : WrAt b g w bs) (hb : b ≤ n) (ht : t.length ≤ 2 ^ 40) (hl : bs.length ≤ 2 ^ 40) :
    C 156 #[.pointer (some ⟨w, 0, none⟩), .string (str t)] g n fun u g' n' => WrAt b g' w (bs ++ txt t) ∧ Kp (FW b w) g n g' := by
  have hk := str_size t
  refine c_in2 Tryz.func156 rfl Tryz.ntmps156 rfl fun hw => (Na (w_reg 4 rfl rfl (j' := 4) (nM rfl (nM rfl (nO (s_len rfl rfl un_9 rfl (n_call .no rfl rfl rfl (C.use (num_c (m := t.length) (s := 2) h (by omega) (by rw [hk]) rfl (by decide) hl) fun v g1 n1 hw1 hn1 hq => ?_))))))))
  obtain ⟨hA, k1⟩ := hq
  refine n_nil ?_
  obtain ⟨c, v, h1, h2, h3, h4, h5⟩ := hA
  obtain ⟨av, cv, rfl⟩ := h4.len
  have hwn := hw1 _ _ h1
  refine Nc (w_reg 10 rfl rfl (j' := 10) (nM rfl (nM rfl (nN rfl (nO (s_fa0 rfl fo_281_1 (nO (sL rfl ag_43 ?_))))))))
  refine nM rfl ?_
  have hlen : (bs ++ be 2 t.length).length = bs.length + 2 := by rw [List.length_append, be_length]
  refine n_op .no (q := 6) rfl (s_app app26s rfl rfl h4.1 (Src.string _ (str t)) (by rw [str_list]; exact u8c_one _) (by rw [hk]; omega) fun a c' g2 tc wr hr hg => ?_)
  have e : (bs ++ be 2 t.length).length + (str t).size = (bs ++ txt t).length := by rw [hk, txt, List.length_append, List.length_append, List.length_append]; omega
  rw [e] at hr hg
  rw [str_list, ← u8c_append, List.append_assoc] at hr
  rw [e]
  have hne : vname (.slice av (bs ++ be 2 t.length).length cv) ≠ some w := h4.ne h1
  have h6 : g2 w = some (.cells c 0 false) := (hg.same w (by omega) hne).trans h1
  have hr1 : BytesNew b g2 (.slice a (bs ++ txt t).length c') (bs ++ txt t) := ⟨hr, fun l hl => by
    rcases hg.name with q | q | q
    · rw [q] at hl; cases hl
    · rw [q] at hl; exact h4.2 l hl
    · rw [q] at hl; cases hl; omega⟩
  have kA : Kp (FW b w) g1 n1 g2 := hg.kp (n := n1) (by repeat (first | exact Kp.refl _ _ _ | refine Kp.new ?_ (by omega) _)) (by omega) fun l hl => .inr fun o ho => by
    obtain ⟨cl, hcl⟩ := h4.isB hl
    rw [hcl] at ho; cases ho
    exact ⟨h4.2 l hl, .inr ⟨_, rfl⟩⟩
  refine nN rfl (nO (s_fa0 rfl fo_281_1 (nO (sSg rfl rfl sz_43 rfl rfl ?_))))
  refine n_nil ?_
  refine z_r0 rfl ?_
  refine ⟨⟨_, _, gs_same _ _ _, ?_, ?_, BytesNew.other hr1 (hr1.ne h6) _, h5⟩, (k1.dn (by omega)).tr (n' := n1) (Kp.set kA (fun o ho => ⟨h5, .inl rfl⟩) _) (by omega)⟩
  · rw [splice_length (by simp; omega)]; exact h2
  · rw [splice_get (by simp; omega), if_pos (by simp)]; simp

theorem bit_c {g : Gm} {n b w : Nat} {bs : Bs} {t : Bool} (h : WrAt b g w bs) (hb : b ≤ n) (hl : bs.length ≤ 2 ^ 40) :
    C 157 #[.pointer (some ⟨w, 0, none⟩), .bool t] g n fun u g' n' => WrAt b g' w (bs ++ be 1 (bit t)) ∧ Kp (FW b w) g n g' := by
  refine c_in2 Tryz.func157 rfl Tryz.ntmps157 rfl fun hw => (Na (w_reg 1 rfl rfl (j' := 1) (nA rfl (n_nil (Nc (Na (Na (w_reg 1 rfl rfl (j' := 2) (nM rfl (n_nil ?_))))))))))
  cases t
  · refine Nc (w_no rfl (rfl) (Ne (Nc (w_reg 3 rfl rfl (j' := 5) (nM rfl (nM rfl (n_call .no rfl rfl rfl (C.use (num_c (m := 0) (s := 1) h (by omega) rfl rfl (by decide) hl) fun v g1 n1 hw1 hn1 hq => ?_))))))))
    obtain ⟨hA, k1⟩ := hq
    refine n_nil ?_
    refine z_r0 rfl ⟨hA, k1.dn (by omega)⟩
  · refine Nc (w_yes rfl (rfl) (w_reg 1 rfl rfl (j' := 3) (nA rfl (n_nil (Nc (w_reg 3 rfl rfl (j' := 6) (nM rfl (nM rfl (n_call .no rfl rfl rfl (C.use (num_c (m := 1) (s := 1) h (by omega) rfl rfl (by decide) hl) fun v g1 n1 hw1 hn1 hq => ?_))))))))))
    obtain ⟨hA, k1⟩ := hq
    refine n_nil ?_
    refine z_r0 rfl ⟨hA, k1.dn (by omega)⟩

theorem wbytes_c {g : Gm} {n b w : Nat} {bs : Bs} (h : WrAt b g w bs) (hl : bs.length ≤ 2 ^ 40) :
    C 158 #[.pointer (some ⟨w, 0, none⟩)] g n fun u g' n' => (∃ a c, u = .slice a bs.length c) ∧ BytesNew n g' u bs ∧ K0 g n g' := by
  obtain ⟨c, v, h1, h2, h3, h4, h5⟩ := h
  refine c_in1 Tryz.func158 rfl Tryz.ntmps158 rfl fun hw => ?_
  have hwn := hw _ _ h1
  refine Na (w_reg 1 rfl rfl (j' := 1) (nA rfl (n_nil (Nc (Na (w_reg 6 rfl rfl (j' := 7) (nM rfl (nN rfl (nO (s_fa0 rfl fo_281_1 (nO (sL rfl ag_43 ?_))))))))))))
  refine n_call .no rfl rfl rfl (C.use (clone_c h4.at (by omega)) fun v g1 n1 hw1 hn1 hq => ?_)
  obtain ⟨⟨a, c', rfl⟩, hB, k1⟩ := hq
  refine nA rfl (n_nil (Nc (Nf (z_r1 rfl rfl ?_))))
  exact ⟨⟨a, c', rfl⟩, hB.up (by omega), k1.dn (by omega)⟩

end Go.Proofs.YtfchjhfccnodpaaGreat
end

section
open Go.Proofs
namespace Go.Proofs.YtfchjhfccnodpaaGreat
set_option linter.unusedSimpArgs false
set_option linter.unusedVariables false
set_option maxRecDepth 100000

section
variable {X : Cx} {k : List Fm} {f : Nat → Value} {s : Sls} {g : Gm} {m j m₀ j₀ i : Nat} {ops : Array Oper} {op : Op} {ty : TypeId} {pos : String} {af : Array Edge} {lo : List Nat} {L : List (Nat × List Nat)} {D : List Rec} {os : List Oper}
theorem w_gen {c : Code} (h : ∀ g' n', g' = g → n' = m + j → WF g' n' → W X k c f s g' n' 0) : W X k c f s g m j :=
  w_wf fun hw => ⟨(h g (m + j) rfl rfl hw).out⟩
end

theorem Kp.loc {b w : Nat} {g g' : Gm} {n : Nat} (h : Kp (FW b w) g n g') {x : Nat} {c : List Value} {ro : Bool} (hx : x < n) (hw : x ≠ w) (hg : g x = some (.cells c 0 ro)) : g' x = some (.cells c 0 ro) :=
  h x _ hx hg fun hf => by rcases hf.2 with e | ⟨cl, e⟩; exact hw e; cases e

theorem eq344_c {g : Gm} {n : Nat} : C 344 #[.slice none 0 0, .slice none 0 0] g n fun u g' n' => u = .bool true ∧ K0 g n g' := by
  refine c_in2 Tryz.func344 rfl Tryz.ntmps344 rfl fun hw => (Na (w_reg 1 rfl rfl (j' := 1) (nA rfl (n_nil (Nc (Na (Na (w_reg 5 rfl rfl (j' := 6) (nM rfl (nO (s_len rfl rfl un_71 rfl (nM rfl (nO (s_len rfl rfl un_71 rfl (nO (s_bin rfl rfl rfl (n_nil (Nc (w_no rfl (rfl) (Ne (Nc (Na (Na (w_reg 3 rfl rfl (j' := 9) (nM rfl (nO (s_len rfl rfl un_71 rfl (nM rfl (n_nil ?_)))))))))))))))))))))))))))))
  repeat first | refine Na ?_ | refine Nb ?_ | refine Nc ?_ | refine Nd ?_ | refine Ne ?_
  refine w_loop (β := Unit) (fun _ => [(0, .slice none 0 0), (12, i0 0), (13, i0 0)])
    (fun _ g' n' => n ≤ n' ∧ K0 g n g') (fun _ => 0) () ⟨rfl, rfl, rfl, trivial⟩ ⟨by omega, (by repeat (first | exact Kp.refl _ _ _ | refine Kp.new ?_ (by omega) _))⟩ ?_
  rintro ⟨⟩ f g1 n1 hw1 ⟨hn1, k1⟩
  unfold i0
  repeat first | refine Na ?_ | refine Nb ?_ | refine Nc ?_ | refine Nd ?_ | refine Ne ?_
  refine w_reg 1 rfl rfl (j' := 1) (nO (s_bin rfl rfl rfl (n_nil (Nc (Na (w_no rfl (rfl) ?_))))))
  refine w_exit rfl ?_
  repeat first | refine Na ?_ | refine Nb ?_ | refine Nc ?_ | refine Nd ?_ | refine Ne ?_
  refine w_reg 1 rfl rfl (j' := 2) (nA rfl (n_nil (Nc (Nf (z_r1 rfl rfl ?_)))))
  exact ⟨rfl, k1⟩

theorem eq345_c {g : Gm} {n : Nat} {v : Value} : C 345 #[.slice none 0 0, .slice none 0 0, v] g n fun u g' n' => u = .bool true ∧ K0 g n g' := by
  refine c_in3 Tryz.func345 rfl Tryz.ntmps345 rfl fun hw => (Na (w_reg 1 rfl rfl (j' := 1) (nA rfl (n_nil (Nc (Na (Na (w_reg 5 rfl rfl (j' := 6) (nM rfl (nO (s_len rfl rfl un_72 rfl (nM rfl (nO (s_len rfl rfl un_72 rfl (nO (s_bin rfl rfl rfl (n_nil (Nc (w_no rfl (rfl) (Ne (Nc (Na (Na (w_reg 3 rfl rfl (j' := 9) (nM rfl (nO (s_len rfl rfl un_72 rfl (nM rfl (n_nil ?_)))))))))))))))))))))))))))))
  repeat first | refine Na ?_ | refine Nb ?_ | refine Nc ?_ | refine Nd ?_ | refine Ne ?_
  refine w_loop (β := Unit) (fun _ => [(0, .slice none 0 0), (16, i0 0), (17, i0 0)])
    (fun _ g' n' => n ≤ n' ∧ K0 g n g') (fun _ => 0) () ⟨rfl, rfl, rfl, trivial⟩ ⟨by omega, (by repeat (first | exact Kp.refl _ _ _ | refine Kp.new ?_ (by omega) _))⟩ ?_
  rintro ⟨⟩ f g1 n1 hw1 ⟨hn1, k1⟩
  unfold i0
  repeat first | refine Na ?_ | refine Nb ?_ | refine Nc ?_ | refine Nd ?_ | refine Ne ?_
  refine w_reg 1 rfl rfl (j' := 1) (nO (s_bin rfl rfl rfl (n_nil (Nc (Na (w_no rfl (rfl) ?_))))))
  refine w_exit rfl ?_
  repeat first | refine Na ?_ | refine Nb ?_ | refine Nc ?_ | refine Nd ?_ | refine Ne ?_
  refine w_reg 1 rfl rfl (j' := 2) (nA rfl (n_nil (Nc (Nf (z_r1 rfl rfl ?_)))))
  exact ⟨rfl, k1⟩

theorem callEq0_c {g : Gm} {n : Nat} {me id kind : Int} : C 255 #[.agg (call0 me id kind).toArray, .agg (call0 me id kind).toArray] g n fun u g' n' => u = .bool true ∧ K0 g n g' := by
  unfold call0
  refine c_in2 Tryz.func255 rfl Tryz.ntmps255 rfl fun hw => (Na (w_reg 3 rfl rfl (j' := 3) (n_op .no (q := 0) rfl (s_boxa rfl (n_op .no (q := 1) rfl (s_boxa rfl (nA rfl (n_nil (Nc (Na (Na (w_reg 43 rfl rfl (j' := 46) (nO (s_fa0 rfl fo_76_0 (nO (sL rfl ag_3 ?_))))))))))))))))
  refine nO (s_fa0 rfl fo_76_0 (nO (sL rfl ag_3 ?_)))
  refine nO (s_bin rfl rfl rfl (nM rfl (nY rfl rfl (bne_self_eq_false _) (s_fa0 rfl fo_76_1 (nY rfl rfl (bne_self_eq_false _) (sL rfl ag_2 ?_))))))
  refine nY rfl rfl (bne_self_eq_false _) (s_fa0 rfl fo_76_1 (nY rfl rfl (bne_self_eq_false _) (sL rfl ag_2 ?_)))
  refine nY rfl rfl (bne_self_eq_false _) (s_bin rfl rfl rfl (nO (s_pf rfl (bne_self_eq_false _) rfl (nM rfl (nY rfl rfl (bne_self_eq_false _) (s_fa0 rfl fo_76_2 (nY rfl rfl (bne_self_eq_false _) (sL rfl ag_3 ?_))))))))
  refine nY rfl rfl (bne_self_eq_false _) (s_fa0 rfl fo_76_2 (nY rfl rfl (bne_self_eq_false _) (sL rfl ag_3 ?_)))
  refine nY rfl rfl (bne_self_eq_false _) (s_bin rfl rfl rfl (nO (s_pf rfl (bne_self_eq_false _) rfl (nM rfl (nY rfl rfl (bne_self_eq_false _) (s_fa0 rfl fo_76_3 (nY rfl rfl (bne_self_eq_false _) (sL rfl ag_9 ?_))))))))
  refine nY rfl rfl (bne_self_eq_false _) (s_fa0 rfl fo_76_3 (nY rfl rfl (bne_self_eq_false _) (sL rfl ag_9 ?_)))
  refine nY rfl rfl (bne_self_eq_false _) (s_bin rfl rfl rfl (nO (s_pf rfl (bne_self_eq_false _) rfl (nM rfl (nY rfl rfl ((by simp)) (s_fa0 rfl fo_76_4 (nY rfl rfl ((by simp)) (sL rfl ag_2 ?_))))))))
  refine nY rfl rfl ((by simp)) (s_fa0 rfl fo_76_4 (nY rfl rfl ((by simp)) (sL rfl ag_2 ?_)))
  refine nY rfl rfl ((by simp)) (s_bin rfl rfl rfl (nO (s_pf rfl ((by simp)) rfl (nM rfl (nY rfl rfl (rfl) (s_fa0 rfl fo_76_5 (nY rfl rfl (rfl) (s_fa rfl fo_74_0 (nY rfl rfl (rfl) (sL rfl ag_71 ?_))))))))))
  refine nY rfl rfl (rfl) (s_fa0 rfl fo_76_5 (nY rfl rfl (rfl) (s_fa rfl fo_74_0 (nY rfl rfl (rfl) (sL rfl ag_71 ?_)))))
  refine n_call (.yes rfl rfl (rfl)) rfl rfl rfl (C.use (eq344_c) fun v g1 n1 hw1 hn1 hq => ?_)
  obtain ⟨rfl, k1⟩ := hq
  have c0 : g1 (n + 0) = some (.cells (call0 me id kind) 0 false) := k1.lt (by omega) ((gs_ne (by omega) _).trans (gs_same _ _ _))
  have c1 : g1 (n + 1) = some (.cells (call0 me id kind) 0 false) := k1.lt (by omega) (gs_same _ _ _)
  unfold call0 at c0 c1
  refine nY rfl rfl (rfl) (s_not rfl (nO (s_pf rfl (rfl) rfl (n_nil (Nc (w_no rfl (rfl) (Ne (Nc (Na (w_reg 8 rfl rfl (j' := 8) (nO (s_fa0 rfl fo_76_5 (nO (s_fa rfl fo_74_1 (nO (sL rfl ag_72 ?_))))))))))))))))
  refine nO (s_fa0 rfl fo_76_5 (nO (s_fa rfl fo_74_1 (nO (sL rfl ag_72 ?_)))))
  refine n_call .no rfl rfl rfl (C.use (eq345_c) fun v g2 n2 hw2 hn2 hq => ?_)
  obtain ⟨rfl, k2⟩ := hq
  refine nA rfl (n_nil (Nc (Nf (z_r1 rfl rfl ?_))))
  exact ⟨rfl, (Kp.trans0 (n := n) (by repeat (first | exact Kp.refl _ _ _ | refine Kp.new ?_ (by omega) _)) k1 (by omega)).trans0 (k2.dn (m := n) (by omega)) (by omega)⟩

theorem bare0_c {g : Gm} {n : Nat} {me id : Int} : C 256 #[.agg (call0 me id 2).toArray] g n fun u g' n' => u = .agg (call0 me id 2).toArray ∧ K0 g n g' := by
  unfold call0
  refine c_in1 Tryz.func256 rfl Tryz.ntmps256 rfl fun hw => (Na (w_reg 2 rfl rfl (j' := 2) (n_op .no (q := 0) rfl (s_boxa rfl (n_op .no (q := 1) rfl (s_al zl_76 (n_nil (Nc (Na (w_reg 9 rfl rfl (j' := 11) (nO (s_fa0 rfl fo_76_0 (nO (sL rfl ag_3 ?_))))))))))))))
  refine nO (s_fa0 rfl fo_76_1 (nO (sL rfl ag_2 ?_)))
  refine nO (s_fa0 rfl fo_76_2 (nO (sL rfl ag_3 ?_)))
  refine nO (s_bld pl_76 zl_76 rfl rfl rfl (n_op .no (q := 9) rfl (s_al zl_76 (nO (sSw rfl rfl sz_76 rfl rfl ?_)))))
  refine n_nil (Nc (Na (Na (w_reg 2 rfl rfl (j' := 13) (nO (s_fa0 rfl fo_76_2 (nO (sL rfl ag_3 ?_))))))))
  refine n_nil (Nc (Nb (Na (w_reg 2 rfl rfl (j' := 15) (nO (s_bin rfl rfl rfl (nA rfl (n_nil (Nc (w_no rfl (rfl) (Na (w_reg 2 rfl rfl (j' := 17) (nO (s_bin rfl rfl rfl (nA rfl (n_nil (Nc (w_no rfl (rfl) (Na (w_reg 2 rfl rfl (j' := 19) (nO (s_bin rfl rfl rfl (nA rfl (n_nil (Nc (w_no rfl (rfl) (Ne (Nd (Nc (Na (w_reg 2 rfl rfl (j' := 21) (nO (sLf rfl ag_76 sz_76 ?_)))))))))))))))))))))))))))))))))
  refine nO (sSw rfl rfl sz_76 rfl rfl ?_)
  refine n_nil (Nc (Nf (z_rc rfl rfl (by repeat first | exact gS | refine gN (by omega) ?_) ag_76 sz_76 (by exact rfl) (by exact Nat.le_of_ble_eq_true rfl) ?_)))
  exact ⟨rfl, (by repeat (first | exact Kp.refl _ _ _ | refine Kp.new ?_ (by omega) _))⟩

theorem may0_c {g : Gm} {n : Nat} {me id : Int} (h0 : 0 ≤ me) (h7 : me ≤ 7) (i0 : 1 ≤ id) (i1 : id ≤ 1099511627776) : C 154 #[.agg (call0 me id 2).toArray] g n fun u g' n' => u = .bool true ∧ K0 g n g' := by
  unfold call0
  refine c_in1 Tryz.func154 rfl Tryz.ntmps154 rfl fun hw => (Na (w_reg 2 rfl rfl (j' := 2) (n_op .no (q := 0) rfl (s_boxa rfl (nA rfl (n_nil (Nc (Na (Na (w_drw (T6 154 1) [(0, []), (1, []), (2, []), (3, []), (4, []), (5, []), (6, []), (7, []), (8, []), (9, []), (10, []), (11, []), (12, []), (13, []), (14, []), (15, []), (16, []), (17, []), (18, []), (19, []), (20, [19]), (21, [19]), (22, []), (23, []), (24, [])] 25 (by kernel_rfl) rfl rfl (j' := 27) (dO rfl rfl (s_fa0 rfl fo_76_0 ⟨⟨rfl, rfl⟩, (dT rfl rfl rfl (sL rfl ag_3 ⟨clash_nil, ?_⟩))⟩))))))))))))
  refine dO rfl rfl (s_bin rfl rfl rfl ⟨⟨rfl, rfl⟩, (dM rfl rfl (d_op rfl rfl (.yes rfl rfl (decide_eq_false (by omega))) (q := 6) rfl (s_fa0 rfl fo_76_0 ⟨⟨rfl, rfl⟩, (d_tc rfl rfl rfl (.yes rfl rfl (decide_eq_false (by omega))) (q := 7) rfl (sL rfl ag_3 ⟨clash_nil, ?_⟩))⟩)))⟩)
  refine d_op rfl rfl (.yes rfl rfl (decide_eq_false (by omega))) (q := 8) rfl (s_bin rfl rfl rfl ⟨⟨rfl, rfl⟩, (dO rfl rfl (s_pf rfl (decide_eq_false (by omega)) rfl ⟨⟨rfl, rfl⟩, (dM rfl rfl (d_op rfl rfl (.yes rfl rfl (decide_eq_false (by omega))) (q := 11) rfl (s_fa0 rfl fo_76_1 ⟨⟨rfl, rfl⟩, (d_tc rfl rfl rfl (.yes rfl rfl (decide_eq_false (by omega))) (q := 12) rfl (sL rfl ag_2 ⟨clash_nil, ?_⟩))⟩)))⟩))⟩)
  refine d_op rfl rfl (.yes rfl rfl (decide_eq_false (by omega))) (q := 13) rfl (s_bin rfl rfl rfl ⟨⟨rfl, rfl⟩, (dO rfl rfl (s_pf rfl (decide_eq_false (by omega)) rfl ⟨⟨rfl, rfl⟩, (dM rfl rfl (d_op rfl rfl (.yes rfl rfl (decide_eq_false (by omega))) (q := 16) rfl (s_fa0 rfl fo_76_1 ⟨⟨rfl, rfl⟩, (d_tc rfl rfl rfl (.yes rfl rfl (decide_eq_false (by omega))) (q := 17) rfl (sL rfl ag_2 ⟨clash_nil, ?_⟩))⟩)))⟩))⟩)
  refine d_op rfl rfl (.yes rfl rfl (decide_eq_false (by omega))) (q := 18) rfl (s_bin rfl rfl rfl ⟨⟨rfl, rfl⟩, (dO rfl rfl (s_pf rfl (decide_eq_false (by omega)) rfl ⟨⟨rfl, rfl⟩, (dM rfl rfl (d_tc rfl rfl rfl (.yes rfl rfl (decide_eq_false (by omega))) (q := 21) rfl (sLf rfl ag_76 sz_76 ⟨clash_nil, ?_⟩)))⟩))⟩)
  refine d_tc rfl rfl rfl (.yes rfl rfl (decide_eq_false (by omega))) (q := 22) rfl (sLf rfl ag_76 sz_76 ⟨clash_rd rfl, ?_⟩)
  refine d_call rfl (.yes rfl rfl (decide_eq_false (by omega))) rfl rfl rfl (call_rd rfl) (C.use (bare0_c) fun v g1 n1 hw1 hn1 hq => ?_)
  obtain ⟨rfl, k1⟩ := hq
  refine ⟨?_, ?_⟩
  · repeat' (first | exact trivial | exact kept1 k1 (by omega) (gs_same _ _ _) | apply And.intro)
  have c1 : g1 (n + 0) = some (.cells (call0 me id 2) 0 false) := k1.lt (by omega) (gs_same _ _ _)
  unfold call0 at c1
  unfold call0
  refine d_call rfl (.yes rfl rfl (decide_eq_false (by omega))) rfl rfl rfl call_nil (C.use (callEq0_c) fun v g2 n2 hw2 hn2 hq => ?_)
  obtain ⟨rfl, k2⟩ := hq
  refine ⟨kept_nil, ?_⟩
  have c2 : g2 (n + 0) = some (.cells (call0 me id 2) 0 false) := k2.lt (by omega) c1
  unfold call0 at c2
  refine d_op rfl rfl (.yes rfl rfl (decide_eq_false (by omega))) (q := 25) rfl (s_not rfl ⟨⟨rfl, rfl⟩, (dO rfl rfl (s_pf rfl (decide_eq_false (by omega)) rfl ⟨⟨rfl, rfl⟩, (d_nil (Nc (w_no rfl (rfl) (Ne (Nc (Na (Na (w_reg 2 rfl rfl (j' := 2) (nO (s_fa0 rfl fo_76_2 (nO (sL rfl ag_3 ?_))))))))))))⟩))⟩)
  refine n_nil (Nc (Nb (Na (w_reg 2 rfl rfl (j' := 4) (nO (s_bin rfl rfl rfl (nA rfl (n_nil (Nc (w_no rfl (rfl) (Na (w_reg 2 rfl rfl (j' := 6) (nO (s_bin rfl rfl rfl (nA rfl (n_nil (Nc (w_yes rfl (rfl) (Na (w_reg 1 rfl rfl (j' := 7) (nA rfl (n_nil (Nc (Nf (z_r1 rfl rfl ?_)))))))))))))))))))))))))
  exact ⟨rfl, (Kp.trans0 (n := n) (by repeat (first | exact Kp.refl _ _ _ | refine Kp.new ?_ (by omega) _)) k1 (by omega)).trans0 (k2.dn (m := n) (by omega)) (by omega)⟩

def wire0 (me id : Int) : Bs := be 1 2 ++ be 1 me.toNat ++ be 8 id.toNat ++ txt [] ++ be 8 0 ++ be 1 0 ++ be 1 0

theorem put0_c {g : Gm} {n : Nat} {me id : Int} (h0 : 0 ≤ me) (h7 : me ≤ 7) (i0 : 1 ≤ id) (i1 : id ≤ 1099511627776) : C 86 #[.agg (call0 me id 2).toArray] g n fun u g' n' => (∃ a c, u = .slice a 22 c) ∧ BytesNew n g' u (wire0 me id) ∧ K0 g n g' := by
  unfold call0
  refine c_in1 Tryz.func86 rfl Tryz.ntmps86 rfl fun hw => (Na (w_reg 2 rfl rfl (j' := 2) (n_op .no (q := 0) rfl (s_boxa rfl (nA rfl (n_nil (Nc (Na (Na (w_reg 3 rfl rfl (j' := 5) (nO (sLf rfl ag_76 sz_76 ?_))))))))))))
  refine n_call .no rfl rfl rfl (C.use (may0_c h0 h7 i0 i1) fun v g1 n1 hw1 hn1 hq => ?_)
  obtain ⟨rfl, k1⟩ := hq
  refine nO (s_not rfl (n_nil (Nc (w_no rfl (rfl) (Ne (Nc (Na (w_reg 1 rfl rfl (j' := 1) (n_op .no (q := 0) rfl (s_al zl_281 (n_nil ?_)))))))))))
  repeat first | refine Na ?_ | refine Nb ?_ | refine Nc ?_ | refine Nd ?_ | refine Ne ?_
  refine w_gen fun g9 n9 hg9 hn9 hwg9 => ?_
  have kcell : g9 n = some (.cells (call0 me id 2) 0 false) := by rw [hg9]; exact (gs_ne (by omega) _).trans (k1.lt (by omega) (gs_same _ _ _))
  have hA9 : WrAt n1 g9 n1 [] := ⟨zW, _, by rw [hg9]; exact gs_same _ _ _, zW_len, zW_b, BytesNew.nil _ _, Nat.le_refl _⟩
  have k9 : K0 g n g9 := by rw [hg9]; exact Kp.new (Kp.trans0 (n' := n) (by repeat (first | exact Kp.refl _ _ _ | refine Kp.new ?_ (by omega) _)) (k1.dn (by omega)) (by omega)) (by omega) _
  clear hg9
  unfold call0 at kcell
  repeat first | refine Na ?_ | refine Nb ?_ | refine Nc ?_ | refine Nd ?_ | refine Ne ?_
  refine w_reg 3 rfl rfl (j' := 3) (nO (s_fa0 rfl fo_76_2 (nO (sL rfl ag_3 ?_))))
  refine n_call .no rfl rfl rfl (C.use (num_c (w := n1) (m := 2) (s := 1) hA9 (by omega) rfl rfl (by decide) (Nat.zero_le _)) fun v g2 n2 hw2 hn2 hq => ?_)
  obtain ⟨hA2, k2⟩ := hq
  refine n_nil (Nc (Na (w_reg 3 rfl rfl (j' := 3) (nO (s_fa0 rfl fo_76_0 (nO (s_ld rfl (by repeat first | exact gS | apply Kp.loc k2 (by omega) (by omega) | exact kcell | refine gN (by omega) ?_) ag_3 (by first | exact rfl | exact kcell) ?_)))))))
  refine n_call .no rfl rfl rfl (C.use (num_c (w := n1) (m := me.toNat) (s := 1) hA2 (by omega) (by omega) rfl (by decide) (by simp only [List.length_append, List.length_nil, be_length]; omega)) fun v g3 n3 hw3 hn3 hq => ?_)
  obtain ⟨hA3, k3⟩ := hq
  have k3 := k2.tr k3 (by omega)
  refine n_nil (Nc (Na (w_reg 3 rfl rfl (j' := 3) (nO (s_fa0 rfl fo_76_1 (nO (s_ld rfl (by repeat first | exact gS | apply Kp.loc k3 (by omega) (by omega) | exact kcell | refine gN (by omega) ?_) ag_2 (by first | exact rfl | exact kcell) ?_)))))))
  refine n_call .no rfl rfl rfl (C.use (num_c (w := n1) (m := id.toNat) (s := 8) hA3 (by omega) (by omega) rfl (by decide) (by simp only [List.length_append, List.length_nil, be_length]; omega)) fun v g4 n4 hw4 hn4 hq => ?_)
  obtain ⟨hA4, k4⟩ := hq
  have k4 := k3.tr k4 (by omega)
  refine n_nil (Nc (Na (w_reg 3 rfl rfl (j' := 3) (nO (s_fa0 rfl fo_76_3 (nO (s_ld rfl (by repeat first | exact gS | apply Kp.loc k4 (by omega) (by omega) | exact kcell | refine gN (by omega) ?_) ag_9 (by first | exact rfl | exact kcell) ?_)))))))
  refine n_call .no rfl rfl rfl (C.use (text_c (t := []) (w := n1) hA4 (by omega) (by decide) (by simp only [List.length_append, List.length_nil, be_length]; omega)) fun v g5 n5 hw5 hn5 hq => ?_)
  obtain ⟨hA5, k5⟩ := hq
  have k5 := k4.tr k5 (by omega)
  refine n_nil (Nc (Na (w_reg 3 rfl rfl (j' := 3) (nO (s_fa0 rfl fo_76_4 (nO (s_ld rfl (by repeat first | exact gS | apply Kp.loc k5 (by omega) (by omega) | exact kcell | refine gN (by omega) ?_) ag_2 (by first | exact rfl | exact kcell) ?_)))))))
  refine n_call .no rfl rfl rfl (C.use (num_c (w := n1) (m := 0) (s := 8) hA5 (by omega) rfl rfl (by decide) (by simp only [List.length_append, List.length_nil, be_length, txt]; omega)) fun v g6 n6 hw6 hn6 hq => ?_)
  obtain ⟨hA6, k6⟩ := hq
  have k6 := k5.tr k6 (by omega)
  refine n_nil (Nc (Na (w_reg 5 rfl rfl (j' := 5) (nO (s_fa0 rfl fo_76_5 (nO (s_fa rfl fo_74_0 (nO (s_ld rfl (by repeat first | exact gS | apply Kp.loc k6 (by omega) (by omega) | exact kcell | refine gN (by omega) ?_) ag_71 (by first | exact rfl | exact kcell) ?_)))))))))
  refine nO (s_len rfl rfl un_71 rfl (n_call .no rfl rfl rfl (C.use (num_c (w := n1) (m := 0) (s := 1) hA6 (by omega) rfl rfl (by decide) (by simp only [List.length_append, List.length_nil, be_length, txt]; omega)) fun v g7 n7 hw7 hn7 hq => ?_)))
  obtain ⟨hA7, k7⟩ := hq
  have k7 := k6.tr k7 (by omega)
  refine n_nil (Nc (Na (Na (w_reg 5 rfl rfl (j' := 5) (nO (s_fa0 rfl fo_76_5 (nO (s_fa rfl fo_74_0 (nO (s_ld rfl (by repeat first | exact gS | apply Kp.loc k7 (by omega) (by omega) | exact kcell | refine gN (by omega) ?_) ag_71 (by first | exact rfl | exact kcell) ?_))))))))))
  refine nO (s_len rfl rfl un_71 rfl (nM rfl (n_nil ?_)))
  repeat first | refine Na ?_ | refine Nb ?_ | refine Nc ?_ | refine Nd ?_ | refine Ne ?_
  refine w_loop (β := Unit) (fun _ => [(1, .pointer (some ⟨n, 0, none⟩)), (3, .pointer (some ⟨n1, 0, none⟩)), (34, .int .i64 0), (35, .int .i64 0)])
    (fun _ g' n' => n9 ≤ n' ∧ Kp (FW n1 n1) g9 n9 g' ∧ WrAt n1 g' n1 _) (fun _ => 0) () ⟨rfl, rfl, rfl, rfl, trivial⟩ ⟨by omega, k7.dn (by omega), hA7⟩ ?_
  rintro ⟨⟩ f g10 n10 hw10 ⟨hn10, k10, hA10⟩
  repeat first | refine Na ?_ | refine Nb ?_ | refine Nc ?_ | refine Nd ?_ | refine Ne ?_
  refine w_reg 1 rfl rfl (j' := 1) (nO (s_bin rfl rfl rfl (n_nil (Nc (Na (w_no rfl (rfl) ?_))))))
  refine w_exit rfl ?_
  repeat first | refine Na ?_ | refine Nb ?_ | refine Nc ?_ | refine Nd ?_ | refine Ne ?_
  refine w_reg 5 rfl rfl (j' := 6) (nO (s_fa0 rfl fo_76_5 (nO (s_fa rfl fo_74_1 (nO (s_ld rfl (by repeat first | exact gS | apply Kp.loc k10 (by omega) (by omega) | exact kcell | refine gN (by omega) ?_) ag_72 (by first | exact rfl | exact kcell) ?_))))))
  refine nO (s_len rfl rfl un_72 rfl (n_call .no rfl rfl rfl (C.use (num_c (w := n1) (m := 0) (s := 1) hA10 (by omega) rfl rfl (by decide) (by simp only [List.length_append, List.length_nil, be_length, txt]; omega)) fun v g11 n11 hw11 hn11 hq => ?_)))
  obtain ⟨hA11, k11⟩ := hq
  have k11 := k10.tr k11 (by omega)
  refine n_nil (Nc (Na (Na (w_reg 5 rfl rfl (j' := 5) (nO (s_fa0 rfl fo_76_5 (nO (s_fa rfl fo_74_1 (nO (s_ld rfl (by repeat first | exact gS | apply Kp.loc k11 (by omega) (by omega) | exact kcell | refine gN (by omega) ?_) ag_72 (by first | exact rfl | exact kcell) ?_))))))))))
  refine nO (s_len rfl rfl un_72 rfl (nM rfl (n_nil ?_)))
  repeat first | refine Na ?_ | refine Nb ?_ | refine Nc ?_ | refine Nd ?_ | refine Ne ?_
  refine w_loop (β := Unit) (fun _ => [(3, .pointer (some ⟨n1, 0, none⟩)), (57, .int .i64 0), (58, .int .i64 0)])
    (fun _ g' n' => n9 ≤ n' ∧ Kp (FW n1 n1) g9 n9 g' ∧ WrAt n1 g' n1 _) (fun _ => 0) () ⟨rfl, rfl, rfl, trivial⟩ ⟨by omega, k11.dn (by omega), hA11⟩ ?_
  rintro ⟨⟩ f g12 n12 hw12 ⟨hn12, k12, hA12⟩
  repeat first | refine Na ?_ | refine Nb ?_ | refine Nc ?_ | refine Nd ?_ | refine Ne ?_
  refine w_reg 1 rfl rfl (j' := 1) (nO (s_bin rfl rfl rfl (n_nil (Nc (Na (w_no rfl (rfl) ?_))))))
  refine w_exit rfl ?_
  repeat first | refine Na ?_ | refine Nb ?_ | refine Nc ?_ | refine Nd ?_ | refine Ne ?_
  refine w_reg 2 rfl rfl (j' := 3) (n_call .no rfl rfl rfl (C.use (wbytes_c hA12 (by simp only [List.length_append, List.length_nil, be_length, txt]; omega)) fun v g13 n13 hw13 hn13 hq => ?_))
  obtain ⟨⟨a, c, rfl⟩, hB, k13⟩ := hq
  refine nA rfl (n_nil (Nc (Nf (z_r1 rfl rfl ?_))))
  refine ⟨⟨a, c, ?_⟩, ?_, (k9.trans0 (k12.fw (q := n) (by omega) (by omega)) (Nat.le_refl _)).trans0 (k13.dn (m := n) (by omega)) (by omega)⟩
  · simp only [List.length_append, List.length_nil, be_length, txt]
  · exact hB.up (by omega)

end Go.Proofs.YtfchjhfccnodpaaGreat
end

section
open Go.Proofs
namespace Go.Proofs.YtfchjhfccnodpaaGreat
set_option linter.unusedSimpArgs false
set_option linter.unusedVariables false
set_option maxRecDepth 100000

noncomputable def zR : List Value := (zeroL E6.P 295).getD []
theorem zl_295 : zeroL E6.P 295 = some zR := id (by kernel_rfl)
theorem zR_len : zR.length = 299 := id (by kernel_rfl)
theorem zR_b : zR[298]? = some (.bool false) := id (by kernel_rfl)
theorem upL_of : ∀ {c : List Value} {o : Nat} {v : Value}, o < c.length → upL c o v = some (splice c o [v])
  | [], _, _, h => absurd h (Nat.not_lt_zero _)
  | x :: r, 0, v, h => by simp [upL, splice]
  | x :: r, o + 1, v, h => by
    have := upL_of (c := r) (o := o) (v := v) (by simpa using h)
    simp [upL, this, splice, Nat.add_right_comm]
theorem zR_ok : (([(0, 297), (297, 1), (298, 1)] : List (Nat × Nat)).all fun q => Nat.ble (q.1 + q.2) zR.length) = true := by rw [zR_len]; rfl
theorem zR_fill (a : Option Addr) (m c : Nat) : fillF [(0, 297), (297, 1), (298, 1)] zR [(1, .slice a m c)] = some (splice zR 297 [.slice a m c]) := by
  have h : upL zR 297 (.slice a m c) = some (splice zR 297 [.slice a m c]) := upL_of (by rw [zR_len]; decide)
  have h2 : upLs zR 297 [.slice a m c] = some (splice zR 297 [.slice a m c]) := by simp only [upLs, h]
  show (match upLs zR 297 [.slice a m c] with
    | some cs' => fillF [(0, 297), (297, 1), (298, 1)] cs' []
    | none => none) = _
  rw [h2]; rfl

def RdAt (b : Nat) (g : Gm) (r : Nat) (bs : Bs) (bad : Bool) : Prop := ∃ c v, g r = some (.cells c 0 false) ∧ c.length = 299 ∧ c[297]? = some v ∧ c[298]? = some (.bool bad) ∧ BytesNew b g v bs
def FRd (r : Nat) (x : Nat) (o : AObj) : Prop := x = r ∧ ∃ c ro, o = .cells c 0 ro
theorem FRd.of {r : Nat} {g : Gm} {c : List Value} {ro : Bool} (h : g r = some (.cells c 0 ro)) : ∀ o, g r = some o → FRd r r o := fun o ho => ⟨rfl, c, ro, Option.some.inj (ho.symm.trans h)⟩
theorem FRd.nob (r : Nat) : NoB (FRd r) := fun x cl ro h => by obtain ⟨_, c, q, e⟩ := h; cases e

theorem RdAt.kp0 {b r : Nat} {g g' : Gm} {n : Nat} {bs : Bs} {bad : Bool} (h : RdAt b g r bs bad) (hk : K0 g n g') (hw : WF g n) : RdAt b g' r bs bad := by
  obtain ⟨c, v, q1, q2, q3, q4, q5⟩ := h
  exact ⟨c, v, hk.at0 hw q1, q2, q3, q4, q5.kp0 hk hw⟩
theorem Kp.rloc {r : Nat} {g g' : Gm} {n : Nat} (h : Kp (FRd r) g n g') {x : Nat} {o : AObj} (hx : x < n) (hw : x ≠ r) (hg : g x = some o) : g' x = some o := h x _ hx hg fun e => hw e.1
theorem Kp.rfw {r : Nat} {g g' : Gm} {n q : Nat} (h : Kp (FRd r) g n g') (hb : q ≤ r) (hq : q ≤ n) : K0 g q g' := fun x o hx ho _ => h x o (by omega) ho fun hf => by have := hf.1; omega

theorem newReader_c {g : Gm} {n : Nat} {v : Value} {bs : Bs} (h : BytesAt g v bs) (hl : bs.length ≤ 2 ^ 40) : C 91 #[v] g n fun u g' n' => ∃ r, u = .pointer (some ⟨r, 0, none⟩) ∧ n ≤ r ∧ r < n' ∧ RdAt n g' r bs false ∧ K0 g n g' := by
  refine c_in1 Tryz.func91 rfl Tryz.ntmps91 rfl fun hw => (Na (w_reg 1 rfl rfl (j' := 1) (nA rfl (n_nil (Nc (Na (w_reg 5 rfl rfl (j' := 6) (nM rfl (n_call .no rfl rfl rfl (C.use (clone_c (BytesAt.kp0 h (by repeat (first | exact Kp.refl _ _ _ | refine Kp.new ?_ (by omega) _)) hw) (by omega)) fun v g1 n1 hw1 hn1 hq => ?_))))))))))
  obtain ⟨⟨a, c, rfl⟩, hB, k1⟩ := hq
  refine nO (s_bld pl_295 zl_295 rfl zR_ok (zR_fill _ _ _) (n_op .no (q := 4) rfl (s_boxa rfl (nA rfl (n_nil (Nc (Nf (z_r1 rfl rfl ?_))))))))
  refine ⟨_, rfl, by omega, by omega, ⟨_, _, gs_same _ _ _, ?_, ?_, ?_, ((hB.other (fun e => by have := hB.2 _ e; omega) _).up (by omega))⟩, Kp.new (k1.dn (by omega)) (by omega) _⟩
  · rw [splice_length (by simp [zR_len])]; exact zR_len
  · rw [splice_get (by simp [zR_len]), if_pos (by simp)]; rfl
  · rw [splice_get (by simp [zR_len]), if_neg (by simp)]; exact zR_b

theorem or_small {a b : Int} {k : Nat} (ha : 0 ≤ a ∧ a < 2 ^ k) (hb : 0 ≤ b ∧ b < 2 ^ k) (hk : k ≤ 62) : 0 ≤ orV a b ∧ orV a b < 2 ^ k := by
  obtain ⟨x, rfl⟩ := Int.eq_ofNat_of_zero_le ha.1
  obtain ⟨y, rfl⟩ := Int.eq_ofNat_of_zero_le hb.1
  have hp : (2 : Nat) ^ k ≤ 2 ^ 62 := Nat.pow_le_pow_right (by decide) hk
  have hx : x < 2 ^ k := by have := ha.2; exact_mod_cast this
  have hy : y < 2 ^ k := by have := hb.2; exact_mod_cast this
  have h1 : (BitVec.ofInt 64 (x : Int) ||| BitVec.ofInt 64 (y : Int)).toNat = x ||| y := by
    rw [BitVec.toNat_or, BitVec.ofInt_natCast, BitVec.ofInt_natCast, BitVec.toNat_ofNat, BitVec.toNat_ofNat, Nat.mod_eq_of_lt (by omega), Nat.mod_eq_of_lt (by omega)]
  have h2 : x ||| y < 2 ^ k := Nat.or_lt_two_pow hx hy
  unfold orV
  rw [h1, show IntKind.i64.wrap ((x ||| y : Nat) : Int) = ((x ||| y : Nat) : Int) from wrap_id (by omega) (by omega)]
  exact ⟨by omega, by exact_mod_cast h2⟩

theorem SlC.one {g : Gm} {v : Value} {m i : Nat} {cs : List Value} {w : Value} (h : SlC g 1 v m cs) (hi : i < m) (hw : cs[i]? = some w) : ∃ l o c cl ro, v = .slice (some ⟨l, o, none⟩) m c ∧ g l = some (.cells cl 1 ro) ∧ cl[o + i * 1]? = some w := by
  obtain ⟨l, o, c, cl, ro, h1, _, h2, h3, h4⟩ := SlC.pos h (by omega)
  refine ⟨l, o, c, cl, ro, h1, h2, ?_⟩
  rw [take_cell h4 (by omega), Nat.mul_one]; exact hw

theorem or_add {x y : Nat} (hy : y < 256) (hx : x * 256 < 2 ^ 62) : orV (IntKind.i64.wrap ((x : Int) * 2 ^ 8)) (y : Int) = ((x * 256 + y : Nat) : Int) := by
  rw [show IntKind.i64.wrap ((x : Int) * 2 ^ 8) = ((x * 256 : Nat) : Int) from by rw [wrap_id (by omega) (by omega)]; omega]
  have h1 : (BitVec.ofInt 64 ((x * 256 : Nat) : Int) ||| BitVec.ofInt 64 (y : Int)).toNat = x * 256 ||| y := by
    rw [BitVec.toNat_or, BitVec.ofInt_natCast, BitVec.ofInt_natCast, BitVec.toNat_ofNat, BitVec.toNat_ofNat, Nat.mod_eq_of_lt (by omega), Nat.mod_eq_of_lt (by omega)]
  have h2 : x * 256 ||| y = x * 256 + y := by
    have := Nat.two_pow_add_eq_or_of_lt (i := 8) (b := y) (by omega) x
    rw [show x * 256 = 2 ^ 8 * x by omega]; exact this.symm
  unfold orV
  rw [h1, h2]
  exact wrap_id (by omega) (by omega)

theorem be_at : ∀ {s m i : Nat} (h : i < s), (be s m)[i]? = some (UInt8.ofNat (m / 256 ^ (s - 1 - i)))
  | 0, _, _, h => absurd h (Nat.not_lt_zero _)
  | s + 1, m, 0, _ => rfl
  | s + 1, m, i + 1, h => by
    have := be_at (s := s) (m := m) (i := i) (by omega)
    show (be s m)[i]? = _
    rw [this, show s + 1 - 1 - (i + 1) = s - 1 - i by omega]

theorem rnum_c {g : Gm} {n b r s m : Nat} {bs : Bs} {zs : Int} (h : RdAt b g r (be s m ++ bs) false) (hs : 1 ≤ s ∧ s ≤ 8) (hzs : zs = (s : Int)) (hm : m < 256 ^ s) (hm2 : m < 2 ^ 62) :
    C 92 #[.pointer (some ⟨r, 0, none⟩), .int .i64 zs] g n fun u g' n' => u = .int .i64 (m : Int) ∧ RdAt b g' r bs false ∧ Kp (FRd r) g n g' := by
  subst hzs
  obtain ⟨c, v, h1, h2, h3, h4, h5⟩ := h
  obtain ⟨av, cv, rfl⟩ := h5.len
  have hlen : (be s m ++ bs).length = s + bs.length := by rw [List.length_append, be_length]
  refine c_in2 Tryz.func92 rfl Tryz.ntmps92 rfl fun hw => ?_
  have hrn := hw _ _ h1
  refine Na (w_reg 1 rfl rfl (j' := 1) (nA rfl (n_nil (Nc (Na (Na (w_reg 7 rfl rfl (j' := 8) (nM rfl (nN rfl (nO (s_fa0 rfl fo_295_1 (nO (sL rfl ag_43 ?_)))))))))))))
  refine nO (s_len rfl rfl un_43 rfl (nM rfl (nO (s_bin rfl rfl rfl (n_nil (Nc (w_no rfl (decide_eq_false (by omega)) (Ne (Nc (Na (w_reg 1 rfl rfl (j' := 9) (nA rfl (n_nil (Nc (Na (Na (w_reg 8 rfl rfl (j' := 17) (nM rfl (nN rfl (nO (s_fa0 rfl fo_295_1 (nO (sL rfl ag_43 ?_)))))))))))))))))))))))
  refine nM rfl (n_op .no (q := 14) rfl (s_hiC un_43 sz_5 rfl h5.at rfl (by omega) fun a5 c5 hs5 hn5 => (nO (s_len rfl rfl un_43 rfl (nM rfl (n_nil ?_))))))
  refine z_seq ?_
  refine z_meet (β := Unit) (fun z => [(0, .pointer (some ⟨r, 0, none⟩)), (1, .int .i64 (s : Int)), (5, .int .i64 (m : Int))]) (fun z g' n' => n ≤ n' ∧ K0 g n g') ?_ ?_
  · repeat first | refine Na ?_ | refine Nb ?_ | refine Nc ?_ | refine Nd ?_ | refine Ne ?_
    refine w_loop (β := Nat) (fun x => [(0, .pointer (some ⟨r, 0, none⟩)), (1, .int .i64 (s : Int)), (5, .int .i64 ((m / 256 ^ (s - x) : Nat) : Int)), (26, .slice a5 s c5), (27, .int .i64 (s : Int)), (28, .int .i64 (x : Int))])
      (fun x g' n' => x ≤ s ∧ n ≤ n' ∧ K0 g n g') (fun x => s - x) 0 ⟨rfl, rfl, by rw [Nat.sub_zero, Nat.div_eq_of_lt hm]; rfl, rfl, rfl, rfl, trivial⟩ ⟨by omega, by omega, (by repeat (first | exact Kp.refl _ _ _ | refine Kp.new ?_ (by omega) _))⟩ ?_
    rintro i f g1 n1 hw1 ⟨hi, hn1, k1⟩
    repeat first | refine Na ?_ | refine Nb ?_ | refine Nc ?_ | refine Nd ?_ | refine Ne ?_
    refine w_reg 1 rfl rfl (j' := 1) (nO (s_bin rfl rfl rfl (n_nil (Nc (Na (w_if rfl (fun hc6 => ?_) (fun hc6 => ?_)))))))
    · have hc6 : i < s := by simpa using hc6
      have hbi : (be s m ++ bs)[i]? = some (UInt8.ofNat (m / 256 ^ (s - 1 - i))) := by rw [List.getElem?_append_left (by rw [be_length]; exact hc6)]; exact be_at hc6
      obtain ⟨l6, o6, c6, cl6, ro6, x1, x2, x3⟩ := SlC.one (hs5.kp0 k1 hw) hc6 (w := .int .u8 ((UInt8.ofNat (m / 256 ^ (s - 1 - i))).toNat : Int)) (by rw [List.getElem?_take, if_pos (by omega), u8c, List.getElem?_map, hbi]; rfl)
      cases x1
      have hb8 := (UInt8.ofNat (m / 256 ^ (s - 1 - i))).toNat_lt
      repeat first | refine Na ?_ | refine Nb ?_ | refine Nc ?_ | refine Nd ?_ | refine Ne ?_
      refine w_reg 3 rfl rfl (j' := 4) (nO (s_ia rfl rfl el_43 (by first | assumption | omega) (nO (sL rfl ag_5 ?_))))
      refine nA rfl (n_nil (Nc (w_reg 6 rfl rfl (j' := 10) (nM rfl (n_op .no (q := 5) rfl (s_shl (j := 8) rfl rfl rfl (by decide) (nM rfl (n_op .no (q := 7) rfl (s_b2i un_5 un_2 rfl (by omega) (by omega) (n_op .no (q := 8) rfl (s_or rfl rfl (nA rfl (n_nil ?_)))))))))))))
      repeat first | refine Na ?_ | refine Nb ?_ | refine Nc ?_ | refine Nd ?_ | refine Ne ?_
      repeat first | refine Na ?_ | refine Nb ?_ | refine Nc ?_ | refine Nd ?_ | refine Ne ?_
      refine w_reg 2 rfl rfl (j' := 12) (nO (s_bin rfl rfl (by first | exact bi_inc (by omega) | exact bi_add rfl (by omega) (by omega)) ?_))
      refine nM rfl (n_nil ?_)
      have e1 : m / 256 ^ (s - 1 - i) = m / 256 ^ (s - i) * 256 + m / 256 ^ (s - 1 - i) % 256 := by
        have e : m / 256 ^ (s - i) = m / 256 ^ (s - 1 - i) / 256 := by rw [show s - i = s - 1 - i + 1 by omega, Nat.pow_succ, Nat.div_div_eq_div_mul]
        rw [e]; omega
      have e2 : (UInt8.ofNat (m / 256 ^ (s - 1 - i))).toNat = m / 256 ^ (s - 1 - i) % 256 := by rw [UInt8.toNat_ofNat']
      have e3 : m / 256 ^ (s - 1 - i) ≤ m := Nat.div_le_self _ _
      refine z_round (i + 1) ⟨rfl, rfl, ?_, rfl, rfl, rfl, trivial⟩ ⟨hc6, by omega, k1⟩ (by show s - (i + 1) < s - i; omega)
      show Value.int .i64 (orV (IntKind.i64.wrap (((m / 256 ^ (s - i) : Nat) : Int) * 2 ^ 8)) ((UInt8.ofNat (m / 256 ^ (s - 1 - i))).toNat : Int)) = _
      rw [e2, or_add (Nat.mod_lt _ (by decide)) (by omega), ← e1, show s - 1 - i = s - (i + 1) by omega]
    · refine w_exit rfl ?_
      have : i = s := by simp at hc6; omega
      subst this
      exact z_met () ⟨rfl, rfl, by rw [Nat.sub_self, Nat.pow_zero, Nat.div_one]; rfl, trivial⟩ ⟨by omega, k1⟩
  rintro z f g2 n2 hw2 ⟨hn2, k2⟩
  have e1 := k2.at0 hw h1
  have e5 := h5.kp0 k2 hw
  repeat first | refine Na ?_ | refine Nb ?_ | refine Nc ?_ | refine Nd ?_ | refine Ne ?_
  refine w_reg 10 rfl rfl (j' := 10) (nM rfl (nM rfl (nN rfl (nO (s_fa0 rfl fo_295_1 (nO (sL rfl ag_43 ?_)))))))
  refine nM rfl (n_op .no (q := 6) rfl (s_loB rfl e5 rfl (by omega) fun a7 c7 tc hr => (nN rfl (nO (s_fa0 rfl fo_295_1 (nO (sSg rfl rfl sz_43 rfl rfl ?_)))))))
  refine n_nil (Nc (Na (w_reg 2 rfl rfl (j' := 12) (nM rfl (nA rfl (n_nil (Nc (Nf (z_r1 rfl rfl ?_)))))))))
  have hd : (be s m ++ bs).drop s = bs := by rw [List.drop_append_of_le_length (by rw [be_length]; exact Nat.le_refl _), List.drop_of_length_le (by rw [be_length]; exact Nat.le_refl _), List.nil_append]
  rw [hd] at hr
  refine ⟨rfl, ⟨_, _, gs_same _ _ _, ?_, ?_, ?_, BytesNew.other hr (hr.ne e1) _⟩, Kp.set k2.z (FRd.of h1) _⟩
  · rw [splice_length (by simp; omega)]; exact h2
  · rw [splice_get (by simp; omega), if_pos (by simp)]; simp [be_length]
  · rw [splice_get (by simp; omega), if_neg (by simp)]; exact h4

theorem rtext_c {g : Gm} {n b r : Nat} {bs : Bs} (h : RdAt b g r (txt [] ++ bs) false) :
    C 93 #[.pointer (some ⟨r, 0, none⟩)] g n fun u g' n' => u = .string .empty ∧ RdAt b g' r bs false ∧ Kp (FRd r) g n g' := by
  obtain ⟨c0, v0, h01, _⟩ := id h
  refine c_in1 Tryz.func93 rfl Tryz.ntmps93 rfl fun hw => (Na (w_reg 1 rfl rfl (j' := 1) (nA rfl (n_nil (Nc (Na (w_reg 3 rfl rfl (j' := 4) (nM rfl (n_call .no rfl rfl rfl (C.use (rnum_c (s := 2) (m := 0) (bs := bs) h (by decide) rfl (by decide) (by decide)) fun v g1 n1 hw1 hn1 hq => ?_))))))))))
  obtain ⟨rfl, hR, k1⟩ := hq
  obtain ⟨c, v, h1, h2, h3, h4, h5⟩ := id hR
  obtain ⟨av, cv, rfl⟩ := h5.len
  have hrn := hw1 _ _ h1
  refine nA rfl (n_nil (Nc (Na (Na (w_reg 7 rfl rfl (j' := 7) (nM rfl (nM rfl (nN rfl (nO (s_fa rfl fo_295_1 (nO (sL rfl ag_43 ?_))))))))))))
  refine nO (s_len rfl rfl un_43 rfl (nO (s_bin rfl rfl rfl (n_nil (Nc (w_no rfl (decide_eq_false (by omega)) (Ne (Nc (Na (w_reg 8 rfl rfl (j' := 15) (nM rfl (nN rfl (nO (s_fa rfl fo_295_1 (nO (sL rfl ag_43 ?_))))))))))))))))
  refine nM rfl (n_op .no (q := 12) rfl (s_hiB rfl h5.at (j := 0) rfl (by omega) fun w hw2 => ?_))
  obtain ⟨aw, cw, rfl⟩ := hw2.len
  refine n_op .no (q := 13) rfl (s_b2s un_43 un_9 un_5 rfl hw2 fun tc => (nA rfl (n_nil (Nc (Na (w_reg 10 rfl rfl (j' := 25) (nM rfl (nM rfl (nN rfl (nO (s_fa rfl fo_295_1 (nO (sL rfl ag_43 ?_)))))))))))))
  refine nM rfl (n_op .no (q := 21) rfl (s_loB (j := 0) rfl h5 rfl (by omega) fun a7 c7 tc hr => (nN rfl (nO (s_fa rfl fo_295_1 (nO (sSg rfl rfl sz_43 rfl rfl ?_)))))))
  refine n_nil (Nc (Na (w_reg 2 rfl rfl (j' := 27) (nM rfl (nA rfl (n_nil (Nc (Nf (z_r1 rfl rfl ?_)))))))))
  refine ⟨rfl, ⟨_, _, gs_same _ _ _, ?_, ?_, ?_, BytesNew.other hr (hr.ne h1) _⟩, Kp.set (k1.dn (by omega)) (FRd.of h01) _⟩
  · rw [splice_length (by simp; omega)]; exact h2
  · rw [splice_get (by simp; omega), if_pos (by simp)]; simp
  · rw [splice_get (by simp; omega), if_neg (by simp)]; exact h4

theorem rcount_c {g : Gm} {n b r : Nat} {bs : Bs} (h : RdAt b g r (be 1 0 ++ bs) false) :
    C 94 #[.pointer (some ⟨r, 0, none⟩), .int .i64 1] g n fun u g' n' => u = .int .i64 0 ∧ RdAt b g' r bs false ∧ Kp (FRd r) g n g' := by
  obtain ⟨c0, v0, h01, _⟩ := id h
  refine c_in2 Tryz.func94 rfl Tryz.ntmps94 rfl fun hw => (Na (w_reg 1 rfl rfl (j' := 1) (nA rfl (n_nil (Nc (Na (w_reg 4 rfl rfl (j' := 5) (nM rfl (nM rfl (n_call .no rfl rfl rfl (C.use (rnum_c (s := 1) (m := 0) (bs := bs) h (by decide) rfl (by decide) (by decide)) fun v g1 n1 hw1 hn1 hq => ?_)))))))))))
  obtain ⟨rfl, hR, k1⟩ := hq
  obtain ⟨c, v, h1, h2, h3, h4, h5⟩ := id hR
  obtain ⟨av, cv, rfl⟩ := h5.len
  have hrn := hw1 _ _ h1
  refine nA rfl (n_nil (Nc (Na (Na (w_reg 7 rfl rfl (j' := 7) (nM rfl (nM rfl (nN rfl (nO (s_fa0 rfl fo_295_1 (nO (sL rfl ag_43 ?_))))))))))))
  refine nO (s_len rfl rfl un_43 rfl (nO (s_bin rfl rfl rfl (n_nil (Nc (w_no rfl (decide_eq_false (by omega)) (Ne (Nc (Na (w_reg 2 rfl rfl (j' := 9) (nM rfl (nA rfl (n_nil (Nc (Nf (z_r1 rfl rfl ?_))))))))))))))))
  exact ⟨rfl, hR, k1.dn (by omega)⟩

theorem rend_c {g : Gm} {n b r : Nat} (h : RdAt b g r [] false) :
    C 96 #[.pointer (some ⟨r, 0, none⟩)] g n fun u g' n' => u = .bool true ∧ K0 g n g' := by
  obtain ⟨c, v, h1, h2, h3, h4, h5⟩ := h
  obtain ⟨av, cv, rfl⟩ := h5.len
  refine c_in1 Tryz.func96 rfl Tryz.ntmps96 rfl fun hw => ?_
  have hrn := hw _ _ h1
  refine Na (w_reg 1 rfl rfl (j' := 1) (nA rfl (n_nil (Nc (Na (w_reg 14 rfl rfl (j' := 15) (nM rfl (nN rfl (nO (s_fa0 rfl fo_295_2 (nO (sL rfl ag_4 ?_))))))))))))
  refine nO (s_not rfl (nM rfl (nG rfl rfl (rfl) rfl (nY rfl rfl (rfl) (s_nil rfl (nY rfl rfl (rfl) (s_fa0 rfl fo_295_1 (nY rfl rfl (rfl) (sL rfl ag_43 ?_)))))))))
  refine nY rfl rfl (rfl) (s_len rfl rfl un_43 rfl (nY rfl rfl (rfl) (s_bin rfl rfl rfl (nO (s_pt rfl (rfl) rfl (nA rfl (n_nil (Nc (Nf (z_r1 rfl rfl ?_))))))))))
  exact ⟨rfl, (by repeat (first | exact Kp.refl _ _ _ | refine Kp.new ?_ (by omega) _))⟩

end Go.Proofs.YtfchjhfccnodpaaGreat
end

section
open Go.Proofs
namespace Go.Proofs.YtfchjhfccnodpaaGreat
set_option linter.unusedSimpArgs false
set_option linter.unusedVariables false
set_option maxRecDepth 100000

theorem C.useG {f : FuncId} {args : Array Value} {g : Gm} {n : Nat} {R R' : Value → Gm → Nat → Prop} (h : C f args g n R) (k : ∀ v g' n', WF g' n' → n ≤ n' → (∀ l, l < n → g l = none → g' l = none) → R v g' n' → R' v g' n') : C f args g n R' :=
  ⟨h.out.strong.mono fun v τ ⟨h1, h2, h3, h4⟩ => k v τ.get τ.nxt h2 h3 h4 h1⟩
theorem WF.none {g : Gm} {n l : Nat} (h : WF g n) (hl : n ≤ l) : g l = none := by
  cases hg : g l with
  | none => rfl
  | some o => exact absurd (h _ _ hg) (by omega)
theorem Kp.add {F : Nat → AObj → Prop} {g g' : Gm} {n l : Nat} (h : Kp F g n g') (hl : g l = none) (o : AObj) : Kp F g n (gset g' l o) := fun x o' hx ho hf => by
  by_cases e : x = l
  · subst e; rw [hl] at ho; cases ho
  · rw [gs_ne e]; exact h x o' hx ho hf

theorem bytesEqual_c {g : Gm} {n : Nat} {v w : Value} {bs cs : List UInt8} (h1 : BytesAt g v bs) (h2 : BytesAt g w cs) : C 97 #[v, w] g n fun u g' n' => u = .bool (decide (bs = cs)) ∧ K0 g n g' := by
  refine c_in2 Tryz.func97 rfl Tryz.ntmps97 rfl fun hw => (Na (w_reg 1 rfl rfl (j' := 1) (nA rfl (n_nil (Nc (Na (w_reg 6 rfl rfl (j' := 7) (nM rfl (n_op .no (q := 2) rfl (s_b2s un_43 un_9 un_5 rfl h1 fun tc => (nM rfl (n_op .no (q := 4) rfl (s_b2s un_43 un_9 un_5 rfl h2 fun tc => (nO (s_bin rfl rfl rfl (nA rfl (n_nil (Nc (Nf (z_r1 rfl rfl ?_))))))))))))))))))))
  exact ⟨by rw [str_eq], (by repeat (first | exact Kp.refl _ _ _ | refine Kp.new ?_ (by omega) _))⟩

theorem get0_c {g : Gm} {n : Nat} {v : Value} {me id : Int} (h : BytesAt g v (wire0 me id)) (h0 : 0 ≤ me) (h7 : me ≤ 7) (i0 : 1 ≤ id) (i1 : id ≤ 1099511627776) :
    C 24 #[v] g n fun u g' n' => u = .tuple #[.agg (call0 me id 2).toArray, .bool true] ∧ K0 g n g' := by
  obtain ⟨a, c, rfl⟩ := h.len
  have hl : (wire0 me id).length = 22 := by unfold wire0; simp only [List.length_append, List.length_nil, be_length, txt]
  have hw0 : wire0 me id = be 1 2 ++ (be 1 me.toNat ++ (be 8 id.toNat ++ (txt [] ++ (be 8 0 ++ (be 1 0 ++ (be 1 0 ++ [])))))) := by unfold wire0; simp only [List.append_assoc, List.append_nil]
  refine c_in1 Tryz.func24 rfl Tryz.ntmps24 rfl fun hw => (Na (w_reg 2 rfl rfl (j' := 2) (n_op .no (q := 0) rfl (s_al zl_76 (nA rfl (n_nil (Nc (Na (w_reg 3 rfl rfl (j' := 5) (nM rfl (n_call .no rfl rfl rfl (C.use (newReader_c (h.kp0 (n := n) (by repeat (first | exact Kp.refl _ _ _ | refine Kp.new ?_ (by omega) _)) hw) (by omega)) fun v g1 n1 hw1 hn1 hq => ?_))))))))))))
  obtain ⟨r, rfl, hr1, hr2, hR1, k1⟩ := hq
  rw [hw0] at hR1
  refine nA rfl (n_nil (Nc (Na (w_reg 13 rfl rfl (j' := 13) (nM rfl (n_call .no rfl rfl rfl (C.useG (rnum_c (s := 1) hR1 (by decide) rfl (by decide) (by decide)) fun v g2 n2 hw2 hn2 hx2 hq => ?_)))))))
  obtain ⟨rfl, hR2, k2⟩ := hq
  refine nM rfl (n_call .no rfl rfl rfl (C.useG (rnum_c (s := 1) hR2 (by decide) rfl (by omega) (by omega)) fun v g3 n3 hw3 hn3 hx3 hq => ?_))
  obtain ⟨rfl, hR3, k3⟩ := hq
  refine nM rfl (n_call .no rfl rfl rfl (C.useG (rnum_c (s := 8) hR3 (by decide) rfl (by omega) (by omega)) fun v g4 n4 hw4 hn4 hx4 hq => ?_))
  obtain ⟨rfl, hR4, k4⟩ := hq
  refine nM rfl (n_call .no rfl rfl rfl (C.useG (rtext_c hR4) fun v g5 n5 hw5 hn5 hx5 hq => ?_))
  obtain ⟨rfl, hR5, k5⟩ := hq
  refine nM rfl (n_call .no rfl rfl rfl (C.useG (rnum_c (s := 8) hR5 (by decide) rfl (by decide) (by decide)) fun v g6 n6 hw6 hn6 hx6 hq => ?_))
  obtain ⟨rfl, hR6, k6⟩ := hq
  refine nO (s_bld pl_76 zl_76 rfl rfl rfl (n_op .no (q := 11) rfl (s_al zl_76 (nO (sSw rfl rfl sz_76 rfl rfl ?_)))))
  refine n_nil ?_
  repeat first | refine Na ?_ | refine Nb ?_ | refine Nc ?_ | refine Nd ?_ | refine Ne ?_
  refine w_gen fun g9 n9 hg9 hn9 hwg9 => ?_
  have em : (me.toNat : Int) = me := Int.toNat_of_nonneg h0
  have ei : (id.toNat : Int) = id := Int.toNat_of_nonneg (by omega)
  have c9 : g9 (n1 + 11) = some (.cells (call0 me id 2) 0 false) := by rw [hg9, em, ei]; exact gs_same _ _ _
  have fr : g6 (n1 + 11) = none := hx6 _ (by omega) (hx5 _ (by omega) (hx4 _ (by omega) (hx3 _ (by omega) (hx2 _ (by omega) (hw1.none (by omega))))))
  have k69 : K0 g6 n6 g9 := by rw [hg9]; exact Kp.add (Kp.add (Kp.refl _ _ _) fr _) fr _
  have k16 : Kp (FRd r) g1 n1 g6 := ((((k2.dn (by omega)).tr k3 (by omega)).tr k4 (by omega)).tr k5 (by omega)).tr k6 (by omega)
  have hR9 := hR6.kp0 k69 hw6
  have k19 : Kp (FRd r) g1 n1 g9 := k16.trans0 k69 (by omega)
  have e9 : g9 n = some (.cells (call0 0 0 0) 0 false) := k19.rloc (by omega) (by omega) (k1.lt (by omega) (gs_same _ _ _))
  have k9 : K0 g n g9 := Kp.trans0 (n' := n) (by repeat (first | exact Kp.refl _ _ _ | refine Kp.new ?_ (by omega) _)) ((k1.trans0 (k19.rfw (q := n + 5) hr1 (by omega)) (Nat.le_refl _)).dn (by omega)) (Nat.le_refl _)
  clear hg9 k69 k16 fr hR6 hR5 hR4 hR3 hR2
  repeat first | refine Na ?_ | refine Nb ?_ | refine Nc ?_ | refine Nd ?_ | refine Ne ?_
  refine w_reg 3 rfl rfl (j' := 3) (nM rfl (n_call .no rfl rfl rfl (C.use (rcount_c hR9) fun v g10 n10 hw10 hn10 hq => ?_)))
  obtain ⟨rfl, hR10, k10⟩ := hq
  have c10 := k10.rloc (by omega) (by omega) c9
  have e10 := k10.rloc (by omega) (by omega) e9
  have kk10 : K0 g n g10 := k9.trans0 (k10.rfw (q := n) (by omega) (by omega)) (Nat.le_refl _)
  refine nM rfl (n_nil ?_)
  repeat first | refine Na ?_ | refine Nb ?_ | refine Nc ?_ | refine Nd ?_ | refine Ne ?_
  refine w_loop (β := Unit) (fun i => [(0, .slice a 22 c), (2, .pointer (some ⟨n, 0, none⟩)), (3, .bool false), (4, .pointer (some ⟨r, 0, none⟩)), (5, .pointer (some ⟨n1 + 11, 0, none⟩)), (20, .int .i64 0), (21, .int .i64 0)])
    (fun i g' n' => n10 ≤ n' ∧ K0 g n g' ∧ g' n = some (.cells (call0 0 0 0) 0 false) ∧ RdAt (n + 5) g' r (be 1 0 ++ []) false ∧ g' (n1 + 11) = some (.cells (call0 me id 2) 0 false)) (fun i => 0) ()
    ⟨by rw [← hl]; rfl, rfl, rfl, rfl, rfl, rfl, rfl, trivial⟩ ⟨by omega, kk10, e10, hR10, c10⟩ ?_
  rintro ⟨⟩ f gL nL hwL ⟨hnL, kL, eL, hRL, cL⟩
  repeat first | refine Na ?_ | refine Nb ?_ | refine Nc ?_ | refine Nd ?_ | refine Ne ?_
  refine w_reg 1 rfl rfl (j' := 1) (nO (s_bin rfl rfl rfl (n_nil (Nc (Na (w_no rfl (rfl) ?_))))))
  refine w_exit rfl ?_
  repeat first | refine Na ?_ | refine Nb ?_ | refine Nc ?_ | refine Nd ?_ | refine Ne ?_
  refine w_reg 3 rfl rfl (j' := 4) (nM rfl (n_call .no rfl rfl rfl (C.use (rcount_c hRL) fun v g11 n11 hw11 hn11 hq => ?_)))
  obtain ⟨rfl, hR11, k11⟩ := hq
  have c11 := k11.rloc (by omega) (by omega) cL
  have e11 := k11.rloc (by omega) (by omega) eL
  have kk11 : K0 g n g11 := kL.trans0 (k11.rfw (q := n) (by omega) (by omega)) (by omega)
  refine nM rfl (n_nil ?_)
  repeat first | refine Na ?_ | refine Nb ?_ | refine Nc ?_ | refine Nd ?_ | refine Ne ?_
  refine w_loop (β := Unit) (fun i => [(0, .slice a 22 c), (2, .pointer (some ⟨n, 0, none⟩)), (3, .bool false), (4, .pointer (some ⟨r, 0, none⟩)), (5, .pointer (some ⟨n1 + 11, 0, none⟩)), (39, .int .i64 0), (40, .int .i64 0)])
    (fun i g' n' => n11 ≤ n' ∧ K0 g n g' ∧ g' n = some (.cells (call0 0 0 0) 0 false) ∧ RdAt (n + 5) g' r [] false ∧ g' (n1 + 11) = some (.cells (call0 me id 2) 0 false)) (fun i => 0) ()
    ⟨rfl, rfl, rfl, rfl, rfl, rfl, rfl, trivial⟩ ⟨by omega, kk11, e11, hR11, c11⟩ ?_
  rintro ⟨⟩ f gM nQ hwQ ⟨hnQ, kM, eM, hRM, cM⟩
  repeat first | refine Na ?_ | refine Nb ?_ | refine Nc ?_ | refine Nd ?_ | refine Ne ?_
  refine w_reg 1 rfl rfl (j' := 1) (nO (s_bin rfl rfl rfl (n_nil (Nc (Na (w_no rfl (rfl) ?_))))))
  refine w_exit rfl ?_
  rw [hl] at h
  repeat first | refine Na ?_ | refine Nb ?_ | refine Nc ?_ | refine Nd ?_ | refine Ne ?_
  refine w_reg 15 rfl rfl (j' := 16) (nM rfl (n_call .no rfl rfl rfl (C.use (rend_c hRM) fun v g21 n21 hw21 hn21 hq => ?_)))
  obtain ⟨rfl, k21⟩ := hq
  have c21 := (k21.dn (m := nQ) (by omega)).at0 hwQ cM
  have e21 := (k21.dn (m := nQ) (by omega)).at0 hwQ eM
  have kk21 : K0 g n g21 := kM.trans0 k21 (by omega)
  unfold call0 at c21
  refine nO (s_not rfl (nM rfl (nY rfl rfl (rfl) (sLf rfl ag_76 sz_76 ?_))))
  refine n_call (.yes rfl rfl (rfl)) rfl rfl rfl (C.use (put0_c h0 h7 i0 i1) fun v g22 n22 hw22 hn22 hq => ?_)
  obtain ⟨⟨ap, cp, rfl⟩, hB, k22⟩ := hq
  have kk22 : K0 g n g22 := kk21.trans0 k22 (by omega)
  refine nG rfl rfl (rfl) rfl (n_call (.yes rfl rfl (rfl)) rfl rfl rfl (C.use (bytesEqual_c hB.at (h.kp0 kk22 hw)) fun v g23 n23 hw23 hn23 hq => ?_))
  obtain ⟨rfl, k23⟩ := hq
  have kk23 : K0 g n g23 := kk22.trans0 k23 (by omega)
  have c23 := (k23.dn (m := n22) (by omega)).at0 hw22 ((k22.dn (m := n21) (by omega)).at0 hw21 c21)
  have e23 := (k23.dn (m := n22) (by omega)).at0 hw22 ((k22.dn (m := n21) (by omega)).at0 hw21 e21)
  unfold call0 at e23
  rw [show decide (wire0 me id = wire0 me id) = true from decide_eq_true rfl]
  refine nY rfl rfl (rfl) (s_not rfl (nO (s_pf rfl (rfl) rfl (nM rfl (nG rfl rfl (rfl) rfl (nY rfl rfl (rfl) (s_len rfl rfl un_43 rfl (nY rfl rfl (rfl) (s_bin rfl rfl rfl (nO (s_pf rfl (rfl) rfl (n_nil (Nc (w_no rfl (rfl) (Ne (Nc (Na (w_reg 3 rfl rfl (j' := 3) (nO (sLf rfl ag_76 sz_76 ?_))))))))))))))))))))
  refine nO (sSw rfl rfl sz_76 rfl rfl ?_)
  refine nA rfl (n_nil (Nc (Nf (z_rc1 rfl rfl rfl (by repeat first | exact gS | refine gN (by omega) ?_) ag_76 sz_76 (by exact rfl) (by exact Nat.le_of_ble_eq_true rfl) ?_))))
  exact ⟨rfl, Kp.new kk23 (by omega) _⟩

end Go.Proofs.YtfchjhfccnodpaaGreat
end

section
open Go.Proofs
namespace Go.Proofs.YtfchjhfccnodpaaGreat
set_option linter.unusedSimpArgs false
set_option linter.unusedVariables false
set_option maxRecDepth 100000

theorem src_one {g : Gm} {nm z : Nat} {c : List Value} {ro : Bool} (h : g nm = some (.cells c z ro)) (hz : c.length = z) : Src g z (.slice (some ⟨nm, 0, none⟩) 1 1) 1 c :=
  SlC.src ⟨by omega, .inr (.inr ⟨nm, 0, 1, rfl, Nat.le_refl _, .inr ⟨c, ro, h, by omega, by simp [← hz]⟩⟩)⟩

theorem gset_same {g : Gm} {l : Nat} {o : AObj} (h : g l = some o) : gset g l o = g := by
  funext x
  by_cases e : x = l
  · subst e; rw [gs_same, h]
  · exact gs_ne e _

theorem RepAt.k0 {b : Nat} {g g' : Gm} {n r rl c el q a : Nat} {me base : Int} {pack : Bool} {asked kind id at_ : Int} {out : Bool} {x i k v : Int}
    (h : RepAt b g r rl c el q a me base pack asked kind id at_ out x i k v) (hk : K0 g n g') (hw : WF g n) : RepAt b g' r rl c el q a me base pack asked kind id at_ out x i k v :=
  ⟨hk.at0 hw h.hr, hk.at0 hw h.hrl, hk.at0 hw h.hc, hk.at0 hw h.hel, hk.at0 hw h.hq, hk.at0 hw h.ha, h.br⟩

theorem RepAt.ne {b : Nat} {g : Gm} {r rl c el q a : Nat} {me base : Int} {pack : Bool} {asked kind id at_ : Int} {out : Bool} {x i k v : Int}
    (h : RepAt b g r rl c el q a me base pack asked kind id at_ out x i k v) : (r ≠ rl ∧ c ≠ rl ∧ el ≠ rl ∧ q ≠ rl ∧ a ≠ rl) ∧ c ≠ r ∧ el ≠ r ∧ q ≠ r ∧ a ≠ r := by
  refine ⟨⟨?_, ?_, ?_, ?_, ?_⟩, ?_, ?_, ?_, ?_⟩ <;> intro e <;> subst e
  · have := h.hr.symm.trans h.hrl; simp [replC, reliC] at this
  · have := h.hc.symm.trans h.hrl; simp [cacheC, reliC] at this
  · have := h.hel.symm.trans h.hrl; simp [elecC, reliC] at this
  · have := h.hq.symm.trans h.hrl; simp [queueC, reliC] at this
  · have := h.ha.symm.trans h.hrl; simp [assuC, reliC] at this
  · have := h.hc.symm.trans h.hr; simp [cacheC, replC] at this
  · have := h.hel.symm.trans h.hr; simp [elecC, replC] at this
  · have := h.hq.symm.trans h.hr; simp [queueC, replC] at this
  · have := h.ha.symm.trans h.hr; simp [assuC, replC] at this

theorem app69 : AppT E6.P 69 69 1 24 := ⟨43, _, un_69, sz_43, by_43, zp_43, rfl, by decide, by decide, by rw [un_69]; rfl⟩

theorem stepA_c {g : Gm} {n b r rl c el q a : Nat} {me base now : Int} {pack : Bool} {asked kind id at_ : Int} {out : Bool} {x i k v : Int}
    (h : RepAt b g r rl c el q a me base pack asked kind id at_ out x i k v) (m0 : 0 ≤ me) (m7 : me ≤ 7) (b0 : 0 ≤ base) (b1 : base ≤ 1048576000000) (h0 : 0 ≤ at_) (h1 : at_ ≤ now) (h2 : now < 2 ^ 62) (h3 : 0 ≤ id) (h4 : id < 2 ^ 19)
    (hgo : out = false ∨ 200 ≤ now - at_) : C 23 #[p0 r, i0 now] g n fun u g' n' =>
      (∃ l o cp w, u = .slice (some ⟨l, o, none⟩) 1 cp ∧ SlC g' 1 u 1 [w] ∧ BytesAt g' w (wire0 me (base + 2 * (id + 1) - 1))) ∧ RepAt b g' r rl c el q a me base pack (id + 1) 2 (id + 1) now true me (id + 1) 2 0 ∧ Kp (fun x _ => x = rl ∨ x = r) g n g' := by
  have hr := h.hr
  unfold p0 i0
  unfold replC at hr
  refine c_in2 Tryz.func23 rfl Tryz.ntmps23 rfl fun hw => (Na (w_reg 1 rfl rfl (j' := 1) (nA rfl (n_nil (Nc (Na (Na (w_reg 2 rfl rfl (j' := 3) (nM rfl (nO (s_bin rfl rfl (bi_d un_67 rfl) ?_)))))))))))
  refine n_nil (Nc (w_no rfl (rfl) ?_))
  have lr := hw _ _ hr
  have lrl := hw _ _ h.hrl
  have lel := hw _ _ h.hel
  have la := hw _ _ h.ha
  have lc := hw _ _ h.hc
  have lq := hw _ _ h.hq
  refine Ne (Nc (Na (w_drw (T6 23 3) [(0, []), (1, []), (2, []), (3, []), (4, [3]), (5, [3]), (6, [3]), (7, [3]), (9, [3, 7]), (10, [3, 7]), (11, [3, 7]), (12, [3, 7]), (13, [3, 7]), (8, [3, 13]), (14, [3]), (15, [])] 16 (by kernel_rfl) rfl rfl (j' := 19) (dM rfl rfl (dO rfl rfl (s_nil rfl ⟨⟨rfl, rfl⟩, (dO rfl rfl (s_fa0 rfl fo_158_6 ⟨⟨rfl, rfl⟩, (dT rfl rfl rfl (sL rfl ag_154 ⟨clash_nil, ?_⟩))⟩))⟩))))))
  refine dM rfl rfl (dO rfl rfl (s_nil rfl ⟨⟨rfl, rfl⟩, (dO rfl rfl (s_fa0 rfl fo_158_3 ⟨⟨rfl, rfl⟩, (dT rfl rfl rfl (sL rfl ag_148 ⟨clash_rd rfl, ?_⟩))⟩))⟩))
  refine dM rfl rfl (dM rfl rfl (dO rfl rfl (s_nil rfl ⟨⟨rfl, rfl⟩, (dO rfl rfl (s_fa0 rfl fo_158_4 ⟨⟨rfl, rfl⟩, (dT rfl rfl rfl (sL rfl ag_150 ⟨clash_rd rfl, ?_⟩))⟩))⟩)))
  refine d_call rfl .no rfl rfl rfl (call_rd rfl) (C.use (relCache_c h.hrl) fun v g1 n1 hw1 hn1 hq => ?_)
  obtain ⟨rfl, k1⟩ := hq
  refine ⟨?_, ?_⟩
  · repeat' (first | exact trivial | exact kept1 k1 (by omega) hr | apply And.intro)
  have A1 := h.k0 k1 (hw.up (by omega))
  have r1 := A1.hr
  unfold replC at r1
  unfold p0
  refine d_call rfl .no rfl rfl rfl (call_rd rfl) (C.use (elTerm_c A1.hel) fun v g2 n2 hw2 hn2 hq => ?_)
  obtain ⟨rfl, k2⟩ := hq
  refine ⟨?_, ?_⟩
  · repeat' (first | exact trivial | exact kept1 k2 (by have := hw1 _ _ r1; omega) r1 | apply And.intro)
  have A2 := A1.k0 k2 (hw1.up (by omega))
  unfold i0
  refine d_call rfl .no rfl rfl rfl call_nil (C.use (settle0_c A2.ha) fun v g3 n3 hw3 hn3 hq => ?_)
  obtain ⟨rfl, k3⟩ := hq
  refine ⟨kept_nil, ?_⟩
  have A3 := A2.k0 k3 (hw2.up (by omega))
  have r3 := A3.hr
  unfold replC at r3
  refine d_nil (Nc (Na (w_reg 3 rfl rfl (j' := 3) (nM rfl (nM rfl (n_call .no rfl rfl rfl (C.use (sees0_c A3) fun v g4 n4 hw4 hn4 hq => ?_)))))))
  have k4 : K0 g3 _ g4 := hq
  have A4 := A3.k0 k4 (hw3.up (by omega))
  have r4 := A4.hr
  unfold replC at r4
  refine n_nil (Nc (Na (w_reg 1 rfl rfl (j' := 1) (nA rfl (n_nil (Nc (Na (Na (w_reg 12 rfl rfl (j' := 13) (nM rfl (nN rfl (nO (s_fa0 rfl fo_158_3 (nO (sL rfl ag_148 ?_)))))))))))))))
  refine nM rfl (n_call .no rfl rfl rfl (C.use (relWant_c A4.hrl A4.hc h0 h1 h2 h3 (by omega) hgo) fun v g5 n5 hw5 hn5 hq => ?_))
  obtain ⟨rfl, hrl5, k5⟩ := hq
  obtain ⟨⟨e1, e2, e3, e4, e5⟩, e6, e7, e8, e9⟩ := A4.ne
  have hw4' := hw4.up (n' := n4 + 13) (by omega)
  have A5 : RepAt b g5 r rl c el q a me base pack asked kind (id + 1) now true me (id + 1) 2 0 :=
    ⟨k5 _ _ (hw4' _ _ A4.hr) A4.hr e1, hrl5, k5 _ _ (hw4' _ _ A4.hc) A4.hc e2, k5 _ _ (hw4' _ _ A4.hel) A4.hel e3, k5 _ _ (hw4' _ _ A4.hq) A4.hq e4, k5 _ _ (hw4' _ _ A4.ha) A4.ha e5, A4.br⟩
  have r5 := A5.hr
  unfold replC at r5
  unfold call0
  have ka : K0 g n g4 := ((k1.dn (m := n) (by omega)).trans0 (k2.dn (m := n) (by omega)) (by omega)).trans0 ((k3.dn (m := n) (by omega)).trans0 (k4.dn (m := n) (by omega)) (by omega)) (by omega)
  have kb : Kp (fun x _ => x = rl ∨ x = r) g n g5 := (Kp.z ka : Kp (fun x _ => x = rl ∨ x = r) g n g4).trans (k5.dn (m := n) (by omega)) (by omega) (fun x o _ h _ => .inl h)
  refine nM rfl (nO (s_ext rfl rfl (nO (s_ext rfl rfl (n_op .no (q := 10) rfl (s_al zl_76 (nO (sSw rfl rfl sz_76 rfl rfl ?_))))))))
  refine nA rfl (n_nil (Nc (Na (w_reg 1 rfl rfl (j' := 1) (nM rfl (n_nil (Nc (w_yes rfl (rfl) (Na (w_drw (T6 23 8) [(0, []), (1, []), (2, []), (3, []), (4, [3]), (5, [3]), (6, [5]), (7, [5]), (8, [5]), (9, []), (10, []), (11, [])] 12 (by kernel_rfl) rfl rfl (j' := 13) (dM rfl rfl (dM rfl rfl (dO rfl rfl (s_fa0 rfl fo_76_1 ⟨⟨rfl, rfl⟩, (dT rfl rfl rfl (sL rfl ag_2 ⟨clash_nil, ?_⟩))⟩))))))))))))))
  refine dO rfl rfl (s_fa0 rfl fo_76_2 ⟨⟨rfl, rfl⟩, (dT rfl rfl rfl (sL rfl ag_3 ⟨clash_rd rfl, ?_⟩))⟩)
  refine dO rfl rfl (s_nil rfl ⟨⟨rfl, rfl⟩, (dO rfl rfl (s_fa0 rfl fo_158_9 ⟨⟨rfl, rfl⟩, (dT rfl rfl rfl (sS rfl rfl sz_2 rfl rfl ⟨?_, ?_⟩))⟩))⟩)
  · (simp only [clashS, memN, cases2, neAll, ne1, if_true, if_false, Nat.reduceEqDiff, reduceIte, and_true, true_and]; omega)
  refine dO rfl rfl (s_nil rfl ⟨⟨rfl, rfl⟩, (dO rfl rfl (s_fa0 rfl fo_158_10 ⟨⟨rfl, rfl⟩, (dT rfl rfl rfl (sS rfl rfl sz_3 rfl rfl ⟨clash_nil, ?_⟩))⟩))⟩)
  refine d_nil (Nc (Na (w_drw (T6 23 9) [(0, []), (1, []), (2, []), (3, []), (4, [3]), (5, [3]), (6, [3]), (7, []), (8, []), (9, []), (10, [])] 11 (by kernel_rfl) rfl rfl (j' := 24) (dM rfl rfl (dO rfl rfl (s_nil rfl ⟨⟨rfl, rfl⟩, (dO rfl rfl (s_fa0 rfl fo_158_2 ⟨⟨rfl, rfl⟩, (dT rfl rfl rfl (sL rfl ag_2 ⟨clash_nil, ?_⟩))⟩))⟩))))))
  refine dO rfl rfl (s_fa0 rfl fo_76_1 ⟨⟨rfl, rfl⟩, (dT rfl rfl rfl (sL rfl ag_2 ⟨clash_rd rfl, ?_⟩))⟩)
  refine dO rfl rfl (s_bin rfl rfl (r := .int .i64 ((2 * (id + 1)))) (bi_mul (by omega) (by omega) (by omega)) ⟨⟨rfl, rfl⟩, (dO rfl rfl (s_bin rfl rfl (r := .int .i64 ((base + 2 * (id + 1)))) (by first | exact bi_add (by omega) (by omega) (by omega) | exact bi_add rfl (by omega) (by omega)) ⟨⟨rfl, rfl⟩, ?_⟩))⟩)
  refine dO rfl rfl (s_bin rfl rfl (r := .int .i64 ((base + 2 * (id + 1) - 1))) (by first | exact bi_sub (by omega) (by omega) (by omega) | exact bi_sub rfl (by omega) (by omega)) ⟨⟨rfl, rfl⟩, ?_⟩)
  refine dO rfl rfl (s_fa0 rfl fo_76_1 ⟨⟨rfl, rfl⟩, (dT rfl rfl rfl (sS rfl rfl sz_2 rfl rfl ⟨clash_nil, ?_⟩))⟩)
  refine d_nil ?_
  repeat first | refine Na ?_ | refine Nb ?_ | refine Nc ?_ | refine Nd ?_ | refine Ne ?_
  refine w_gen fun g6 n6 hg6 hn6 hwg6 => ?_
  have c6 : g6 (n4 + 10) = some (.cells (call0 me (base + 2 * (id + 1) - 1) 2) 0 false) := by rw [hg6]; exact gs_same _ _ _
  have A6 : RepAt b g6 r rl c el q a me base pack (id + 1) 2 (id + 1) now true me (id + 1) 2 0 := by
    have z1 := hw4 _ _ A4.hrl
    have z2 := hw4 _ _ A4.hc
    have z3 := hw4 _ _ A4.hel
    have z4 := hw4 _ _ A4.hq
    have z5 := hw4 _ _ A4.ha
    have z6 := hw4 _ _ A4.hr
    rw [hg6]
    exact ⟨(gs_ne (by omega) _).trans (gs_same _ _ _), (gs_ne (by omega) _).trans ((gs_ne e1.symm _).trans ((gs_ne e1.symm _).trans ((gs_ne (by omega) _).trans ((gs_ne (by omega) _).trans A5.hrl)))), (gs_ne (by omega) _).trans ((gs_ne e6 _).trans ((gs_ne e6 _).trans ((gs_ne (by omega) _).trans ((gs_ne (by omega) _).trans A5.hc)))), (gs_ne (by omega) _).trans ((gs_ne e7 _).trans ((gs_ne e7 _).trans ((gs_ne (by omega) _).trans ((gs_ne (by omega) _).trans A5.hel)))), (gs_ne (by omega) _).trans ((gs_ne e8 _).trans ((gs_ne e8 _).trans ((gs_ne (by omega) _).trans ((gs_ne (by omega) _).trans A5.hq)))), (gs_ne (by omega) _).trans ((gs_ne e9 _).trans ((gs_ne e9 _).trans ((gs_ne (by omega) _).trans ((gs_ne (by omega) _).trans A5.ha)))), A5.br⟩
  have k6 : Kp (fun x _ => x = rl ∨ x = r) g n g6 := by
    rw [hg6]
    exact Kp.new (Kp.set (Kp.set (Kp.new (Kp.new kb (by omega) _) (by omega) _) (fun _ _ => .inr rfl) _) (fun _ _ => .inr rfl) _) (by omega) _
  clear hg6
  unfold call0 at c6
  repeat first | refine Na ?_ | refine Nb ?_ | refine Nc ?_ | refine Nd ?_ | refine Ne ?_
  refine w_reg 6 rfl rfl (j' := 6) (nM rfl (nO (sLf rfl ag_76 sz_76 ?_)))
  refine n_call .no rfl rfl rfl (C.useG (put0_c m0 m7 (by omega) (by omega)) fun v g7 n7 hw7 hn7 hx7 hq => ?_)
  obtain ⟨⟨ap, cp, rfl⟩, hB7, k7⟩ := hq
  have A7 := A6.k0 k7 (hwg6.up (by omega))
  have kk7 : Kp (fun x _ => x = rl ∨ x = r) g n g7 := k6.trans0 (k7.dn (m := n) (by omega)) (by omega)
  refine n_op .no (q := 3) rfl (s_bs el_69 ez_69 rfl rfl rfl (n_op .no (q := 4) rfl (s_app app69 rfl rfl (SlOwn.nil _ _) (src_one (gs_same _ _ _) rfl) rfl (by omega) fun a8 c8 g8 tc8 wr8 hrow hgr => ?_)))
  have f3 : g7 (n6 + 3) = none := hx7 _ (by omega) (hwg6.none (by omega))
  have f4 : g7 (n6 + 4) = none := hx7 _ (by omega) (hwg6.none (by omega))
  have k8 : K0 g7 n7 g8 := fun x o hx ho _ => by
    have y3 : x ≠ n6 + 3 := by rintro rfl; rw [f3] at ho; cases ho
    have y4 : x ≠ n6 + 4 := by rintro rfl; rw [f4] at ho; cases ho
    exact (hgr.same x y4 (by simp [vname])).trans ((gs_ne y3 _).trans ho)
  have A8 := A7.k0 k8 hw7
  have kk8 : Kp (fun x _ => x = rl ∨ x = r) g n g8 := kk7.trans0 (k8.dn (m := n) (by omega)) (by omega)
  have hB8 := hB7.at.kp0 k8 hw7
  have r8 := A8.hr
  unfold replC at r8
  refine nA rfl (n_nil ?_)
  repeat first | refine Na ?_ | refine Nb ?_ | refine Nc ?_ | refine Nd ?_ | refine Ne ?_
  refine w_wf fun hw8 => ?_
  repeat first | refine Na ?_ | refine Nb ?_ | refine Nc ?_ | refine Nd ?_ | refine Ne ?_
  refine w_reg 14 rfl rfl (j' := 14) (nM rfl (nN rfl (nO (s_fa0 rfl fo_158_13 (nO (sL rfl ag_2 ?_))))))
  refine nO (s_bin rfl rfl rfl (nM rfl (nSk rfl rfl (rfl) rfl 6 rfl (nO (s_pf rfl (rfl) rfl (n_nil (Nc (w_no rfl (rfl) (Ne (Nc (Na (w_reg 4 rfl rfl (j' := 18) (nM rfl (nN rfl (nO (s_fa0 rfl fo_158_13 (nO (sS rfl rfl sz_2 rfl rfl ?_))))))))))))))))))
  refine n_nil ?_
  rw [gset_same r8]
  refine Nc (Na (Na (w_reg 12 rfl rfl (j' := 30) (nM rfl (nN rfl (nO (s_fa0 rfl fo_158_4 (nO (sL rfl ag_150 ?_)))))))))
  refine nM rfl (n_call .no rfl rfl rfl (C.useG (elWant0_c A8.hel) fun v g9 n9 hw9 hn9 hx9 hq => ?_))
  obtain ⟨rfl, k9⟩ := hq
  have A9 := A8.k0 k9 (hw8.up (by omega))
  have kk9 : Kp (fun x _ => x = rl ∨ x = r) g n g9 := kk8.trans0 (k9.dn (m := n) (by omega)) (by omega)
  have hB9 := hB8.kp0 k9 (hw8.up (by omega))
  have hS9 := hrow.slc.kp0 k9 (hw8.up (by omega))
  refine nM rfl (nO (s_ext rfl rfl (nO (s_ext rfl rfl (n_op .no (q := 27) rfl (s_al zl_74 (nO (sSw rfl rfl sz_74 rfl rfl ?_))))))))
  refine nA rfl (n_nil ?_)
  repeat first | refine Na ?_ | refine Nb ?_ | refine Nc ?_ | refine Nd ?_ | refine Ne ?_
  refine w_gen fun gA nT hgA hnT hwgA => ?_
  have kA : K0 g9 n9 gA := by
    rw [hgA]
    refine Kp.add (Kp.add (Kp.refl _ _ _) ?_ _) ?_ _ <;> exact hx9 _ (by omega) (hw8.none (by omega))
  have AA := A9.k0 kA hw9
  have kkA : Kp (fun x _ => x = rl ∨ x = r) g n gA := kk9.trans0 (kA.dn (m := n) (by omega)) (by omega)
  have hBA := hB9.kp0 kA hw9
  have hSA := hS9.kp0 kA hw9
  clear hgA
  have rA := AA.hr
  unfold replC at rA
  repeat first | refine Na ?_ | refine Nb ?_ | refine Nc ?_ | refine Nd ?_ | refine Ne ?_
  refine w_reg 1 rfl rfl (j' := 1) (nM rfl (n_nil (Nc (w_no rfl (rfl) (Ne (Nc (Na (Na (w_reg 14 rfl rfl (j' := 15) (nM rfl (nN rfl (nO (s_fa0 rfl fo_158_11 (nO (sL rfl ag_2 ?_)))))))))))))))
  refine nO (s_bin rfl rfl rfl (nM rfl (nSk rfl rfl (rfl) rfl 6 rfl (nO (s_pf rfl (rfl) rfl (n_nil (Nc (w_no rfl (rfl) (Ne (Nc (Na (w_reg 4 rfl rfl (j' := 19) (nM rfl (nN rfl (nO (s_fa0 rfl fo_158_11 (nO (sS rfl rfl sz_2 rfl rfl ?_))))))))))))))))))
  refine n_nil ?_
  rw [gset_same rA]
  repeat first | refine Na ?_ | refine Nb ?_ | refine Nc ?_ | refine Nd ?_ | refine Ne ?_
  refine w_wf fun hwAb => ?_
  repeat first | refine Na ?_ | refine Nb ?_ | refine Nc ?_ | refine Nd ?_ | refine Ne ?_
  refine w_reg 4 rfl rfl (j' := 23) (nM rfl (nM rfl (n_call .no rfl rfl rfl (C.use (plans0_c AA) fun v g10 n10 hw10 hn10 hq => ?_))))
  obtain ⟨rfl, k10⟩ := hq
  have A10 := AA.k0 k10 (hwAb.up (by omega))
  have kk10 : Kp (fun x _ => x = rl ∨ x = r) g n g10 := kkA.trans0 (k10.dn (m := n) (by omega)) (by omega)
  have hB10 := hBA.kp0 k10 (hwAb.up (by omega))
  have hS10 := hSA.kp0 k10 (hwAb.up (by omega))
  refine nA rfl (n_nil (Nc (Na (w_reg 2 rfl rfl (j' := 2) (nM rfl (nO (s_bin rfl rfl (bi_d un_43 rfl) ?_)))))))
  refine n_nil (Nc (w_no rfl (rfl) (Ne (Nc (Na (w_reg 2 rfl rfl (j' := 4) (nM rfl (nA rfl (n_nil (Nc (Nf (z_r1 rfl rfl ?_))))))))))))
  obtain ⟨l, o, cp2, hv⟩ : ∃ l o cp2, Value.slice a8 (0 + 1) c8 = .slice (some ⟨l, o, none⟩) 1 cp2 := by
    obtain ⟨l, o, cc, cl, ro, y1, _⟩ := SlC.pos hS10 (by omega)
    exact ⟨l, o, cc, y1⟩
  exact ⟨⟨l, o, cp2, _, hv, hS10, hB10⟩, A10, kk10⟩

end Go.Proofs.YtfchjhfccnodpaaGreat
end

section
open Go.Proofs
namespace Go.Proofs.YtfchjhfccnodpaaGreat
set_option linter.unusedSimpArgs false
set_option linter.unusedVariables false
set_option maxRecDepth 100000

theorem stepW_c {g : Gm} {n b r rl c el q a : Nat} {me base now : Int} {pack : Bool} {asked kind id at_ : Int} {x i k v : Int}
    (h : RepAt b g r rl c el q a me base pack asked kind id at_ true x i k v) (h0 : 0 ≤ at_) (h1 : at_ ≤ now) (h2 : now < 2 ^ 62) (hlt : now - at_ < 200) : C 23 #[p0 r, i0 now] g n fun u g' n' =>
      u = .slice none 0 0 ∧ K0 g n g' := by
  have hr := h.hr
  unfold p0 i0
  unfold replC at hr
  refine c_in2 Tryz.func23 rfl Tryz.ntmps23 rfl fun hw => (Na (w_reg 1 rfl rfl (j' := 1) (nA rfl (n_nil (Nc (Na (Na (w_reg 2 rfl rfl (j' := 3) (nM rfl (nO (s_bin rfl rfl (bi_d un_67 rfl) ?_)))))))))))
  refine n_nil (Nc (w_no rfl (rfl) ?_))
  have lr := hw _ _ hr
  have lrl := hw _ _ h.hrl
  have lel := hw _ _ h.hel
  have la := hw _ _ h.ha
  have lc := hw _ _ h.hc
  have lq := hw _ _ h.hq
  refine Ne (Nc (Na (w_drw (T6 23 3) [(0, []), (1, []), (2, []), (3, []), (4, [3]), (5, [3]), (6, [3]), (7, [3]), (9, [3, 7]), (10, [3, 7]), (11, [3, 7]), (12, [3, 7]), (13, [3, 7]), (8, [3, 13]), (14, [3]), (15, [])] 16 (by kernel_rfl) rfl rfl (j' := 19) (dM rfl rfl (dO rfl rfl (s_nil rfl ⟨⟨rfl, rfl⟩, (dO rfl rfl (s_fa0 rfl fo_158_6 ⟨⟨rfl, rfl⟩, (dT rfl rfl rfl (sL rfl ag_154 ⟨clash_nil, ?_⟩))⟩))⟩))))))
  refine dM rfl rfl (dO rfl rfl (s_nil rfl ⟨⟨rfl, rfl⟩, (dO rfl rfl (s_fa0 rfl fo_158_3 ⟨⟨rfl, rfl⟩, (dT rfl rfl rfl (sL rfl ag_148 ⟨clash_rd rfl, ?_⟩))⟩))⟩))
  refine dM rfl rfl (dM rfl rfl (dO rfl rfl (s_nil rfl ⟨⟨rfl, rfl⟩, (dO rfl rfl (s_fa0 rfl fo_158_4 ⟨⟨rfl, rfl⟩, (dT rfl rfl rfl (sL rfl ag_150 ⟨clash_rd rfl, ?_⟩))⟩))⟩)))
  refine d_call rfl .no rfl rfl rfl (call_rd rfl) (C.use (relCache_c h.hrl) fun v g1 n1 hw1 hn1 hq => ?_)
  obtain ⟨rfl, k1⟩ := hq
  refine ⟨?_, ?_⟩
  · repeat' (first | exact trivial | exact kept1 k1 (by omega) hr | apply And.intro)
  have A1 := h.k0 k1 (hw.up (by omega))
  have r1 := A1.hr
  unfold replC at r1
  unfold p0
  refine d_call rfl .no rfl rfl rfl (call_rd rfl) (C.use (elTerm_c A1.hel) fun v g2 n2 hw2 hn2 hq => ?_)
  obtain ⟨rfl, k2⟩ := hq
  refine ⟨?_, ?_⟩
  · repeat' (first | exact trivial | exact kept1 k2 (by have := hw1 _ _ r1; omega) r1 | apply And.intro)
  have A2 := A1.k0 k2 (hw1.up (by omega))
  unfold i0
  refine d_call rfl .no rfl rfl rfl call_nil (C.use (settle0_c A2.ha) fun v g3 n3 hw3 hn3 hq => ?_)
  obtain ⟨rfl, k3⟩ := hq
  refine ⟨kept_nil, ?_⟩
  have A3 := A2.k0 k3 (hw2.up (by omega))
  have r3 := A3.hr
  unfold replC at r3
  refine d_nil (Nc (Na (w_reg 3 rfl rfl (j' := 3) (nM rfl (nM rfl (n_call .no rfl rfl rfl (C.use (sees0_c A3) fun v g4 n4 hw4 hn4 hq => ?_)))))))
  have k4 : K0 g3 _ g4 := hq
  have A4 := A3.k0 k4 (hw3.up (by omega))
  have r4 := A4.hr
  unfold replC at r4
  refine n_nil (Nc (Na (w_reg 1 rfl rfl (j' := 1) (nA rfl (n_nil (Nc (Na (Na (w_reg 12 rfl rfl (j' := 13) (nM rfl (nN rfl (nO (s_fa0 rfl fo_158_3 (nO (sL rfl ag_148 ?_)))))))))))))))
  refine nM rfl (n_call .no rfl rfl rfl (C.useG (relWait_c A4.hrl h0 h1 h2 hlt) fun v g5 n5 hw5 hn5 hx5 hq => ?_))
  obtain ⟨rfl, k5⟩ := hq
  have ka : K0 g n g4 := ((k1.dn (m := n) (by omega)).trans0 (k2.dn (m := n) (by omega)) (by omega)).trans0 ((k3.dn (m := n) (by omega)).trans0 (k4.dn (m := n) (by omega)) (by omega)) (by omega)
  have A5 := A4.k0 k5 (hw4.up (by omega))
  have kk5 : K0 g n g5 := ka.trans0 (k5.dn (m := n) (by omega)) (by omega)
  unfold call0
  refine nM rfl (nO (s_ext rfl rfl (nO (s_ext rfl rfl (n_op .no (q := 10) rfl (s_al zl_76 (nO (sSw rfl rfl sz_76 rfl rfl ?_))))))))
  refine nA rfl (n_nil ?_)
  repeat first | refine Na ?_ | refine Nb ?_ | refine Nc ?_ | refine Nd ?_ | refine Ne ?_
  refine w_gen fun gB nB hgB hnB hwgB => ?_
  have kB : K0 g5 n5 gB := by
    rw [hgB]
    refine Kp.add (Kp.add (Kp.refl _ _ _) ?_ _) ?_ _ <;> exact hx5 _ (by omega) (hw4.none (by omega))
  have AB := A5.k0 kB hw5
  have kkB : K0 g n gB := kk5.trans0 (kB.dn (m := n) (by omega)) (by omega)
  clear hgB
  have rB := AB.hr
  unfold replC at rB
  repeat first | refine Na ?_ | refine Nb ?_ | refine Nc ?_ | refine Nd ?_ | refine Ne ?_
  refine w_reg 1 rfl rfl (j' := 1) (nM rfl (n_nil (Nc (w_no rfl (rfl) (Ne (Nc (Na (Na (w_reg 14 rfl rfl (j' := 15) (nM rfl (nN rfl (nO (s_fa0 rfl fo_158_13 (nO (sL rfl ag_2 ?_)))))))))))))))
  refine nO (s_bin rfl rfl rfl (nM rfl (nSk rfl rfl (rfl) rfl 6 rfl (nO (s_pf rfl (rfl) rfl (n_nil (Nc (w_no rfl (rfl) (Ne (Nc (Na (w_reg 4 rfl rfl (j' := 19) (nM rfl (nN rfl (nO (s_fa0 rfl fo_158_13 (nO (sS rfl rfl sz_2 rfl rfl ?_))))))))))))))))))
  refine n_nil ?_
  rw [gset_same rB]
  repeat first | refine Na ?_ | refine Nb ?_ | refine Nc ?_ | refine Nd ?_ | refine Ne ?_
  refine w_wf fun hwBb => ?_
  repeat first | refine Na ?_ | refine Nb ?_ | refine Nc ?_ | refine Nd ?_ | refine Ne ?_
  refine w_reg 12 rfl rfl (j' := 31) (nM rfl (nN rfl (nO (s_fa0 rfl fo_158_4 (nO (sL rfl ag_150 ?_))))))
  refine nM rfl (n_call .no rfl rfl rfl (C.useG (elWant0_c AB.hel) fun v g9 n9 hw9 hn9 hx9 hq => ?_))
  obtain ⟨rfl, k9⟩ := hq
  have A9 := AB.k0 k9 (hwBb.up (by omega))
  have kk9 : K0 g n g9 := kkB.trans0 (k9.dn (m := n) (by omega)) (by omega)
  refine nM rfl (nO (s_ext rfl rfl (nO (s_ext rfl rfl (n_op .no (q := 28) rfl (s_al zl_74 (nO (sSw rfl rfl sz_74 rfl rfl ?_))))))))
  refine nA rfl (n_nil ?_)
  repeat first | refine Na ?_ | refine Nb ?_ | refine Nc ?_ | refine Nd ?_ | refine Ne ?_
  refine w_gen fun gA nT hgA hnT hwgA => ?_
  have kA : K0 g9 n9 gA := by
    rw [hgA]
    refine Kp.add (Kp.add (Kp.refl _ _ _) ?_ _) ?_ _ <;> exact hx9 _ (by omega) (hwBb.none (by omega))
  have AA := A9.k0 kA hw9
  have kkA : K0 g n gA := kk9.trans0 (kA.dn (m := n) (by omega)) (by omega)
  clear hgA
  have rA := AA.hr
  unfold replC at rA
  repeat first | refine Na ?_ | refine Nb ?_ | refine Nc ?_ | refine Nd ?_ | refine Ne ?_
  refine w_reg 1 rfl rfl (j' := 1) (nM rfl (n_nil (Nc (w_no rfl (rfl) (Ne (Nc (Na (Na (w_reg 14 rfl rfl (j' := 15) (nM rfl (nN rfl (nO (s_fa0 rfl fo_158_11 (nO (sL rfl ag_2 ?_)))))))))))))))
  refine nO (s_bin rfl rfl rfl (nM rfl (nSk rfl rfl (rfl) rfl 6 rfl (nO (s_pf rfl (rfl) rfl (n_nil (Nc (w_no rfl (rfl) (Ne (Nc (Na (w_reg 4 rfl rfl (j' := 19) (nM rfl (nN rfl (nO (s_fa0 rfl fo_158_11 (nO (sS rfl rfl sz_2 rfl rfl ?_))))))))))))))))))
  refine n_nil ?_
  rw [gset_same rA]
  repeat first | refine Na ?_ | refine Nb ?_ | refine Nc ?_ | refine Nd ?_ | refine Ne ?_
  refine w_wf fun hwAb => ?_
  repeat first | refine Na ?_ | refine Nb ?_ | refine Nc ?_ | refine Nd ?_ | refine Ne ?_
  refine w_reg 4 rfl rfl (j' := 23) (nM rfl (nM rfl (n_call .no rfl rfl rfl (C.use (plans0_c AA) fun v g10 n10 hw10 hn10 hq => ?_))))
  obtain ⟨rfl, k10⟩ := hq
  refine nA rfl (n_nil (Nc (Na (w_reg 2 rfl rfl (j' := 2) (nM rfl (nO (s_bin rfl rfl (bi_d un_43 rfl) ?_)))))))
  refine n_nil (Nc (w_no rfl (rfl) (Ne (Nc (Na (w_reg 2 rfl rfl (j' := 4) (nM rfl (nA rfl (n_nil (Nc (Nf (z_r1 rfl rfl ?_))))))))))))
  exact ⟨rfl, kkA.trans0 (k10.dn (m := n) (by omega)) (by omega)⟩

end Go.Proofs.YtfchjhfccnodpaaGreat
end

section
open Go.Proofs
namespace Go.Proofs.YtfchjhfccnodpaaGreat
set_option linter.unusedSimpArgs false
set_option linter.unusedVariables false
set_option maxRecDepth 100000

section
variable {g : Gm} {n b r rl c el q a : Nat} {me base now : Int} {pack : Bool} {asked kind id at_ : Int} {out : Bool} {x i k v : Int}

theorem repLeads_c (h : RepAt b g r rl c el q a me base pack asked kind id at_ out x i k v) : C 25 #[p0 r, i0 now] g n fun u g' n' => u = .bool false ∧ K0 g n g' := by
  have hr := h.hr
  unfold p0 i0
  unfold replC at hr
  refine c_in2 Tryz.func25 rfl Tryz.ntmps25 rfl fun hw => (Na (w_reg 1 rfl rfl (j' := 1) (nA rfl (n_nil (Nc (Na (w_reg 11 rfl rfl (j' := 12) (nM rfl (nO (s_bin rfl rfl (bi_d un_67 rfl) ?_))))))))))
  refine nM rfl (nG rfl rfl (rfl) rfl (nY rfl rfl (rfl) (s_nil rfl (nY rfl rfl (rfl) (s_fa0 rfl fo_158_4 (nY rfl rfl (rfl) (sL rfl ag_150 ?_)))))))
  refine nG rfl rfl (rfl) rfl (n_call (.yes rfl rfl (rfl)) rfl rfl rfl (C.use (elLeads_c h.hel) fun v g1 n1 hw1 hn1 hq => ?_))
  obtain ⟨rfl, k1⟩ := hq
  refine nO (s_pt rfl (rfl) rfl (nA rfl (n_nil (Nc (Nf (z_r1 rfl rfl ?_))))))
  exact ⟨rfl, k1.dn (by omega)⟩

theorem repTerm_c (h : RepAt b g r rl c el q a me base pack asked kind id at_ out x i k v) : C 26 #[p0 r] g n fun u g' n' => u = i0 0 ∧ K0 g n g' := by
  have hr := h.hr
  unfold p0 i0
  unfold replC at hr
  refine c_in1 Tryz.func26 rfl Tryz.ntmps26 rfl fun hw => (Na (w_reg 1 rfl rfl (j' := 1) (nA rfl (n_nil (Nc (Na (Na (w_reg 2 rfl rfl (j' := 3) (nM rfl (nO (s_bin rfl rfl (bi_d un_67 rfl) ?_)))))))))))
  refine n_nil (Nc (w_no rfl (rfl) (Ne (Nc (Na (w_reg 6 rfl rfl (j' := 9) (nM rfl (nN rfl (nO (s_fa0 rfl fo_158_4 (nO (sL rfl ag_150 ?_))))))))))))
  refine n_call .no rfl rfl rfl (C.use (elTerm_c h.hel) fun v g1 n1 hw1 hn1 hq => ?_)
  obtain ⟨rfl, k1⟩ := hq
  unfold i0
  refine nA rfl (n_nil (Nc (Nf (z_r1 rfl rfl ?_))))
  exact ⟨rfl, k1.dn (by omega)⟩

theorem repCache_c (h : RepAt b g r rl c el q a me base pack asked kind id at_ out x i k v) : C 27 #[p0 r] g n fun u g' n' => u = p0 c ∧ K0 g n g' := by
  have hr := h.hr
  unfold p0
  unfold replC at hr
  refine c_in1 Tryz.func27 rfl Tryz.ntmps27 rfl fun hw => (Na (w_reg 1 rfl rfl (j' := 1) (nA rfl (n_nil (Nc (Na (Na (w_reg 2 rfl rfl (j' := 3) (nM rfl (nO (s_bin rfl rfl (bi_d un_67 rfl) ?_)))))))))))
  refine n_nil (Nc (w_no rfl (rfl) (Ne (Nc (Na (w_reg 6 rfl rfl (j' := 9) (nM rfl (nN rfl (nO (s_fa0 rfl fo_158_3 (nO (sL rfl ag_148 ?_))))))))))))
  refine n_call .no rfl rfl rfl (C.use (relCache_c h.hrl) fun v g1 n1 hw1 hn1 hq => ?_)
  obtain ⟨rfl, k1⟩ := hq
  unfold p0
  refine nA rfl (n_nil (Nc (Nf (z_r1 rfl rfl ?_))))
  exact ⟨rfl, k1.dn (by omega)⟩

theorem all0_c (h : g a = some assuC) : C 99 #[p0 a] g n fun u g' n' => u = .slice none 0 0 ∧ K0 g n g' := by
  unfold p0
  refine c_in1 Tryz.func99 rfl Tryz.ntmps99 rfl fun hw => (Na (w_reg 1 rfl rfl (j' := 1) (nA rfl (n_nil (Nc (Na (Na (w_reg 2 rfl rfl (j' := 3) (nM rfl (nO (s_bin rfl rfl (bi_d un_154 rfl) ?_)))))))))))
  refine n_nil (Nc (w_no rfl (rfl) (Ne (Nc (Na (w_reg 1 rfl rfl (j' := 4) (nA rfl (n_nil (Nc (Na (Na (w_reg 6 rfl rfl (j' := 10) (nM rfl (nN rfl (nO (s_fa0 rfl fo_253_0 (nO (sL rfl ag_251 ?_))))))))))))))))))
  refine nO (s_len rfl rfl un_251 rfl (nM rfl (n_nil ?_)))
  repeat first | refine Na ?_ | refine Nb ?_ | refine Nc ?_ | refine Nd ?_ | refine Ne ?_
  refine w_loop (β := Unit) (fun _ => [(3, .slice none 0 0), (12, i0 0), (13, i0 0)])
    (fun _ g' n' => n ≤ n' ∧ K0 g n g') (fun _ => 0) () ⟨rfl, rfl, rfl, trivial⟩ ⟨by omega, (by repeat (first | exact Kp.refl _ _ _ | refine Kp.new ?_ (by omega) _))⟩ ?_
  rintro ⟨⟩ f g1 n1 hw1 ⟨hn1, k1⟩
  unfold i0
  repeat first | refine Na ?_ | refine Nb ?_ | refine Nc ?_ | refine Nd ?_ | refine Ne ?_
  refine w_reg 1 rfl rfl (j' := 1) (nO (s_bin rfl rfl rfl (n_nil (Nc (Na (w_no rfl (rfl) ?_))))))
  refine w_exit rfl ?_
  repeat first | refine Na ?_ | refine Nb ?_ | refine Nc ?_ | refine Nd ?_ | refine Ne ?_
  refine w_reg 2 rfl rfl (j' := 3) (nM rfl (nA rfl (n_nil (Nc (Nf (z_r1 rfl rfl ?_))))))
  exact ⟨rfl, k1⟩

theorem repAssumed_c (h : RepAt b g r rl c el q a me base pack asked kind id at_ out x i k v) : C 29 #[p0 r] g n fun u g' n' => u = .slice none 0 0 ∧ K0 g n g' := by
  have hr := h.hr
  unfold p0
  unfold replC at hr
  refine c_in1 Tryz.func29 rfl Tryz.ntmps29 rfl fun hw => (Na (w_reg 1 rfl rfl (j' := 1) (nA rfl (n_nil (Nc (Na (Na (w_reg 2 rfl rfl (j' := 3) (nM rfl (nO (s_bin rfl rfl (bi_d un_67 rfl) ?_)))))))))))
  refine n_nil (Nc (w_no rfl (rfl) (Ne (Nc (Na (w_reg 6 rfl rfl (j' := 9) (nM rfl (nN rfl (nO (s_fa0 rfl fo_158_6 (nO (sL rfl ag_154 ?_))))))))))))
  refine n_call .no rfl rfl rfl (C.use (all0_c h.ha) fun v g1 n1 hw1 hn1 hq => ?_)
  obtain ⟨rfl, k1⟩ := hq
  refine nA rfl (n_nil (Nc (Nf (z_r1 rfl rfl ?_))))
  exact ⟨rfl, k1.dn (by omega)⟩
end

end Go.Proofs.YtfchjhfccnodpaaGreat
end

section
open Go.Proofs
namespace Go.Proofs.YtfchjhfccnodpaaGreat
open Go.MapKept
set_option linter.unusedSimpArgs false
set_option linter.unusedVariables false
set_option maxRecDepth 100000

def IMap (g : Gm) (m : Nat) (ks : List Int) : Prop := ∃ es clock, g m = some (.map es clock) ∧ Stamped es.toArray clock ∧ es.map (·.key) = ks.map fun k => .int .i64 k

theorem same_int (a b : Int) : Instr.sameNow (.int .i64) (.int .i64 a) (.int .i64 b) = some (decide (a = b)) := by
  show some (a == b) = _
  rfl

theorem find_int {k : Int} : ∀ {es : List MapEntry} {ks : List Int}, es.map (·.key) = ks.map (fun k => .int .i64 k) → k ∉ ks → ∀ i, Instr.findNow (.int .i64) (.int .i64 k) es i = some none
  | [], [], _, _, _ => rfl
  | e :: es, x :: ks, h, hk, i => by
    simp only [List.map_cons, List.cons.injEq] at h
    have hd : decide (k = x) = false := decide_eq_false fun e => hk (by rw [e]; exact List.mem_cons_self ..)
    simp only [Instr.findNow, h.1, same_int, hd, find_int h.2 (fun q => hk (List.mem_cons_of_mem _ q))]
  | [], x :: ks, h, _, _ => by simp at h
  | e :: es, [], h, _, _ => by simp at h

section
variable {N : Nat} {f : Nat → Value} {s : Sls} {g : Gm} {n nm : Nat} {k : Sls → Gm → List Nat → List Nat → Prop} {d : Tmp} {ty : TypeId} {pos : String} {af : Array Edge} {gd : Option (Nat × Bool)} {t kt et : TypeId} {x ix : Operand} {m : Nat} {key : Int} {z : Value} {ks : List Int}

theorem s_lkI (ht : E6.P.underlying t = some (.map kt et)) (hkt : E6.P.underlying kt = some (.int .i64)) (hz : zeroP E6.P et = some z) (hx : ov N s x = some (.map (some m))) (hi : ov N s ix = some (.int .i64 key)) (hm : IMap g m ks) (hf : key ∉ ks)
    (hk : k ((d, z) :: s) g [m] []) : ST N f s g n nm ⟨some d, .lookup t x ix false, ty, pos, af, gd⟩ k := by
  obtain ⟨es, c, hg, hs, he⟩ := hm
  refine ⟨⟨[m], fun _ objs => match objs with
          | [.map es _] => (Instr.findNow (.int .i64) (.int .i64 key) es 0).map fun r => ⟨lookupVal r z false, none, none⟩
          | _ => none⟩, ⟨lookupVal none z false, none, none⟩, ?_, ?_, rfl, _, _, Fr_put _ _ _ _ _, rfl, hk⟩
  · simp only [aop, aLookup, ht, plainEv, ov_ok hi, ov_ok hx, Option.bind_some, keyKind, hkt, hz]
    rw [if_pos (show plainV (.int .i64 key) = true from rfl)]
    rfl
  · simp only [Prim.run, getAll, hg, Option.bind_some, Option.map_some, find_int he hf 0]

theorem s_msetI {v : Operand} {w : Value} (ht : E6.P.underlying t = some (.map kt et)) (hkt : E6.P.underlying kt = some (.int .i64)) (hx : ov N s x = some (.map (some m))) (hi : ov N s ix = some (.int .i64 key)) (hv : ov N s v = some w) (hm : IMap g m ks) (hf : key ∉ ks)
    (hk : ∀ o, (∀ g' : Gm, g' m = some o → IMap g' m (ks ++ [key])) → k s (gset g m o) [m] [m]) : ST N f s g n nm ⟨none, .mapUpdate t x ix v, ty, pos, af, gd⟩ k := by
  obtain ⟨es, c, hg, hs, he⟩ := hm
  refine ⟨⟨[m], fun _ objs => match objs with
          | [.map es clock] => (Instr.findNow (.int .i64) (.int .i64 key) es 0).map fun
              | some (i, _) => ⟨undef, some (m, some (.map (es.modify i fun e => { e with key := .int .i64 key, val := w }) clock)), none⟩
              | none => ⟨undef, some (m, some (.map (es ++ [{ key := .int .i64 key, val := w, born := clock }]) (clock + 1))), none⟩
          | _ => none⟩, ⟨undef, some (m, some (.map (es ++ [{ key := .int .i64 key, val := w, born := c }]) (c + 1))), none⟩, ?_, ?_, by simp [wrOk], _, _, Fr_put0 _ _ _ _, rfl, hk _ fun g' hg' => ⟨_, _, hg', ?_, by simp [he]⟩⟩
  · simp only [aop, aMapUpdate, ht, plainEv, ov_ok hi, ov_ok hx, ov_ok hv, Option.bind_some, keyKind, hkt]
    rw [if_pos (show plainV (.int .i64 key) = true from rfl)]
    rfl
  · simp only [Prim.run, getAll, hg, Option.bind_some, Option.map_some, find_int he hf 0]
  · have := stamped_push hs (key := .int .i64 key) (val := w) (fun x hx q => by
      have h1 : x.key ∈ es.map (·.key) := List.mem_map_of_mem (by simpa using hx)
      rw [he, q, List.mem_map] at h1
      obtain ⟨y, hy, h2⟩ := h1
      simp only [Value.int.injEq, true_and] at h2
      exact hf (h2 ▸ hy))
    simpa using this
theorem s_mm (hk : k ((d, .map (some nm)) :: s) (gset g nm (.map [] 0)) [nm] [nm]) : ST N f s g n nm ⟨some d, .makeMap t none, ty, pos, af, gd⟩ k :=
  ⟨⟨[], fun nm _ => some ⟨.map (some nm), none, some (.map [] 0)⟩⟩, ⟨.map (some nm), none, some (.map [] 0)⟩, by simp only [aop, aMakeMap, Option.map_some], rfl, rfl, _, _, Fr_put _ _ _ _ _, rfl, hk⟩
end

end Go.Proofs.YtfchjhfccnodpaaGreat
end

section
open Go.Proofs
namespace Go.Proofs.YtfchjhfccnodpaaGreat
set_option linter.unusedSimpArgs false
set_option linter.unusedVariables false
set_option maxRecDepth 100000

theorem replNil_c {g : Gm} {n : Nat} {me life : Int} {pack : Bool} (hb : ¬(0 ≤ me ∧ me ≤ 7 ∧ 0 ≤ life ∧ life ≤ 1000000)) : C 22 #[.int .i64 me, .bool pack, .int .i64 life] g n fun u g' n' => u = .pointer none ∧ K0 g n g' := by
  refine c_in3 Tryz.func22 rfl Tryz.ntmps22 rfl fun hw => (Na (w_reg 1 rfl rfl (j' := 1) (nA rfl (n_nil ?_))))
  by_cases h0 : 0 ≤ me
  rotate_left
  · refine Nc (Na (Na (w_reg 14 rfl rfl (j' := 15) (nM rfl (nO (s_bin rfl rfl rfl (nM rfl (n_sk rfl rfl (decide_eq_true (by omega)) (n_sk rfl rfl (decide_eq_true (by omega)) (nO (s_pt rfl (decide_eq_true (by omega)) rfl (nM rfl (n_sk rfl rfl (rfl) (n_sk rfl rfl (rfl) (nO (s_pt rfl (rfl) rfl (nM rfl (n_sk rfl rfl (rfl) (n_sk rfl rfl (rfl) (nO (s_pt rfl (rfl) rfl (n_nil (Nc (w_yes rfl (rfl) (Na (w_reg 1 rfl rfl (j' := 16) (nA rfl (n_nil (Nc (Nf (z_r1 rfl rfl ?_)))))))))))))))))))))))))))))))
    exact ⟨rfl, (by repeat (first | exact Kp.refl _ _ _ | refine Kp.new ?_ (by omega) _))⟩
  by_cases h7 : me ≤ 7
  rotate_left
  · refine Nc (Na (Na (w_reg 14 rfl rfl (j' := 15) (nM rfl (nO (s_bin rfl rfl rfl (nM rfl (nG rfl rfl (decide_eq_false (by omega)) rfl (nY rfl rfl (decide_eq_false (by omega)) (s_bin rfl rfl rfl (nO (s_pf rfl (decide_eq_false (by omega)) rfl (nM rfl (n_sk rfl rfl (decide_eq_true (by omega)) (n_sk rfl rfl (decide_eq_true (by omega)) (nO (s_pt rfl (decide_eq_true (by omega)) rfl (nM rfl (n_sk rfl rfl (rfl) (n_sk rfl rfl (rfl) (nO (s_pt rfl (rfl) rfl (n_nil (Nc (w_yes rfl (rfl) (Na (w_reg 1 rfl rfl (j' := 16) (nA rfl (n_nil (Nc (Nf (z_r1 rfl rfl ?_))))))))))))))))))))))))))))))))
    exact ⟨rfl, (by repeat (first | exact Kp.refl _ _ _ | refine Kp.new ?_ (by omega) _))⟩
  by_cases l0 : 0 ≤ life
  rotate_left
  · refine Nc (Na (Na (w_reg 14 rfl rfl (j' := 15) (nM rfl (nO (s_bin rfl rfl rfl (nM rfl (nG rfl rfl (decide_eq_false (by omega)) rfl (nY rfl rfl (decide_eq_false (by omega)) (s_bin rfl rfl rfl (nO (s_pf rfl (decide_eq_false (by omega)) rfl (nM rfl (nG rfl rfl (decide_eq_false (by omega)) rfl (nY rfl rfl (decide_eq_false (by omega)) (s_bin rfl rfl rfl (nO (s_pf rfl (decide_eq_false (by omega)) rfl (nM rfl (n_sk rfl rfl (decide_eq_true (by omega)) (n_sk rfl rfl (decide_eq_true (by omega)) (nO (s_pt rfl (decide_eq_true (by omega)) rfl (n_nil (Nc (w_yes rfl (rfl) (Na (w_reg 1 rfl rfl (j' := 16) (nA rfl (n_nil (Nc (Nf (z_r1 rfl rfl ?_)))))))))))))))))))))))))))))))))
    exact ⟨rfl, (by repeat (first | exact Kp.refl _ _ _ | refine Kp.new ?_ (by omega) _))⟩
  have l1 : ¬ life ≤ 1000000 := fun h => hb ⟨h0, h7, l0, h⟩
  refine Nc (Na (Na (w_reg 14 rfl rfl (j' := 15) (nM rfl (nO (s_bin rfl rfl rfl (nM rfl (nG rfl rfl (decide_eq_false (by omega)) rfl (nY rfl rfl (decide_eq_false (by omega)) (s_bin rfl rfl rfl (nO (s_pf rfl (decide_eq_false (by omega)) rfl (nM rfl (nG rfl rfl (decide_eq_false (by omega)) rfl (nY rfl rfl (decide_eq_false (by omega)) (s_bin rfl rfl rfl (nO (s_pf rfl (decide_eq_false (by omega)) rfl (nM rfl (nG rfl rfl (decide_eq_false (by omega)) rfl (nY rfl rfl (decide_eq_false (by omega)) (s_bin rfl rfl rfl (nO (s_pf rfl (decide_eq_false (by omega)) rfl (n_nil (Nc (w_yes rfl (decide_eq_true (by omega)) (Na (w_reg 1 rfl rfl (j' := 16) (nA rfl (n_nil (Nc (Nf (z_r1 rfl rfl ?_))))))))))))))))))))))))))))))))))
  exact ⟨rfl, (by repeat (first | exact Kp.refl _ _ _ | refine Kp.new ?_ (by omega) _))⟩

theorem Kp.low0 {F : Nat → AObj → Prop} {g g' : Gm} {n q : Nat} (h : Kp F g n g') (hF : ∀ x o, F x o → q ≤ x) (hq : q ≤ n) : K0 g q g' := fun x o hx ho _ => h x o (by omega) ho fun hf => by
  have := hF _ _ hf; omega

def Ints (g : Gm) (v : Value) (ts : List Int) : Prop := SlC g 1 v ts.length (ts.map fun z => .int .i64 z)

theorem repCallsBad_c (hB : BegunOk) {g : Gm} {n : Nat} {me life : Int} {pack : Bool} {tv : Value} (hb : ¬(0 ≤ me ∧ me ≤ 7 ∧ 0 ≤ life ∧ life ≤ 1000000)) :
    C 4 #[.int .i64 me, .int .i64 life, tv, .bool pack] g n fun u g' n' => u = .bool true ∧ K0 g n g' := by
  refine c_in4 Tryz.func4 rfl Tryz.ntmps4 rfl fun hw => (Na (w_reg 1 rfl rfl (j' := 1) (nA rfl (n_nil (Nc (Na (w_reg 2 rfl rfl (j' := 3) (n_call .no rfl rfl rfl (C.use (hB _ _) fun v g1 n1 hw1 hn1 hq => ?_)))))))))
  obtain ⟨rfl, rfl⟩ := hq
  refine nA rfl (n_nil (Nc (Na (Na (w_reg 2 rfl rfl (j' := 2) (nM rfl (nO (s_not rfl (n_nil (Nc (w_no rfl (rfl) (Ne (Nc (Na (w_reg 5 rfl rfl (j' := 7) (nM rfl (nM rfl (nM rfl (n_call .no rfl rfl rfl (C.use (replNil_c hb) fun v g2 n2 hw2 hn2 hq => ?_))))))))))))))))))))
  obtain ⟨rfl, k2⟩ := hq
  refine nA rfl (n_nil ?_)
  by_cases h0 : 0 ≤ me
  rotate_left
  · refine Nc (Na (Na (w_reg 14 rfl rfl (j' := 14) (nM rfl (nO (s_bin rfl rfl rfl (nM rfl (n_sk rfl rfl (decide_eq_true (by omega)) (n_sk rfl rfl (decide_eq_true (by omega)) (nO (s_pt rfl (decide_eq_true (by omega)) rfl (nM rfl (n_sk rfl rfl (rfl) (n_sk rfl rfl (rfl) (nO (s_pt rfl (rfl) rfl (nM rfl (n_sk rfl rfl (rfl) (n_sk rfl rfl (rfl) (nO (s_pt rfl (rfl) rfl (n_nil (Nc (w_yes rfl (rfl) (Na (w_reg 3 rfl rfl (j' := 17) (nM rfl (nO (s_bin rfl rfl (bi_d un_67 rfl) ?_)))))))))))))))))))))))))))))
    refine nA rfl (n_nil (Nc (Nf (z_r1 rfl rfl ?_))))
    exact ⟨rfl, k2.dn (by omega)⟩
  by_cases h7 : me ≤ 7
  rotate_left
  · refine Nc (Na (Na (w_reg 14 rfl rfl (j' := 14) (nM rfl (nO (s_bin rfl rfl rfl (nM rfl (nG rfl rfl (decide_eq_false (by omega)) rfl (nY rfl rfl (decide_eq_false (by omega)) (s_bin rfl rfl rfl (nO (s_pf rfl (decide_eq_false (by omega)) rfl (nM rfl (n_sk rfl rfl (decide_eq_true (by omega)) (n_sk rfl rfl (decide_eq_true (by omega)) (nO (s_pt rfl (decide_eq_true (by omega)) rfl (nM rfl (n_sk rfl rfl (rfl) (n_sk rfl rfl (rfl) (nO (s_pt rfl (rfl) rfl (n_nil (Nc (w_yes rfl (rfl) (Na (w_reg 3 rfl rfl (j' := 17) (nM rfl (nO (s_bin rfl rfl (bi_d un_67 rfl) ?_))))))))))))))))))))))))))))))
    refine nA rfl (n_nil (Nc (Nf (z_r1 rfl rfl ?_))))
    exact ⟨rfl, k2.dn (by omega)⟩
  by_cases l0 : 0 ≤ life
  rotate_left
  · refine Nc (Na (Na (w_reg 14 rfl rfl (j' := 14) (nM rfl (nO (s_bin rfl rfl rfl (nM rfl (nG rfl rfl (decide_eq_false (by omega)) rfl (nY rfl rfl (decide_eq_false (by omega)) (s_bin rfl rfl rfl (nO (s_pf rfl (decide_eq_false (by omega)) rfl (nM rfl (nG rfl rfl (decide_eq_false (by omega)) rfl (nY rfl rfl (decide_eq_false (by omega)) (s_bin rfl rfl rfl (nO (s_pf rfl (decide_eq_false (by omega)) rfl (nM rfl (n_sk rfl rfl (decide_eq_true (by omega)) (n_sk rfl rfl (decide_eq_true (by omega)) (nO (s_pt rfl (decide_eq_true (by omega)) rfl (n_nil (Nc (w_yes rfl (rfl) (Na (w_reg 3 rfl rfl (j' := 17) (nM rfl (nO (s_bin rfl rfl (bi_d un_67 rfl) ?_)))))))))))))))))))))))))))))))
    refine nA rfl (n_nil (Nc (Nf (z_r1 rfl rfl ?_))))
    exact ⟨rfl, k2.dn (by omega)⟩
  have l1 : ¬ life ≤ 1000000 := fun h => hb ⟨h0, h7, l0, h⟩
  refine Nc (Na (Na (w_reg 14 rfl rfl (j' := 14) (nM rfl (nO (s_bin rfl rfl rfl (nM rfl (nG rfl rfl (decide_eq_false (by omega)) rfl (nY rfl rfl (decide_eq_false (by omega)) (s_bin rfl rfl rfl (nO (s_pf rfl (decide_eq_false (by omega)) rfl (nM rfl (nG rfl rfl (decide_eq_false (by omega)) rfl (nY rfl rfl (decide_eq_false (by omega)) (s_bin rfl rfl rfl (nO (s_pf rfl (decide_eq_false (by omega)) rfl (nM rfl (nG rfl rfl (decide_eq_false (by omega)) rfl (nY rfl rfl (decide_eq_false (by omega)) (s_bin rfl rfl rfl (nO (s_pf rfl (decide_eq_false (by omega)) rfl (n_nil (Nc (w_yes rfl (decide_eq_true (by omega)) (Na (w_reg 3 rfl rfl (j' := 17) (nM rfl (nO (s_bin rfl rfl (bi_d un_67 rfl) ?_))))))))))))))))))))))))))))))))
  refine nA rfl (n_nil (Nc (Nf (z_r1 rfl rfl ?_))))
  exact ⟨rfl, k2.dn (by omega)⟩

end Go.Proofs.YtfchjhfccnodpaaGreat
end
