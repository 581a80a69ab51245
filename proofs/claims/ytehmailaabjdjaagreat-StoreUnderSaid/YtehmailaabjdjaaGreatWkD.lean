/-
  What a call does not see stays; numbers and truths in rows; more operations. No condition.
-/
import Derived.Test.YtehmailaabjdjaaGreatLwA
open Go.Proofs
namespace Go.Proofs.YtehmailaabjdjaaGreat
set_option linter.unusedSimpArgs false
set_option linter.unusedVariables false
set_option maxRecDepth 100000

open Classical in
/-- The heap without some names. -/
noncomputable def hid (g : Gm) (p : Nat → Prop) : Gm := fun x => if p x then none else g x

theorem hid_some {g : Gm} {p : Nat → Prop} {x : Nat} {o : AObj} : hid g p x = some o ↔ ¬ p x ∧ g x = some o := by
  unfold hid
  by_cases h : p x <;> simp [h]
theorem hid_off {g : Gm} {p : Nat → Prop} {x : Nat} (h : ¬ p x) : hid g p x = g x := if_neg h
theorem hid_on {g : Gm} {p : Nat → Prop} {x : Nat} (h : p x) : hid g p x = none := if_pos h

/-- FRAME: names that a call is not shown stay as they were. -/
theorem C.frame {f : FuncId} {args : Array Value} {g : Gm} {n : Nat} {p : Nat → Prop} {R : Value → Gm → Nat → Prop} (hp : ∀ x, p x → x < n) (h : C f args (hid g p) n R) :
    C f args g n fun u g' n' => R u (hid g' p) n' ∧ ∀ x, p x → g' x = g x := by
  refine C.wf fun hw => ?_
  have e : (⟨g, n⟩ : Heap) = Heap.over ⟨hid g p, n⟩ ⟨hid g fun x => ¬ p x, n⟩ := by
    unfold Heap.over
    congr 1
    funext x
    by_cases hx : p x
    · simp only [hid_off (g := g) (p := fun x => ¬ p x) (x := x) (fun h => h hx), hid_on hx]
      cases g x <;> rfl
    · simp only [hid_on (g := g) (p := fun x => ¬ p x) (x := x) hx, hid_off hx]
  have hf := frame_over (g := ⟨hid g fun x => ¬ p x, n⟩) (fun l o hl => by
    have := (hid_some (g := g) (p := fun x => ¬ p x) |>.1 hl).1
    exact hid_on (Classical.not_not.1 this)) h.out.strong
  refine ⟨?_⟩
  rw [e]
  refine hf.mono ?_
  rintro v τ ⟨σ', ⟨h1, h2, h3, h4⟩, h5, rfl⟩
  have hgr : ∀ x, p x → (σ'.over ⟨hid g fun x => ¬ p x, n⟩).get x = g x := by
    intro x hx
    cases hg : g x with
    | some o => exact Heap.over_some ((hid_some (g := g) (p := fun x => ¬ p x)).2 ⟨fun h => h hx, hg⟩)
    | none =>
      rw [Heap.over_none ((hid_off (g := g) (p := fun x => ¬ p x) (x := x) (fun h => h hx)).trans hg)]
      exact h4 x (hp x hx) (hid_on hx)
  refine ⟨?_, hgr⟩
  have : hid (σ'.over ⟨hid g fun x => ¬ p x, n⟩).get p = σ'.get := by
    funext x
    by_cases hx : p x
    · rw [hid_on hx]
      exact (h4 x (hp x hx) (hid_on hx)).symm
    · rw [hid_off hx]
      exact Heap.over_none (hid_on (g := g) (p := fun x => ¬ p x) (x := x) hx)
  rw [this]
  exact h1

/-- What the names in p are not, and no rows of bytes. -/
def FP (p : Nat → Prop) (x : Nat) (o : AObj) : Prop := ¬ p x ∧ nb o
theorem FP.nob (p : Nat → Prop) : NoB (FP p) := fun x cl ro h => h.2 rfl

theorem Kp.unhid {F : Nat → AObj → Prop} {g g' : Gm} {n : Nat} {p : Nat → Prop} (h : Kp F (hid g p) n (hid g' p)) (hF : ∀ x o, F x o → nb o) (hp : ∀ x, p x → g' x = g x) : Kp (FP p) g n g' := by
  intro x o hx ho hf
  by_cases e : p x
  · rw [hp x e]; exact ho
  · have := h x o hx (hid_some.2 ⟨e, ho⟩) fun k => hf ⟨e, hF x o k⟩
    exact (hid_some.1 this).2

theorem WF.unhid {g : Gm} {n : Nat} {p : Nat → Prop} (h : WF g n) : WF (hid g p) n := fun l o hl => h l o (hid_some.1 hl).2

/-- Where the names left out are others than those of before, and what was seen is. -/
theorem K0.unhid {g g' : Gm} {n : Nat} {p p' : Nat → Prop} (h : ∀ x o, x < n → ¬ p x → g x = some o → ¬ p' x ∧ g' x = some o) : K0 (hid g p) n (hid g' p') :=
  fun x o hx ho _ => hid_some.2 (h x o hx (hid_some.1 ho).1 (hid_some.1 ho).2)

/-! ### Rows of numbers, of truths -/

section
variable {F : Nat → AObj → Prop} {g g' : Gm} {n : Nat}

theorem SlC.kpN {m : Nat} {v : Value} {cs : List Value} (h : SlC g 1 v m cs) (hk : Kp F g n g') (hw : WF g n) (hF : NoB F) : SlC g' 1 v m cs := by
  obtain ⟨h1, h2 | h2 | ⟨l, o, c, h2, h3, h4 | ⟨cl, ro, h4, h5, h6⟩⟩⟩ := h
  · exact ⟨h1, .inl h2⟩
  · exact ⟨h1, .inr (.inl h2)⟩
  · exact ⟨h1, .inr (.inr ⟨l, o, c, h2, h3, .inl h4⟩)⟩
  · exact ⟨h1, .inr (.inr ⟨l, o, c, h2, h3, .inr ⟨cl, ro, hk.at hw h4 (hF l _ _), h5, h6⟩⟩)⟩
theorem SlOwn.kpN {m : Nat} {v : Value} {cs : List Value} (h : SlOwn g 1 v m cs) (hk : Kp F g n g') (hw : WF g n) (hF : NoB F) : SlOwn g' 1 v m cs := by
  obtain ⟨h1, h2 | ⟨l, o, c, cl, h2, h3, h4, h5, h6⟩⟩ := h
  · exact ⟨h1, .inl h2⟩
  · exact ⟨h1, .inr ⟨l, o, c, cl, h2, h3, hk.at hw h4 (hF l _ _), h5, h6⟩⟩

def IntsAt (g : Gm) (v : Value) (xs : List Int) : Prop := SlC g 1 v xs.length (xs.map (.int .i64))
def BoolsAt (g : Gm) (v : Value) (xs : List Bool) : Prop := SlC g 1 v xs.length (xs.map .bool)
theorem IntsAt.kp {v : Value} {xs : List Int} (h : IntsAt g v xs) (hk : Kp F g n g') (hw : WF g n) (hF : NoB F) : IntsAt g' v xs := SlC.kpN h hk hw hF
theorem IntsAt.kp0 {v : Value} {xs : List Int} (h : IntsAt g v xs) (hk : K0 g n g') (hw : WF g n) : IntsAt g' v xs := SlC.kpN h hk hw NoB.z
theorem BoolsAt.kp {v : Value} {xs : List Bool} (h : BoolsAt g v xs) (hk : Kp F g n g') (hw : WF g n) (hF : NoB F) : BoolsAt g' v xs := SlC.kpN h hk hw hF
theorem BoolsAt.kp0 {v : Value} {xs : List Bool} (h : BoolsAt g v xs) (hk : K0 g n g') (hw : WF g n) : BoolsAt g' v xs := SlC.kpN h hk hw NoB.z
theorem IntsAt.len {v : Value} {xs : List Int} (h : IntsAt g v xs) : ∃ a c, v = .slice a xs.length c := by
  obtain ⟨a, c, h, _⟩ := SlC.len h; exact ⟨a, c, h⟩
theorem BoolsAt.len {v : Value} {xs : List Bool} (h : BoolsAt g v xs) : ∃ a c, v = .slice a xs.length c := by
  obtain ⟨a, c, h, _⟩ := SlC.len h; exact ⟨a, c, h⟩
theorem IntsAt.at {v : Value} {xs : List Int} {i : Nat} (h : IntsAt g v xs) (hi : i < xs.length) : ∃ l o c cl ro, v = .slice (some ⟨l, o, none⟩) xs.length c ∧ g l = some (.cells cl 1 ro) ∧ cl[o + i * 1]? = some (.int .i64 xs[i]) := by
  obtain ⟨l, o, c, cl, ro, h1, _, h2, h3, h4⟩ := SlC.pos h (by omega)
  refine ⟨l, o, c, cl, ro, h1, h2, ?_⟩
  rw [take_cell h4 (by omega), List.getElem?_map, Nat.mul_one, List.getElem?_eq_getElem hi]; rfl
theorem BoolsAt.at {v : Value} {xs : List Bool} {i : Nat} (h : BoolsAt g v xs) (hi : i < xs.length) : ∃ l o c cl ro, v = .slice (some ⟨l, o, none⟩) xs.length c ∧ g l = some (.cells cl 1 ro) ∧ cl[o + i * 1]? = some (.bool xs[i]) := by
  obtain ⟨l, o, c, cl, ro, h1, _, h2, h3, h4⟩ := SlC.pos h (by omega)
  refine ⟨l, o, c, cl, ro, h1, h2, ?_⟩
  rw [take_cell h4 (by omega), List.getElem?_map, Nat.mul_one, List.getElem?_eq_getElem hi]; rfl
end

theorem app102 : AppT E6.P 102 102 1 8 := ⟨3, _, un_102, sz_3, by_3, zp_3, rfl, by decide, by decide, by rw [un_102]; rfl⟩

/-! ### More operations -/

section
variable {N : Nat} {f : Nat → Value} {s : Sls} {g : Gm} {n nm : Nat} {k : Sls → Gm → List Nat → List Nat → Prop} {d : Tmp} {ty : TypeId} {pos : String} {af : Array Edge} {gd : Option (Nat × Bool)}

/-- byte(i) -/
theorem s_i2b {t u : TypeId} {x : Operand} {a : Int} (ht : E6.P.underlying t = some (.int .i64)) (hu : E6.P.underlying u = some (.int .u8)) (hx : ov N s x = some (.int .i64 a))
    (hk : k ((d, .int .u8 (IntKind.u8.wrap a)) :: s) g [] []) : ST N f s g n nm ⟨some d, .convert t u x, ty, pos, af, gd⟩ k := by
  refine st_val rfl ?_ hk
  have h1 : pureRun E6.P (convert t u (.int .i64 a)) = some (.int .u8 (IntKind.u8.wrap a)) := by
    unfold convert
    rw [pureRun_bind E6.P _ _ (pureRun_underlying ht), pureRun_bind E6.P _ _ (pureRun_underlying hu)]
    rfl
  have h2 : pureVal E6.P (convert t u (.int .i64 a)) = some (Prim.ofVal (.int .u8 (IntKind.u8.wrap a))) := by
    unfold pureVal
    rw [h1]; rfl
  simp only [aop, aConvert, ov_ok hx, Option.bind_some, ht, hu]
  rw [if_pos (show plainV (.int .i64 a) = true from rfl), h2]
  rfl
end

theorem u8_wrap {a : Int} (h0 : 0 ≤ a) (h1 : a < 256) : IntKind.u8.wrap a = (UInt8.ofNat a.toNat).toNat := by
  rw [UInt8.toNat_ofNat']
  simp only [IntKind.wrap, IntKind.bits, IntKind.signed]
  simp
  omega

theorem tmod_lt {a b : Int} (hb : 0 < b) : -b < a.tmod b ∧ a.tmod b < b :=
  ⟨by have := Int.lt_tmod_of_pos a hb; omega, Int.tmod_lt_of_pos a hb⟩
theorem tmod_nn {a b : Int} (ha : 0 ≤ a) (hb : 0 < b) : 0 ≤ a.tmod b ∧ a.tmod b < b := ⟨Int.tmod_nonneg b ha, Int.tmod_lt_of_pos a hb⟩

end Go.Proofs.YtehmailaabjdjaaGreat
