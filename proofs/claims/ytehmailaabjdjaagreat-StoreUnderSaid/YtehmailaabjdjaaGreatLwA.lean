/-
  the laws: what they share: begun, bytes that are made, parts of bytes. No condition.
-/
import Derived.Test.YtehmailaabjdjaaGreatLogs
open Go.Proofs
namespace Go.Proofs.YtehmailaabjdjaaGreat
set_option linter.unusedSimpArgs false
set_option linter.unusedVariables false
set_option maxRecDepth 100000

/-- begun() answers true, and leaves all as it was. -/
def BegunOk : Prop := ∀ (g : Gm) (n : Nat), C 22 #[] g n fun u g' n' => u = .bool true ∧ g' = g

theorem BytesNew.nil (b : Nat) (g : Gm) : BytesNew b g (.slice none 0 0) [] := ⟨SlOwn.nil _ _, fun l h => by cases h⟩
theorem BytesNew.len {b : Nat} {g : Gm} {v : Value} {bs : List UInt8} (h : BytesNew b g v bs) : ∃ a c, v = .slice a bs.length c := by
  obtain ⟨a, c, h, _⟩ := h.1.slc.len; exact ⟨a, c, h⟩
theorem BytesAt.len {g : Gm} {v : Value} {bs : List UInt8} (h : BytesAt g v bs) : ∃ a c, v = .slice a bs.length c := by
  obtain ⟨a, c, h, _⟩ := SlC.len h; exact ⟨a, c, h⟩
theorem BytesNew.other {b : Nat} {g : Gm} {v : Value} {bs : List UInt8} (h : BytesNew b g v bs) {x : Nat} (hx : vname v ≠ some x) (o : AObj) : BytesNew b (gset g x o) v bs := ⟨h.1.other hx o, h.2⟩
/-- A row of bytes of its own. -/
theorem bytes_row {b nm : Nat} {g : Gm} {cl : List Value} {bs : List UInt8} (h : g nm = some (.cells cl 1 false)) (hc : cl = u8c bs) (hb : b ≤ nm) : BytesNew b g (.slice (some ⟨nm, 0, none⟩) bs.length bs.length) bs := by
  subst hc
  refine ⟨⟨by rw [u8c_length]; omega, .inr ⟨nm, 0, bs.length, _, rfl, Nat.le_refl _, h, by rw [u8c_length]; omega, ?_⟩⟩, fun l hl => by cases hl; exact hb⟩
  rw [List.drop_zero, Nat.mul_one, ← u8c_length bs, List.take_length]
/-- Where bytes of one's own lie. -/
theorem BytesNew.pos {b : Nat} {g : Gm} {v : Value} {x : UInt8} {bs : List UInt8} (h : BytesNew b g v (x :: bs)) : ∃ l o c cl, v = .slice (some ⟨l, o, none⟩) (bs.length + 1) c ∧ bs.length + 1 ≤ c ∧ b ≤ l ∧ g l = some (.cells cl 1 false) ∧ o + c ≤ cl.length ∧ cl[o]? = some (.int .u8 x.toNat) ∧
    ∀ y : UInt8, (((splice cl o [.int .u8 y.toNat]).drop o).take (bs.length + 1)) = u8c (y :: bs) := by
  obtain ⟨⟨h1, ⟨_, h2⟩ | ⟨l, o, c, cl, rfl, h3, h4, h5, h6⟩⟩, h7⟩ := h
  · cases h2
  · simp only [List.length_cons, Nat.mul_one] at h3 h5 h6
    refine ⟨l, o, c, cl, rfl, h3, h7 l rfl, h4, h5, ?_, fun y => ?_⟩
    · have := take_cell h6 (show 0 < bs.length + 1 by omega)
      rw [Nat.add_zero] at this
      rw [this]; rfl
    · have := splice_in (cl := cl) (src := [.int .u8 y.toNat]) (o := o) (m := bs.length + 1) (j := 0) (by omega) (by simp)
      simp only [Nat.add_zero] at this
      rw [this, h6]
      simp [splice, u8c]

/-- A row of one event. -/
theorem evs_one {g : Gm} {nm : Nat} {e : Evt} {a : Option Addr} {p : Nat} {c : List Value} {ro : Bool} (h : g nm = some (.cells c 4 ro)) (hc : c = evtC e (.slice a e.val.length p)) (hv : BytesAt g (.slice a e.val.length p) e.val) (hs : e.small) : EvsRd g (.slice (some ⟨nm, 0, none⟩) 1 1) [e] := by
  subst hc
  refine ⟨_, ⟨rfl, .inr (.inr ⟨nm, 0, 1, rfl, Nat.le_refl _, .inr ⟨_, ro, h, Nat.le_refl _, rfl⟩⟩)⟩, Rows.one rfl ⟨a, p, rfl, hv, hs⟩⟩

section
variable {N : Nat} {f : Nat → Value} {s : Sls} {g : Gm} {n nm : Nat} {k : Sls → Gm → List Nat → List Nat → Prop} {d : Tmp} {ty : TypeId} {pos : String} {af : Array Edge} {gd : Option (Nat × Bool)}

/-- append of bytes. -/
theorem s_appB {b : Nat} {x y : Operand} {v w : Value} {xs ys : List UInt8} (hx : ov N s x = some v) (hy : ov N s y = some w) (hv : BytesNew b g v xs) (hw : BytesAt g w ys) (hfit : xs.length + ys.length ≤ 2 ^ 46) (hb : b ≤ nm)
    (h : ∀ a c g' tc wr, BytesNew b g' (.slice a (xs ++ ys).length c) (xs ++ ys) → Gr g g' nm v (.slice a (xs ++ ys).length c) → k ((d, .slice a (xs ++ ys).length c) :: s) g' tc wr) : ST N f s g n nm ⟨some d, .call ⟨.builtin .append, #[x, y], #[26, 26]⟩, ty, pos, af, gd⟩ k := by
  refine s_app app26 hx hy hv.1 (SlC.src hw) (u8c_one _) (by omega) fun a c g' tc wr hr hg => ?_
  have e : (xs ++ ys).length = xs.length + ys.length := List.length_append
  rw [← e] at hr hg ⊢
  refine h a c g' tc wr ⟨by rw [u8c_append]; exact hr, fun l hl => ?_⟩ hg
  rcases hg.name with q | q | q
  · rw [q] at hl; cases hl
  · rw [q] at hl; exact hv.2 l hl
  · rw [q] at hl; cases hl; exact hb

/-- append of bytes to nil. -/
theorem s_appN {b : Nat} {x y : Operand} {w : Value} {ys : List UInt8} (hx : ov N s x = some (.slice none 0 0)) (hy : ov N s y = some w) (hw : BytesAt g w ys) (hfit : ys.length ≤ 2 ^ 46) (hb : b ≤ nm)
    (h : ∀ a c g' tc wr, BytesNew b g' (.slice a ys.length c) ys → Gr g g' nm (.slice none 0 0) (.slice a ys.length c) → k ((d, .slice a ys.length c) :: s) g' tc wr) : ST N f s g n nm ⟨some d, .call ⟨.builtin .append, #[x, y], #[26, 26]⟩, ty, pos, af, gd⟩ k :=
  s_appB (xs := []) hx hy (BytesNew.nil b g) hw (by simpa using hfit) hb h

/-- b[:j] -/
theorem s_hiB {x hi : Operand} {v : Value} {bs : List UInt8} {j : Nat} (hx : ov N s x = some v) (hb : BytesAt g v bs) (hj : ov N s hi = some (.int .i64 (j : Int))) (hjl : j ≤ bs.length)
    (h : ∀ w, BytesAt g w (bs.take j) → k ((d, w) :: s) g [] []) : ST N f s g n nm ⟨some d, .slice 26 x none (some hi) none, ty, pos, af, gd⟩ k := by
  obtain ⟨h1, ⟨rfl, h2⟩ | ⟨rfl, h2⟩ | ⟨l, o, c, rfl, h3, h4⟩⟩ := hb
  · have : bs = [] := List.eq_nil_of_length_eq_zero h2
    subst this
    have : j = 0 := by simpa using hjl
    subst this
    exact s_slh0 un_26 sz_5 hx hj (h _ (SlC.nil _ _))
  · have : bs = [] := List.eq_nil_of_length_eq_zero h2
    subst this
    have : j = 0 := by simpa using hjl
    subst this
    exact s_slhE un_26 sz_5 hx hj (h _ ⟨rfl, .inr (.inl ⟨rfl, rfl⟩)⟩)
  · have hl : (bs.take j).length = j := by rw [List.length_take]; omega
    refine s_slh un_26 sz_5 hx hj (by omega) (h _ ⟨by rw [u8c_length]; omega, .inr (.inr ⟨l, o, c, by rw [hl], by omega, ?_⟩)⟩)
    rw [hl]
    rcases h4 with h4 | ⟨cl, ro, h4, h5, h6⟩
    · left; omega
    · refine .inr ⟨cl, ro, h4, by omega, ?_⟩
      have : ((cl.drop o).take (bs.length * 1)).take (j * 1) = (u8c bs).take (j * 1) := by rw [h6]
      rw [List.take_take, Nat.min_eq_left (by omega)] at this
      rw [this, Nat.mul_one, u8c, u8c, List.map_take]
end

end Go.Proofs.YtehmailaabjdjaaGreat
