/-
  the laws: what they share: begun, bytes that are made, parts of bytes. No condition. / What a call does not see stays; numbers and truths in rows; more operations. No condition. / plain laws of a log: what is kept, what is told. No condition. / the laws of the log: rows of events of one's own that share their bytes; a log among other rows. No condition. / plain laws of a log: whoever asks from where it ended. No condition. / the references' EqEvents, by contract. No condition. / An operation whose guard was itself left out is left out. No condition.
-/
import Derived.Test.YtehmailaabjdjaaGreatLogs
section
open Go.Proofs
namespace Go.Proofs.YtehmailaabjdjaaGreat
set_option linter.unusedSimpArgs false
set_option linter.unusedVariables false
set_option maxRecDepth 100000

/-- begun() answers true, and leaves all as it was. -/
def BegunOk : Prop := ∀ (g : Gm) (n : Nat), C 22 #[] g n fun u g' n' => u = .bool true ∧ g' = g

theorem BytesNew.nil (b : Nat) (g : Gm) : BytesNew b g (.slice none 0 0) [] := ⟨SlOwn.nil _ _, fun l h => by cases h⟩
theorem BytesNew.len {b : Nat} {g : Gm} {v : Value} {bs : List UInt8} (h : BytesNew b g v bs) : ∃ a c, v = .slice a bs.length c := by
  obtain ⟨a, c, h, _⟩ := h.1.slc.len; exact ⟨a, c, h⟩
theorem BytesAt.len {g : Gm} {v : Value} {bs : List UInt8} (h : BytesAt g v bs) : ∃ a c, v = .slice a bs.length c := by
  obtain ⟨a, c, h, _⟩ := SlC.len h; exact ⟨a, c, h⟩
theorem BytesNew.other {b : Nat} {g : Gm} {v : Value} {bs : List UInt8} (h : BytesNew b g v bs) {x : Nat} (hx : vname v ≠ some x) (o : AObj) : BytesNew b (gset g x o) v bs := ⟨h.1.other hx o, h.2⟩
/-- A row of bytes of its own. -/
theorem bytes_row {b nm : Nat} {g : Gm} {cl : List Value} {bs : List UInt8} (h : g nm = some (.cells cl 1 false)) (hc : cl = u8c bs) (hb : b ≤ nm) : BytesNew b g (.slice (some ⟨nm, 0, none⟩) bs.length bs.length) bs := by
  subst hc
  refine ⟨⟨by rw [u8c_length]; omega, .inr ⟨nm, 0, bs.length, _, rfl, Nat.le_refl _, h, by rw [u8c_length]; omega, ?_⟩⟩, fun l hl => by cases hl; exact hb⟩
  rw [List.drop_zero, Nat.mul_one, ← u8c_length bs, List.take_length]
/-- Where bytes of one's own lie. -/
theorem BytesNew.pos {b : Nat} {g : Gm} {v : Value} {x : UInt8} {bs : List UInt8} (h : BytesNew b g v (x :: bs)) : ∃ l o c cl, v = .slice (some ⟨l, o, none⟩) (bs.length + 1) c ∧ bs.length + 1 ≤ c ∧ b ≤ l ∧ g l = some (.cells cl 1 false) ∧ o + c ≤ cl.length ∧ cl[o]? = some (.int .u8 x.toNat) ∧
    ∀ y : UInt8, (((splice cl o [.int .u8 y.toNat]).drop o).take (bs.length + 1)) = u8c (y :: bs) := by
  obtain ⟨⟨h1, ⟨_, h2⟩ | ⟨l, o, c, cl, rfl, h3, h4, h5, h6⟩⟩, h7⟩ := h
  · cases h2
  · simp only [List.length_cons, Nat.mul_one] at h3 h5 h6
    refine ⟨l, o, c, cl, rfl, h3, h7 l rfl, h4, h5, ?_, fun y => ?_⟩
    · have := take_cell h6 (show 0 < bs.length + 1 by omega)
      rw [Nat.add_zero] at this
      rw [this]; rfl
    · have := splice_in (cl := cl) (src := [.int .u8 y.toNat]) (o := o) (m := bs.length + 1) (j := 0) (by omega) (by simp)
      simp only [Nat.add_zero] at this
      rw [this, h6]
      simp [splice, u8c]

/-- A row of one event. -/
theorem evs_one {g : Gm} {nm : Nat} {e : Evt} {a : Option Addr} {p : Nat} {c : List Value} {ro : Bool} (h : g nm = some (.cells c 4 ro)) (hc : c = evtC e (.slice a e.val.length p)) (hv : BytesAt g (.slice a e.val.length p) e.val) (hs : e.small) : EvsRd g (.slice (some ⟨nm, 0, none⟩) 1 1) [e] := by
  subst hc
  refine ⟨_, ⟨rfl, .inr (.inr ⟨nm, 0, 1, rfl, Nat.le_refl _, .inr ⟨_, ro, h, Nat.le_refl _, rfl⟩⟩)⟩, Rows.one rfl ⟨a, p, rfl, hv, hs⟩⟩

section
variable {N : Nat} {f : Nat → Value} {s : Sls} {g : Gm} {n nm : Nat} {k : Sls → Gm → List Nat → List Nat → Prop} {d : Tmp} {ty : TypeId} {pos : String} {af : Array Edge} {gd : Option (Nat × Bool)}

/-- append of bytes. -/
theorem s_appB {b : Nat} {x y : Operand} {v w : Value} {xs ys : List UInt8} (hx : ov N s x = some v) (hy : ov N s y = some w) (hv : BytesNew b g v xs) (hw : BytesAt g w ys) (hfit : xs.length + ys.length ≤ 2 ^ 46) (hb : b ≤ nm)
    (h : ∀ a c g' tc wr, BytesNew b g' (.slice a (xs ++ ys).length c) (xs ++ ys) → Gr g g' nm v (.slice a (xs ++ ys).length c) → k ((d, .slice a (xs ++ ys).length c) :: s) g' tc wr) : ST N f s g n nm ⟨some d, .call ⟨.builtin .append, #[x, y], #[26, 26]⟩, ty, pos, af, gd⟩ k := by
  refine s_app app26 hx hy hv.1 (SlC.src hw) (u8c_one _) (by omega) fun a c g' tc wr hr hg => ?_
  have e : (xs ++ ys).length = xs.length + ys.length := List.length_append
  rw [← e] at hr hg ⊢
  refine h a c g' tc wr ⟨by rw [u8c_append]; exact hr, fun l hl => ?_⟩ hg
  rcases hg.name with q | q | q
  · rw [q] at hl; cases hl
  · rw [q] at hl; exact hv.2 l hl
  · rw [q] at hl; cases hl; exact hb

/-- append of bytes to nil. -/
theorem s_appN {b : Nat} {x y : Operand} {w : Value} {ys : List UInt8} (hx : ov N s x = some (.slice none 0 0)) (hy : ov N s y = some w) (hw : BytesAt g w ys) (hfit : ys.length ≤ 2 ^ 46) (hb : b ≤ nm)
    (h : ∀ a c g' tc wr, BytesNew b g' (.slice a ys.length c) ys → Gr g g' nm (.slice none 0 0) (.slice a ys.length c) → k ((d, .slice a ys.length c) :: s) g' tc wr) : ST N f s g n nm ⟨some d, .call ⟨.builtin .append, #[x, y], #[26, 26]⟩, ty, pos, af, gd⟩ k :=
  s_appB (xs := []) hx hy (BytesNew.nil b g) hw (by simpa using hfit) hb h

/-- b[:j] -/
theorem s_hiB {x hi : Operand} {v : Value} {bs : List UInt8} {j : Nat} (hx : ov N s x = some v) (hb : BytesAt g v bs) (hj : ov N s hi = some (.int .i64 (j : Int))) (hjl : j ≤ bs.length)
    (h : ∀ w, BytesAt g w (bs.take j) → k ((d, w) :: s) g [] []) : ST N f s g n nm ⟨some d, .slice 26 x none (some hi) none, ty, pos, af, gd⟩ k := by
  obtain ⟨h1, ⟨rfl, h2⟩ | ⟨rfl, h2⟩ | ⟨l, o, c, rfl, h3, h4⟩⟩ := hb
  · have : bs = [] := List.eq_nil_of_length_eq_zero h2
    subst this
    have : j = 0 := by simpa using hjl
    subst this
    exact s_slh0 un_26 sz_5 hx hj (h _ (SlC.nil _ _))
  · have : bs = [] := List.eq_nil_of_length_eq_zero h2
    subst this
    have : j = 0 := by simpa using hjl
    subst this
    exact s_slhE un_26 sz_5 hx hj (h _ ⟨rfl, .inr (.inl ⟨rfl, rfl⟩)⟩)
  · have hl : (bs.take j).length = j := by rw [List.length_take]; omega
    refine s_slh un_26 sz_5 hx hj (by omega) (h _ ⟨by rw [u8c_length]; omega, .inr (.inr ⟨l, o, c, by rw [hl], by omega, ?_⟩)⟩)
    rw [hl]
    rcases h4 with h4 | ⟨cl, ro, h4, h5, h6⟩
    · left; omega
    · refine .inr ⟨cl, ro, h4, by omega, ?_⟩
      have : ((cl.drop o).take (bs.length * 1)).take (j * 1) = (u8c bs).take (j * 1) := by rw [h6]
      rw [List.take_take, Nat.min_eq_left (by omega)] at this
      rw [this, Nat.mul_one, u8c, u8c, List.map_take]
end

end Go.Proofs.YtehmailaabjdjaaGreat
end

section
open Go.Proofs
namespace Go.Proofs.YtehmailaabjdjaaGreat
set_option linter.unusedSimpArgs false
set_option linter.unusedVariables false
set_option maxRecDepth 100000

open Classical in
/-- The heap without some names. -/
noncomputable def hid (g : Gm) (p : Nat → Prop) : Gm := fun x => if p x then none else g x

theorem hid_some {g : Gm} {p : Nat → Prop} {x : Nat} {o : AObj} : hid g p x = some o ↔ ¬ p x ∧ g x = some o := by
  unfold hid
  by_cases h : p x <;> simp [h]
theorem hid_off {g : Gm} {p : Nat → Prop} {x : Nat} (h : ¬ p x) : hid g p x = g x := if_neg h
theorem hid_on {g : Gm} {p : Nat → Prop} {x : Nat} (h : p x) : hid g p x = none := if_pos h

/-- FRAME: names that a call is not shown stay as they were. -/
theorem C.frame {f : FuncId} {args : Array Value} {g : Gm} {n : Nat} {p : Nat → Prop} {R : Value → Gm → Nat → Prop} (hp : ∀ x, p x → x < n) (h : C f args (hid g p) n R) :
    C f args g n fun u g' n' => R u (hid g' p) n' ∧ ∀ x, p x → g' x = g x := by
  refine C.wf fun hw => ?_
  have e : (⟨g, n⟩ : Heap) = Heap.over ⟨hid g p, n⟩ ⟨hid g fun x => ¬ p x, n⟩ := by
    unfold Heap.over
    congr 1
    funext x
    by_cases hx : p x
    · simp only [hid_off (g := g) (p := fun x => ¬ p x) (x := x) (fun h => h hx), hid_on hx]
      cases g x <;> rfl
    · simp only [hid_on (g := g) (p := fun x => ¬ p x) (x := x) hx, hid_off hx]
  have hf := frame_over (g := ⟨hid g fun x => ¬ p x, n⟩) (fun l o hl => by
    have := (hid_some (g := g) (p := fun x => ¬ p x) |>.1 hl).1
    exact hid_on (Classical.not_not.1 this)) h.out.strong
  refine ⟨?_⟩
  rw [e]
  refine hf.mono ?_
  rintro v τ ⟨σ', ⟨h1, h2, h3, h4⟩, h5, rfl⟩
  have hgr : ∀ x, p x → (σ'.over ⟨hid g fun x => ¬ p x, n⟩).get x = g x := by
    intro x hx
    cases hg : g x with
    | some o => exact Heap.over_some ((hid_some (g := g) (p := fun x => ¬ p x)).2 ⟨fun h => h hx, hg⟩)
    | none =>
      rw [Heap.over_none ((hid_off (g := g) (p := fun x => ¬ p x) (x := x) (fun h => h hx)).trans hg)]
      exact h4 x (hp x hx) (hid_on hx)
  refine ⟨?_, hgr⟩
  have : hid (σ'.over ⟨hid g fun x => ¬ p x, n⟩).get p = σ'.get := by
    funext x
    by_cases hx : p x
    · rw [hid_on hx]
      exact (h4 x (hp x hx) (hid_on hx)).symm
    · rw [hid_off hx]
      exact Heap.over_none (hid_on (g := g) (p := fun x => ¬ p x) (x := x) hx)
  rw [this]
  exact h1

/-- What the names in p are not, and no rows of bytes. -/
def FP (p : Nat → Prop) (x : Nat) (o : AObj) : Prop := ¬ p x ∧ nb o
theorem FP.nob (p : Nat → Prop) : NoB (FP p) := fun x cl ro h => h.2 rfl

theorem Kp.unhid {F : Nat → AObj → Prop} {g g' : Gm} {n : Nat} {p : Nat → Prop} (h : Kp F (hid g p) n (hid g' p)) (hF : ∀ x o, F x o → nb o) (hp : ∀ x, p x → g' x = g x) : Kp (FP p) g n g' := by
  intro x o hx ho hf
  by_cases e : p x
  · rw [hp x e]; exact ho
  · have := h x o hx (hid_some.2 ⟨e, ho⟩) fun k => hf ⟨e, hF x o k⟩
    exact (hid_some.1 this).2

theorem WF.unhid {g : Gm} {n : Nat} {p : Nat → Prop} (h : WF g n) : WF (hid g p) n := fun l o hl => h l o (hid_some.1 hl).2

/-- Where the names left out are others than those of before, and what was seen is. -/
theorem K0.unhid {g g' : Gm} {n : Nat} {p p' : Nat → Prop} (h : ∀ x o, x < n → ¬ p x → g x = some o → ¬ p' x ∧ g' x = some o) : K0 (hid g p) n (hid g' p') :=
  fun x o hx ho _ => hid_some.2 (h x o hx (hid_some.1 ho).1 (hid_some.1 ho).2)

/-! ### Rows of numbers, of truths -/

section
variable {F : Nat → AObj → Prop} {g g' : Gm} {n : Nat}

theorem SlC.kpN {m : Nat} {v : Value} {cs : List Value} (h : SlC g 1 v m cs) (hk : Kp F g n g') (hw : WF g n) (hF : NoB F) : SlC g' 1 v m cs := by
  obtain ⟨h1, h2 | h2 | ⟨l, o, c, h2, h3, h4 | ⟨cl, ro, h4, h5, h6⟩⟩⟩ := h
  · exact ⟨h1, .inl h2⟩
  · exact ⟨h1, .inr (.inl h2)⟩
  · exact ⟨h1, .inr (.inr ⟨l, o, c, h2, h3, .inl h4⟩)⟩
  · exact ⟨h1, .inr (.inr ⟨l, o, c, h2, h3, .inr ⟨cl, ro, hk.at hw h4 (hF l _ _), h5, h6⟩⟩)⟩
theorem SlOwn.kpN {m : Nat} {v : Value} {cs : List Value} (h : SlOwn g 1 v m cs) (hk : Kp F g n g') (hw : WF g n) (hF : NoB F) : SlOwn g' 1 v m cs := by
  obtain ⟨h1, h2 | ⟨l, o, c, cl, h2, h3, h4, h5, h6⟩⟩ := h
  · exact ⟨h1, .inl h2⟩
  · exact ⟨h1, .inr ⟨l, o, c, cl, h2, h3, hk.at hw h4 (hF l _ _), h5, h6⟩⟩

def IntsAt (g : Gm) (v : Value) (xs : List Int) : Prop := SlC g 1 v xs.length (xs.map (.int .i64))
def BoolsAt (g : Gm) (v : Value) (xs : List Bool) : Prop := SlC g 1 v xs.length (xs.map .bool)
theorem IntsAt.kp {v : Value} {xs : List Int} (h : IntsAt g v xs) (hk : Kp F g n g') (hw : WF g n) (hF : NoB F) : IntsAt g' v xs := SlC.kpN h hk hw hF
theorem IntsAt.kp0 {v : Value} {xs : List Int} (h : IntsAt g v xs) (hk : K0 g n g') (hw : WF g n) : IntsAt g' v xs := SlC.kpN h hk hw NoB.z
theorem BoolsAt.kp {v : Value} {xs : List Bool} (h : BoolsAt g v xs) (hk : Kp F g n g') (hw : WF g n) (hF : NoB F) : BoolsAt g' v xs := SlC.kpN h hk hw hF
theorem BoolsAt.kp0 {v : Value} {xs : List Bool} (h : BoolsAt g v xs) (hk : K0 g n g') (hw : WF g n) : BoolsAt g' v xs := SlC.kpN h hk hw NoB.z
theorem IntsAt.len {v : Value} {xs : List Int} (h : IntsAt g v xs) : ∃ a c, v = .slice a xs.length c := by
  obtain ⟨a, c, h, _⟩ := SlC.len h; exact ⟨a, c, h⟩
theorem BoolsAt.len {v : Value} {xs : List Bool} (h : BoolsAt g v xs) : ∃ a c, v = .slice a xs.length c := by
  obtain ⟨a, c, h, _⟩ := SlC.len h; exact ⟨a, c, h⟩
theorem IntsAt.at {v : Value} {xs : List Int} {i : Nat} (h : IntsAt g v xs) (hi : i < xs.length) : ∃ l o c cl ro, v = .slice (some ⟨l, o, none⟩) xs.length c ∧ g l = some (.cells cl 1 ro) ∧ cl[o + i * 1]? = some (.int .i64 xs[i]) := by
  obtain ⟨l, o, c, cl, ro, h1, _, h2, h3, h4⟩ := SlC.pos h (by omega)
  refine ⟨l, o, c, cl, ro, h1, h2, ?_⟩
  rw [take_cell h4 (by omega), List.getElem?_map, Nat.mul_one, List.getElem?_eq_getElem hi]; rfl
theorem BoolsAt.at {v : Value} {xs : List Bool} {i : Nat} (h : BoolsAt g v xs) (hi : i < xs.length) : ∃ l o c cl ro, v = .slice (some ⟨l, o, none⟩) xs.length c ∧ g l = some (.cells cl 1 ro) ∧ cl[o + i * 1]? = some (.bool xs[i]) := by
  obtain ⟨l, o, c, cl, ro, h1, _, h2, h3, h4⟩ := SlC.pos h (by omega)
  refine ⟨l, o, c, cl, ro, h1, h2, ?_⟩
  rw [take_cell h4 (by omega), List.getElem?_map, Nat.mul_one, List.getElem?_eq_getElem hi]; rfl
end

theorem app102 : AppT E6.P 102 102 1 8 := ⟨3, _, un_102, sz_3, by_3, zp_3, rfl, by decide, by decide, by rw [un_102]; rfl⟩

/-! ### More operations -/

section
variable {N : Nat} {f : Nat → Value} {s : Sls} {g : Gm} {n nm : Nat} {k : Sls → Gm → List Nat → List Nat → Prop} {d : Tmp} {ty : TypeId} {pos : String} {af : Array Edge} {gd : Option (Nat × Bool)}

/-- byte(i) -/
theorem s_i2b {t u : TypeId} {x : Operand} {a : Int} (ht : E6.P.underlying t = some (.int .i64)) (hu : E6.P.underlying u = some (.int .u8)) (hx : ov N s x = some (.int .i64 a))
    (hk : k ((d, .int .u8 (IntKind.u8.wrap a)) :: s) g [] []) : ST N f s g n nm ⟨some d, .convert t u x, ty, pos, af, gd⟩ k := by
  refine st_val rfl ?_ hk
  have h1 : pureRun E6.P (convert t u (.int .i64 a)) = some (.int .u8 (IntKind.u8.wrap a)) := by
    unfold convert
    rw [pureRun_bind E6.P _ _ (pureRun_underlying ht), pureRun_bind E6.P _ _ (pureRun_underlying hu)]
    rfl
  have h2 : pureVal E6.P (convert t u (.int .i64 a)) = some (Prim.ofVal (.int .u8 (IntKind.u8.wrap a))) := by
    unfold pureVal
    rw [h1]; rfl
  simp only [aop, aConvert, ov_ok hx, Option.bind_some, ht, hu]
  rw [if_pos (show plainV (.int .i64 a) = true from rfl), h2]
  rfl
end

theorem u8_wrap {a : Int} (h0 : 0 ≤ a) (h1 : a < 256) : IntKind.u8.wrap a = (UInt8.ofNat a.toNat).toNat := by
  rw [UInt8.toNat_ofNat']
  simp only [IntKind.wrap, IntKind.bits, IntKind.signed]
  simp
  omega

theorem tmod_lt {a b : Int} (hb : 0 < b) : -b < a.tmod b ∧ a.tmod b < b :=
  ⟨by have := Int.lt_tmod_of_pos a hb; omega, Int.tmod_lt_of_pos a hb⟩
theorem tmod_nn {a b : Int} (ha : 0 ≤ a) (hb : 0 < b) : 0 ≤ a.tmod b ∧ a.tmod b < b := ⟨Int.tmod_nonneg b ha, Int.tmod_lt_of_pos a hb⟩

end Go.Proofs.YtehmailaabjdjaaGreat
end

section
open Go.Proofs
namespace Go.Proofs.YtehmailaabjdjaaGreat
set_option linter.unusedSimpArgs false
set_option linter.unusedVariables false

theorem lastRev_const {r : Int} {es : List Evt} (hne : es ≠ []) (h : ∀ e ∈ es, e.rev = r) : lastRev es = r := by
  have h0 : 0 < es.length := List.length_pos_iff.2 hne
  rw [lastRev_eq h0]
  exact h _ (List.getElem_mem _)

theorem sorted_const {r : Int} {es : List Evt} (h : ∀ e ∈ es, e.rev = r) : SortedE es := fun i hi => by
  rw [h _ (List.getElem_mem _), h _ (List.getElem_mem _)]; exact Int.le_refl _

/-! ### LogKeeps -/

/-- The events of one revision. -/
def batch (r : Int) (m : Nat) : List Evt := (List.range m).map fun k => ⟨r, [UInt8.ofNat (97 + k)], [], false⟩
/-- The events of the revisions behind j, by their numbers. -/
def evsB : Nat → List Nat → List Evt
  | _, [] => []
  | j, c :: r => batch (j + 1 : Nat) c ++ evsB (j + 1) r

theorem batch_len (r : Int) (m : Nat) : (batch r m).length = m := by simp [batch]
theorem batch_rev {r : Int} {m : Nat} : ∀ e ∈ batch r m, e.rev = r := by
  intro e he
  simp only [batch, List.mem_map] at he
  obtain ⟨k, _, rfl⟩ := he
  rfl
theorem batch_succ (r : Int) (m : Nat) : batch r (m + 1) = batch r m ++ [⟨r, [UInt8.ofNat (97 + m)], [], false⟩] := by
  simp [batch, List.range_succ]
theorem evsB_gt : ∀ {cs : List Nat} {j : Nat}, ∀ e ∈ evsB j cs, (j : Int) < e.rev
  | [], j, e, he => by simp [evsB] at he
  | c :: r, j, e, he => by
    simp only [evsB, List.mem_append] at he
    rcases he with he | he
    · have := batch_rev e he; omega
    · have := evsB_gt e he; omega
theorem evsB_len : ∀ (cs : List Nat) (j : Nat), (evsB j cs).length = cs.sum
  | [], j => rfl
  | c :: r, j => by simp only [evsB, List.length_append, batch_len, evsB_len r, List.sum_cons]
theorem evsB_snoc : ∀ (cs : List Nat) (j c : Nat), evsB j (cs ++ [c]) = evsB j cs ++ batch ((j + cs.length + 1 : Nat) : Int) c
  | [], j, c => by simp [evsB]
  | a :: r, j, c => by
    simp only [List.cons_append, evsB, evsB_snoc r, List.length_cons]
    rw [List.append_assoc, show j + 1 + r.length + 1 = j + (r.length + 1) + 1 by omega]
theorem cut_B {j c : Nat} {r : List Nat} : (evsB j (c :: r)).filter (fun e => decide (((j + 1 : Nat) : Int) < e.rev)) = evsB (j + 1) r := by
  simp only [evsB, List.filter_append]
  have h1 : (batch ((j + 1 : Nat) : Int) c).filter (fun e => decide (((j + 1 : Nat) : Int) < e.rev)) = [] := by
    rw [List.filter_eq_nil_iff]
    intro e he
    have := batch_rev e he
    simp; omega
  have h2 : (evsB (j + 1) r).filter (fun e => decide (((j + 1 : Nat) : Int) < e.rev)) = evsB (j + 1) r := by
    rw [List.filter_eq_self]
    intro e he
    have := evsB_gt e he
    simp; omega
  rw [h1, h2, List.nil_append]

theorem trim_B {most : Int} (hm : 0 ≤ most) : ∀ (cs : List Nat) (j k : Nat), (∀ c ∈ cs, 0 < c) → cs.sum ≤ k → ∀ last : Int, last = ((j + cs.length : Nat) : Int) →
    ∃ d, d ≤ cs.length ∧ Log.trim k ⟨evsB j cs, most, (j : Int), last⟩ = ⟨evsB (j + d) (cs.drop d), most, ((j + d : Nat) : Int), last⟩ ∧ (((cs.drop d).sum : Nat) : Int) ≤ most ∧ (d = 0 ∨ most < (((cs.drop (d - 1)).sum : Nat) : Int))
  | [], j, k, hc, hk, last, hl => ⟨0, Nat.le_refl _, Log.trim_done (by show ¬ most < ((0 : Nat) : Int); omega), by simpa using hm, .inl rfl⟩
  | c :: r, j, k, hc, hk, last, hl => by
    have hc0 := hc c (List.mem_cons_self ..)
    simp only [List.sum_cons, List.length_cons] at hk hl
    by_cases h : most < (((c :: r).sum : Nat) : Int)
    · simp only [List.sum_cons] at h
      obtain ⟨k', rfl⟩ : ∃ k', k = k' + 1 := ⟨k - 1, by omega⟩
      obtain ⟨c', rfl⟩ : ∃ c', c = c' + 1 := ⟨c - 1, by omega⟩
      obtain ⟨d, h1, h2, h3, h4⟩ := trim_B hm r (j + 1) k' (fun x hx => hc x (List.mem_cons_of_mem _ hx)) (by omega) last (by omega)
      refine ⟨d + 1, by simp; omega, ?_, by simpa using h3, .inr ?_⟩
      · obtain ⟨e, es, he, hr⟩ : ∃ e es, evsB j ((c' + 1) :: r) = e :: es ∧ e.rev = ((j + 1 : Nat) : Int) := by
          simp only [evsB, batch, List.range_succ_eq_map, List.map_cons, List.cons_append]
          exact ⟨_, _, rfl, rfl⟩
        have hlt : most < ((evsB j ((c' + 1) :: r)).length : Int) := by rw [evsB_len, List.sum_cons]; exact h
        have : Log.trim (k' + 1) ⟨evsB j ((c' + 1) :: r), most, (j : Int), last⟩ = Log.trim k' (Log.cut ⟨evsB j ((c' + 1) :: r), most, (j : Int), last⟩ e.rev) := by
          simp only [Log.trim]
          rw [if_pos hlt]
          simp only [he]
        rw [this]
        simp only [Log.cut]
        rw [hr, cut_B, show max (j : Int) (min ((j + 1 : Nat) : Int) last) = ((j + 1 : Nat) : Int) by omega, h2]
        rw [show j + 1 + d = j + (d + 1) by omega, List.drop_succ_cons]
      · rcases h4 with rfl | h4
        · simpa using h
        · obtain ⟨d', rfl⟩ | rfl : (∃ d', d = d' + 1) ∨ d = 0 := by
            rcases d with _ | d
            · exact .inr rfl
            · exact .inl ⟨d, rfl⟩
          · simpa using h4
          · simpa using h
    · refine ⟨0, Nat.zero_le _, Log.trim_done ?_, by simpa using h, .inl rfl⟩
      simp only [evsB_len]
      exact h

/-- From which revision on is kept. -/
structure KFr (most : Int) (ns : List Nat) (f : Nat) : Prop where
  le : f ≤ ns.length
  fit : (((ns.drop f).sum : Nat) : Int) ≤ most
  all : f = 0 ∨ most < (((ns.drop (f - 1)).sum : Nat) : Int)

theorem sum_drop {ns : List Nat} {a b : Nat} (h : a ≤ b) : (ns.drop b).sum ≤ (ns.drop a).sum := by
  obtain ⟨d, rfl⟩ := Nat.le.dest h
  have : ∀ (d : Nat) (l : List Nat), (l.drop d).sum ≤ l.sum := by
    intro d
    induction d with
    | zero => intro l; simp
    | succ d ih =>
      intro l
      cases l with
      | nil => simp
      | cons x r => have := ih r; simp only [List.drop_succ_cons, List.sum_cons]; omega
  rw [← List.drop_drop]
  exact this _ _

theorem KFr.eq {most : Int} {ns : List Nat} {a b : Nat} (h : KFr most ns a) (k : KFr most ns b) : a = b := by
  have key : ∀ {x y : Nat}, KFr most ns x → KFr most ns y → ¬ x < y := by
    intro x y hx hy hlt
    rcases hy.all with e | e
    · omega
    · have := sum_drop (ns := ns) (show x ≤ y - 1 by omega)
      have := hx.fit
      omega
  have h1 := key h k
  have h2 := key k h
  omega

def keepsL (most : Int) (ns : List Nat) (f : Nat) : Log := ⟨evsB f (ns.drop f), most, (f : Int), (ns.length : Int)⟩

theorem keeps_may {most : Int} {ns : List Nat} {f c : Nat} (hc : 0 < c) : (keepsL most ns f).may (batch ((ns.length + 1 : Nat) : Int) c) := by
  obtain ⟨c', rfl⟩ : ∃ c', c = c' + 1 := ⟨c - 1, by omega⟩
  refine ⟨?_, sorted_const batch_rev⟩
  simp only [batch, List.range_succ_eq_map, List.map_cons]
  exact ⟨_, _, rfl, by show (ns.length : Int) < ((ns.length + 1 : Nat) : Int); omega⟩

theorem keeps_add {most : Int} {ns : List Nat} {f c : Nat} (hm : 0 ≤ most) (h : KFr most ns f) (hp : ∀ x ∈ ns, 0 < x) (hc : 0 < c) :
    ∃ f', KFr most (ns ++ [c]) f' ∧ (keepsL most ns f).add (batch ((ns.length + 1 : Nat) : Int) c) = keepsL most (ns ++ [c]) f' := by
  have hle := h.le
  have e1 : evsB f (ns.drop f) ++ batch ((ns.length + 1 : Nat) : Int) c = evsB f ((ns ++ [c]).drop f) := by
    rw [List.drop_append_of_le_length hle, evsB_snoc, List.length_drop]
    rw [show f + (ns.length - f) + 1 = ns.length + 1 by omega]
  have hlen : ((ns ++ [c]).drop f).length = ns.length + 1 - f := by simp
  obtain ⟨d, h1, h2, h3, h4⟩ := trim_B hm ((ns ++ [c]).drop f) f ((keepsL most ns f).evs.length + (batch ((ns.length + 1 : Nat) : Int) c).length) (fun x hx => by
      have := List.mem_of_mem_drop hx
      rcases List.mem_append.1 this with hx | hx
      · exact hp x hx
      · simp at hx; omega) (by
      simp only [keepsL, evsB_len, batch_len]
      rw [List.drop_append_of_le_length hle]; simp) ((ns.length + 1 : Nat) : Int) (by rw [hlen]; omega)
  refine ⟨f + d, ⟨by simp at h1 ⊢; omega, by rw [← List.drop_drop]; exact h3, ?_⟩, ?_⟩
  · rcases h4 with rfl | h4
    · rcases h.all with e | e
      · left; omega
      · right
        have hb : (ns.drop (f - 1)).sum ≤ ((ns ++ [c]).drop (f - 1)).sum := by
          rw [List.drop_append_of_le_length (by omega)]; simp
        simp only [Nat.add_zero]
        omega
    · by_cases hd : d = 0
      · subst hd
        rcases h.all with e | e
        · left; omega
        · right
          have hb : (ns.drop (f - 1)).sum ≤ ((ns ++ [c]).drop (f - 1)).sum := by
            rw [List.drop_append_of_le_length (by omega)]; simp
          simp only [Nat.add_zero]
          omega
      · right
        rw [List.drop_drop] at h4
        rw [show f + d - 1 = f + (d - 1) by omega]
        exact h4
  · have hb : batch ((ns.length + 1 : Nat) : Int) c ≠ [] := fun e => by
      have := batch_len ((ns.length + 1 : Nat) : Int) c
      rw [e] at this; simp at this; omega
    simp only [Log.add, Log.put, keepsL] at h2 ⊢
    rw [lastRev_const hb batch_rev, e1, h2, List.drop_drop]
    simp

theorem keeps_from {most : Int} {ns : List Nat} {f : Nat} (h : KFr most ns f) : (keepsL most ns f).from_ (f : Int) = (evsB f (ns.drop f), 0) := by
  have := h.le
  rw [Log.from_, if_neg (show ¬ (f : Int) < (keepsL most ns f).base from by show ¬ (f : Int) < (f : Int); omega), if_neg (show ¬ (keepsL most ns f).last < (f : Int) from by show ¬ (ns.length : Int) < (f : Int); omega)]
  congr 1
  show (evsB f (ns.drop f)).filter _ = _
  rw [List.filter_eq_self]
  intro e he
  have := evsB_gt e he
  simpa using this
theorem keeps_before {most : Int} {ns : List Nat} {f : Nat} : (keepsL most ns f).from_ ((f : Int) - 1) = ([], 7) := by
  rw [Log.from_, if_pos (show (f : Int) - 1 < (keepsL most ns f).base from by show (f : Int) - 1 < (f : Int); omega)]

end Go.Proofs.YtehmailaabjdjaaGreat
end

section
open Go.Proofs
namespace Go.Proofs.YtehmailaabjdjaaGreat
set_option linter.unusedSimpArgs false
set_option linter.unusedVariables false
set_option maxRecDepth 100000

/-- A row of events of one's own; their bytes may lie anywhere. -/
def EvsW (g : Gm) (v : Value) (es : List Evt) : Prop := ∃ cs, SlOwn g 4 v es.length cs ∧ Rows 4 (EvC (BytesAt g)) cs es

theorem EvsW.nil (g : Gm) : EvsW g (.slice none 0 0) [] := ⟨[], SlOwn.nil _ _, rfl⟩
theorem EvsW.rd {g : Gm} {v : Value} {es : List Evt} (h : EvsW g v es) : EvsRd g v es := by
  obtain ⟨cs, h1, h2⟩ := h; exact ⟨cs, h1.slc, h2⟩
theorem EvsW.len {g : Gm} {v : Value} {es : List Evt} (h : EvsW g v es) : ∃ a c, v = .slice a es.length c := h.rd.len
theorem EvsW.kp {F : Nat → AObj → Prop} {g g' : Gm} {n : Nat} {v : Value} {es : List Evt} (h : EvsW g v es) (hk : Kp F g n g') (hw : WF g n) (hF : NoB F) (hv : Off F g v) : EvsW g' v es := by
  obtain ⟨cs, h1, h2⟩ := h
  exact ⟨cs, h1.kp hk hw hv, h2.mono fun c x _ hx => hx.mono fun _ _ k => k.kp hk hw hF⟩
theorem EvsW.kp0 {g g' : Gm} {n : Nat} {v : Value} {es : List Evt} (h : EvsW g v es) (hk : K0 g n g') (hw : WF g n) : EvsW g' v es := h.kp hk hw NoB.z (Off.z g v)
theorem EvsW.lt {g : Gm} {n : Nat} {v : Value} {es : List Evt} (h : EvsW g v es) (hw : WF g n) {x : Nat} (hx : vname v = some x) : x < n := by
  obtain ⟨cs, ⟨_, ⟨rfl, _⟩ | ⟨l', o, c, cl, rfl, _, h4, _⟩⟩, _⟩ := h
  · cases hx
  · simp only [vname, Option.some.injEq] at hx
    subst hx
    exact hw _ _ h4
theorem EvsW.nbo {g : Gm} {v : Value} {es : List Evt} (h : EvsW g v es) {x : Nat} (hx : vname v = some x) {o : AObj} (ho : g x = some o) : nb o := by
  obtain ⟨cs, ⟨_, ⟨rfl, _⟩ | ⟨l', o, c, cl, rfl, _, h4, _⟩⟩, _⟩ := h
  · cases hx
  · simp only [vname, Option.some.injEq] at hx
    subst hx
    rw [h4] at ho; cases ho
    show (4 : Nat) ≠ 1
    decide

/-- What was appended to. -/
theorem EvsW.app {F : Nat → AObj → Prop} {n1 : Nat} {g1 g' : Gm} {xs ys : List Evt} {cs ds : List Value} {w' : Value} (hR : Rows 4 (EvC (BytesAt g1)) cs xs) (hw1 : WF g1 n1) (hF : Kp F g1 n1 g') (hFb : NoB F)
    (hS : Rows 4 (EvC (BytesAt g')) ds ys) (hrow : SlOwn g' 4 w' (xs.length + ys.length) (cs ++ ds)) : EvsW g' w' (xs ++ ys) :=
  ⟨cs ++ ds, by rw [List.length_append]; exact hrow, Rows.append (hR.mono fun c x _ hx => hx.mono fun _ _ k => k.kp hF hw1 hFb) hS⟩

/-- A log that is shown by itself: of names ahead of it nothing goes. -/
theorem Kp.logHid {g g' : Gm} {n q l : Nat} {sl : Value} {p : Nat → Prop} (h : Kp (FL l sl) (hid g p) n (hid g' p)) (hp : ∀ x, p x → g' x = g x) (hl : q ≤ l) (hs : ∀ x, vname sl = some x → q ≤ x) (hq : q ≤ n) : K0 g q g' := by
  intro x o hx ho _
  by_cases e : p x
  · rw [hp x e]; exact ho
  · exact (hid_some.1 (h x o (by omega) (hid_some.2 ⟨e, ho⟩) fun k => by
      rcases k.1 with k | k
      · omega
      · have := hs x k; omega)).2

/-- The same of all that is no row of bytes and was not hidden. -/
theorem Kp.logFP {g g' : Gm} {n l : Nat} {sl : Value} {p : Nat → Prop} (h : Kp (FL l sl) (hid g p) n (hid g' p)) (hp : ∀ x, p x → g' x = g x) : Kp (FP p) g n g' := h.unhid (fun x o k => k.2) hp

/-- A name of its own among the rows that are hidden. -/
def vIs (v : Value) (x : Nat) : Prop := vname v = some x

theorem SlOwn.lt {g : Gm} {n k m : Nat} {v : Value} {cs : List Value} (h : SlOwn g k v m cs) (hw : WF g n) {x : Nat} (hx : vname v = some x) : x < n := by
  obtain ⟨_, ⟨rfl, _⟩ | ⟨l', o, c, cl, rfl, _, h4, _⟩⟩ := h
  · cases hx
  · simp only [vname, Option.some.injEq] at hx
    subst hx
    exact hw _ _ h4

theorem SlOwn.same {g g' : Gm} {k m : Nat} {v : Value} {cs : List Value} (h : SlOwn g k v m cs) (he : ∀ x, vname v = some x → g' x = g x) : SlOwn g' k v m cs := by
  obtain ⟨h1, h2 | ⟨l, o, c, cl, h2, h3, h4, h5, h6⟩⟩ := h
  · exact ⟨h1, .inl h2⟩
  · exact ⟨h1, .inr ⟨l, o, c, cl, h2, h3, (he l (by rw [h2]; rfl)).trans h4, h5, h6⟩⟩

theorem SlC.at1 {g : Gm} {v : Value} {m i : Nat} {cs : List Value} {w : Value} (h : SlC g 1 v m cs) (hi : i < m) (hw : cs[i]? = some w) : ∃ l o c cl ro, v = .slice (some ⟨l, o, none⟩) m c ∧ g l = some (.cells cl 1 ro) ∧ cl[o + i * 1]? = some w := by
  obtain ⟨l, o, c, cl, ro, h1, _, h2, h3, h4⟩ := SlC.pos h (by omega)
  refine ⟨l, o, c, cl, ro, h1, h2, ?_⟩
  rw [take_cell h4 (by omega), Nat.mul_one]; exact hw

/-- Where nothing that was shown went nothing went. -/
theorem Kp.show0 {g g' : Gm} {n q : Nat} {p : Nat → Prop} (h : K0 (hid g p) n (hid g' p)) (hp : ∀ x, p x → g' x = g x) (hq : q ≤ n) : K0 g q g' := by
  intro x o hx ho _
  by_cases e : p x
  · rw [hp x e]; exact ho
  · exact (hid_some.1 (h x o (by omega) (hid_some.2 ⟨e, ho⟩) id)).2

theorem u8c_one1 (k : Nat) (hk : k < 100) : ([.int .u8 (IntKind.u8.wrap (97 + (k : Int)))] : List Value) = u8c [UInt8.ofNat (97 + k)] := by
  rw [u8_wrap (by omega) (by omega), show ((97 : Int) + (k : Int)).toNat = 97 + k by omega]
  rfl

end Go.Proofs.YtehmailaabjdjaaGreat
end

section
open Go.Proofs
namespace Go.Proofs.YtehmailaabjdjaaGreat
set_option linter.unusedSimpArgs false
set_option linter.unusedVariables false

def after (r : Int) (es : List Evt) : List Evt := es.filter fun e => decide (r < e.rev)
def upTo (r : Int) (es : List Evt) : List Evt := es.filter fun e => decide (e.rev ≤ r)
def Asc (es : List Evt) : Prop := es.Pairwise fun a b => a.rev ≤ b.rev

theorem after_after {a b : Int} (es : List Evt) (h : a ≤ b) : after b (after a es) = after b es := by
  unfold after
  rw [List.filter_filter]
  refine List.filter_congr fun e _ => ?_
  by_cases h1 : b < e.rev
  · have : a < e.rev := by omega
    simp [h1, this]
  · simp [h1]
theorem split_asc : ∀ {es : List Evt} {r : Int}, Asc es → upTo r es ++ after r es = es
  | [], r, _ => rfl
  | e :: es, r, h => by
    have h' := List.pairwise_cons.1 h
    by_cases he : e.rev ≤ r
    · have : upTo r (e :: es) = e :: upTo r es := List.filter_cons_of_pos (by simpa using he)
      have h2 : after r (e :: es) = after r es := List.filter_cons_of_neg (by simp; omega)
      rw [this, h2, List.cons_append, split_asc h'.2]
    · have h1 : upTo r (e :: es) = [] := by
        unfold upTo
        rw [List.filter_eq_nil_iff]
        intro x hx
        rcases List.mem_cons.1 hx with rfl | hx
        · simp; omega
        · have := h'.1 x hx; simp; omega
      have h2 : after r (e :: es) = e :: es := by
        unfold after
        rw [List.filter_eq_self]
        intro x hx
        rcases List.mem_cons.1 hx with rfl | hx
        · simp; omega
        · have := h'.1 x hx; simp; omega
      rw [h1, h2, List.nil_append]
theorem upTo_all {es : List Evt} {r : Int} (h : ∀ e ∈ es, e.rev ≤ r) : upTo r es = es := by
  unfold upTo
  rw [List.filter_eq_self]
  intro e he
  simpa using h e he
theorem upTo_none {es : List Evt} {r : Int} (h : ∀ e ∈ es, r < e.rev) : upTo r es = [] := by
  unfold upTo
  rw [List.filter_eq_nil_iff]
  intro e he
  have := h e he
  simp; omega
theorem after_all {es : List Evt} {r : Int} (h : ∀ e ∈ es, r < e.rev) : after r es = es := by
  unfold after
  rw [List.filter_eq_self]
  intro e he
  simpa using h e he

/-- A log that holds what came behind its base. -/
structure LogI (L : Log) (all : List Evt) : Prop where
  evs : L.evs = after L.base all
  asc : Asc all
  top : ∀ e ∈ all, e.rev ≤ L.last
  base : 0 ≤ L.base ∧ L.base ≤ L.last

theorem LogI.cut {L : Log} {all : List Evt} {r : Int} (h : LogI L all) (h1 : L.base ≤ r) (h2 : r ≤ L.last) : LogI (L.cut r) all := by
  have hb := h.base
  have e : max L.base (min r L.last) = r := by omega
  refine ⟨?_, h.asc, h.top, ?_⟩
  · show L.evs.filter _ = after (max L.base (min r L.last)) all
    rw [e, h.evs, ← after_after all h1]
    rfl
  · show 0 ≤ max L.base (min r L.last) ∧ max L.base (min r L.last) ≤ L.last
    omega

theorem LogI.trim {all : List Evt} : ∀ {k : Nat} {L : Log}, LogI L all → LogI (Log.trim k L) all ∧ (Log.trim k L).last = L.last ∧ (Log.trim k L).most = L.most
  | 0, L, h => ⟨h, rfl, rfl⟩
  | k + 1, L, h => by
    unfold Log.trim
    split
    · split
      · exact ⟨h, rfl, rfl⟩
      · rename_i e r he
        have hm : e ∈ after L.base all := by rw [← h.evs, he]; exact List.mem_cons_self ..
        have h1 := (List.mem_filter.1 hm)
        have h2 : L.base < e.rev := by simpa using h1.2
        obtain ⟨a, b, c⟩ := LogI.trim (k := k) (h.cut (by omega) (h.top e h1.1))
        exact ⟨a, b, c⟩
    · exact ⟨h, rfl, rfl⟩

theorem LogI.add {L : Log} {all es : List Evt} {r : Int} (h : LogI L all) (hne : es ≠ []) (hr : ∀ e ∈ es, e.rev = r) (hl : L.last < r) : LogI (L.add es) (all ++ es) ∧ (L.add es).last = r ∧ (L.add es).most = L.most := by
  have hlast : (L.put es).last = r := lastRev_const hne hr
  have hp : LogI (L.put es) (all ++ es) := by
    have hb := h.base
    refine ⟨?_, ?_, ?_, ?_⟩
    · show L.evs ++ es = after L.base (all ++ es)
      unfold after
      rw [List.filter_append, h.evs]
      congr 1
      exact (after_all fun e he => by rw [hr e he]; omega).symm
    · refine List.pairwise_append.2 ⟨h.asc, ?_, fun a ha b hb => ?_⟩
      · exact List.pairwise_of_forall_mem_list fun a ha b hb => by rw [hr a ha, hr b hb]; exact Int.le_refl _
      · have := h.top a ha
        rw [hr b hb]; omega
    · intro e he
      rw [hlast]
      rcases List.mem_append.1 he with he | he
      · have := h.top e he; omega
      · rw [hr e he]; exact Int.le_refl _
    · rw [hlast]
      show 0 ≤ L.base ∧ L.base ≤ r
      omega
  obtain ⟨a, b, c⟩ := hp.trim (k := L.evs.length + es.length)
  exact ⟨a, b.trans hlast, c⟩

theorem LogI.from_ {L : Log} {all : List Evt} {r : Int} (h : LogI L all) (hl : r ≤ L.last) : L.from_ r = if r < L.base then ([], 7) else (after r all, 0) := by
  unfold Log.from_
  split
  · rfl
  · rw [if_neg (by omega), h.evs]
    congr 1
    exact after_after all (by omega)

theorem LogI.len {L : Log} {all : List Evt} (h : LogI L all) : L.evs.length ≤ all.length := by
  rw [h.evs]; exact List.length_filter_le _ _

theorem may_const {L : Log} {es : List Evt} {r : Int} (hne : es ≠ []) (hr : ∀ e ∈ es, e.rev = r) (hl : L.last < r) : L.may es := by
  cases es with
  | nil => exact absurd rfl hne
  | cons e es => exact ⟨⟨e, es, rfl, by rw [hr e (List.mem_cons_self ..)]; exact hl⟩, sorted_const hr⟩

/-- Events of one revision, each of one byte. -/
def bat (r : Int) (b : UInt8) (m : Nat) : List Evt := (List.range m).map fun k => ⟨r, [UInt8.ofNat (97 + k)], [b], false⟩
theorem bat_len (r : Int) (b : UInt8) (m : Nat) : (bat r b m).length = m := by simp [bat]
theorem bat_rev {r : Int} {b : UInt8} {m : Nat} : ∀ e ∈ bat r b m, e.rev = r := by
  intro e he
  simp only [bat, List.mem_map] at he
  obtain ⟨k, _, rfl⟩ := he
  rfl
theorem bat_succ (r : Int) (b : UInt8) (m : Nat) : bat r b (m + 1) = bat r b m ++ [⟨r, [UInt8.ofNat (97 + m)], [b], false⟩] := by
  simp [bat, List.range_succ]

theorem evs_plain {B : Value → List UInt8 → Prop} : ∀ {es : List Evt} {cs : List Value}, Rows 4 (EvC B) cs es → plainL oneCell cs = true
  | [], cs, h => by cases h; rfl
  | e :: es, cs, h => by
    obtain ⟨c, d, rfl, _, ⟨a, p, rfl, _⟩, h3⟩ := h
    have := evs_plain h3
    simp only [evtC, List.cons_append, List.nil_append, plainL, oneCell, Bool.true_and]
    exact this

/-! ### Rows that are hidden, and what is seen beside them -/

theorem Kp.toHid {g : Gm} {n : Nat} {p : Nat → Prop} (h : ∀ x o, p x → g x = some o → nb o) : Kp (fun x o => p x ∧ nb o) g n (hid g p) :=
  fun x o _ ho hf => hid_some.2 ⟨fun hx => hf ⟨hx, h x o hx ho⟩, ho⟩
theorem EvsRd.toHid {g : Gm} {n : Nat} {p : Nat → Prop} {v : Value} {es : List Evt} (h : EvsRd g v es) (hw : WF g n) (hp : ∀ x o, p x → g x = some o → nb o) (hv : ∀ x, vname v = some x → ¬ p x) : EvsRd (hid g p) v es :=
  h.kp (Kp.toHid hp) hw (fun x cl ro k => k.2 rfl) fun x o hx _ k => hv x hx k.1

theorem SlC.sub {g g' : Gm} {k n : Nat} {v : Value} {cs : List Value} (h : SlC g k v n cs) (hs : ∀ l o, g l = some o → g' l = some o) : SlC g' k v n cs := by
  obtain ⟨h1, h2 | h2 | ⟨l, o, c, h2, h3, h4 | ⟨cl, ro, h4, h5, h6⟩⟩⟩ := h
  · exact ⟨h1, .inl h2⟩
  · exact ⟨h1, .inr (.inl h2)⟩
  · exact ⟨h1, .inr (.inr ⟨l, o, c, h2, h3, .inl h4⟩)⟩
  · exact ⟨h1, .inr (.inr ⟨l, o, c, h2, h3, .inr ⟨cl, ro, hs _ _ h4, h5, h6⟩⟩)⟩
theorem EvsRd.sub {g g' : Gm} {v : Value} {es : List Evt} (h : EvsRd g v es) (hs : ∀ l o, g l = some o → g' l = some o) : EvsRd g' v es := by
  obtain ⟨cs, h1, h2⟩ := h
  exact ⟨cs, h1.sub hs, h2.mono fun c x _ hx => hx.mono fun _ _ k => SlC.sub k hs⟩
theorem EvsRd.ofHid {g : Gm} {p : Nat → Prop} {v : Value} {es : List Evt} (h : EvsRd (hid g p) v es) : EvsRd g v es := h.sub fun l o hl => (hid_some.1 hl).2

end Go.Proofs.YtehmailaabjdjaaGreat
end

section
open Go.Proofs
namespace Go.Proofs.YtehmailaabjdjaaGreat
set_option linter.unusedSimpArgs false
set_option linter.unusedVariables false
set_option maxRecDepth 100000

theorem eqEvents_c {g : Gm} {n : Nat} {v w : Value} {es fs : List Evt} (h1 : EvsRd g v es) (h2 : EvsRd g w fs) (hn : es.length < 2 ^ 40) : C 49 #[v, w] g n fun u g' n' => (∃ r, u = .bool r ∧ (r = true ↔ es = fs)) ∧ K0 g n g' := by
  obtain ⟨a1, c1, rfl⟩ := h1.len
  obtain ⟨a2, c2, rfl⟩ := h2.len
  refine c_in2 Tryz.func49 rfl Tryz.ntmps49 rfl fun hw => ?_
  repeat first | refine Na ?_ | refine Nb ?_ | refine Nc ?_ | refine Nd ?_ | refine Ne ?_
  refine w_reg 1 rfl rfl (j' := 1) (nA rfl (n_nil ?_))
  repeat first | refine Na ?_ | refine Nb ?_ | refine Nc ?_ | refine Nd ?_ | refine Ne ?_
  refine w_reg 5 rfl rfl (j' := 6) (nM rfl (nO (s_len rfl rfl un_65 rfl (nM rfl (nO (s_len rfl rfl un_65 rfl (nO (s_bin rfl rfl rfl (n_nil ?_)))))))))
  by_cases hl : es.length = fs.length
  · repeat first | refine Na ?_ | refine Nb ?_ | refine Nc ?_ | refine Nd ?_ | refine Ne ?_
    refine w_no rfl (bne_eq_false_iff_eq.2 (by omega)) ?_
    repeat first | refine Na ?_ | refine Nb ?_ | refine Nc ?_ | refine Nd ?_ | refine Ne ?_
    refine w_reg 3 rfl rfl (j' := 9) (nM rfl (nO (s_len rfl rfl un_65 rfl (nM rfl (n_nil ?_)))))
    repeat first | refine Na ?_ | refine Nb ?_ | refine Nc ?_ | refine Nd ?_ | refine Ne ?_
    refine w_loop (β := Nat) (fun i => [(0, .slice a1 es.length c1), (1, .slice a2 fs.length c2), (12, .int .i64 es.length), (13, .int .i64 i)])
      (fun i g' n' => i ≤ es.length ∧ n ≤ n' ∧ K0 g n g' ∧ es.take i = fs.take i) (fun i => es.length - i) 0 ⟨rfl, rfl, rfl, rfl, trivial⟩ ⟨by omega, by omega, (by repeat (first | exact Kp.refl _ _ _ | refine Kp.new ?_ (by omega) _)), rfl⟩ ?_
    rintro i f g1 n1 hw1 ⟨hi, hn1, k1, ht⟩
    repeat first | refine Na ?_ | refine Nb ?_ | refine Nc ?_ | refine Nd ?_ | refine Ne ?_
    refine w_reg 1 rfl rfl (j' := 1) (nO (s_bin rfl rfl rfl (n_nil ?_)))
    repeat first | refine Na ?_ | refine Nb ?_ | refine Nc ?_ | refine Nd ?_ | refine Ne ?_
    refine w_if rfl (fun hb => ?_) (fun hb => ?_)
    · have hi : i < es.length := by simpa using hb
      have hi2 : i < fs.length := by omega
      obtain ⟨l3, o3, c3, cl3, ro3, p3, q3, x1, _, x2, x3⟩ := (h1.kp0 k1 hw).at hi
      cases x1
      obtain ⟨l4, o4, c4, cl4, ro4, p4, q4, y1, _, y2, y3⟩ := (h2.kp0 k1 hw).at hi2
      cases y1
      have x0 := x3.len
      have x5 := x3.all
      have y0 := y3.len
      have y5 := y3.all
      repeat first | refine Na ?_ | refine Nb ?_ | refine Nc ?_ | refine Nd ?_ | refine Ne ?_
      refine w_reg 2 rfl rfl (j' := 3) (nM rfl (nA rfl (n_nil ?_)))
      repeat first | refine Na ?_ | refine Nb ?_ | refine Nc ?_ | refine Nd ?_ | refine Ne ?_
      refine w_drw (T6 49 6) [(0, []), (1, []), (2, []), (3, []), (4, [3]), (5, [3]), (6, [3]), (7, [3]), (8, []), (9, [])] 10 (by kernel_rfl) rfl rfl (j' := 13) (dM rfl rfl (dM rfl rfl (dO rfl rfl (s_ia rfl rfl el_65 (by first | assumption | omega) ⟨⟨rfl, rfl⟩, ?_⟩))))
      refine dT rfl rfl rfl (s_lda rfl (by repeat first | exact gS | exact x2 | exact y2 | exact x5 | exact y5 | refine gN (by omega) ?_) ag_82 sz_82 (by first | exact Nat.le_of_ble_eq_true rfl | assumption | omega) (by first | exact x2 | exact y2 | exact x5 | exact y5 | exact rfl) ⟨clash_nil, ?_⟩)
      refine dM rfl rfl (dM rfl rfl (dO rfl rfl (s_ia rfl rfl el_65 (by first | assumption | omega) ⟨⟨rfl, rfl⟩, ?_⟩)))
      refine dT rfl rfl rfl (s_lda rfl (by repeat first | exact gS | exact x2 | exact y2 | exact x5 | exact y5 | refine gN (by omega) ?_) ag_82 sz_82 (by first | exact Nat.le_of_ble_eq_true rfl | assumption | omega) (by first | exact x2 | exact y2 | exact x5 | exact y5 | exact rfl) ⟨clash_rd rfl, ?_⟩)
      refine d_call rfl .no rfl rfl rfl call_nil ?_
      refine C.use (eqEvent_c x3.val y3.val) fun v g2 n2 hw2 hn2 hq => ?_
      obtain ⟨⟨r, rfl, hr⟩, k2⟩ := hq
      refine ⟨kept_nil, ?_⟩
      refine dO rfl rfl (s_not rfl ⟨⟨rfl, rfl⟩, (d_nil ?_)⟩)
      have k3 := k1.trans0 (k2.dn (m := n1) (by omega)) (by omega)
      by_cases he : es[i] = fs[i]
      · repeat first | refine Na ?_ | refine Nb ?_ | refine Nc ?_ | refine Nd ?_ | refine Ne ?_
        refine w_no rfl (by simp [hr.2 he]) ?_
        repeat first | refine Na ?_ | refine Nb ?_ | refine Nc ?_ | refine Nd ?_ | refine Ne ?_
        repeat first | refine Na ?_ | refine Nb ?_ | refine Nc ?_ | refine Nd ?_ | refine Ne ?_
        refine w_reg 2 rfl rfl (j' := 2) (nO (s_bin rfl rfl (by first | exact bi_inc (by omega) | exact bi_add rfl (by omega) (by omega)) ?_))
        refine nM rfl (n_nil ?_)
        exact z_round (i + 1) ⟨rfl, rfl, rfl, rfl, trivial⟩ ⟨hi, by omega, k3, by rw [List.take_succ_eq_append_getElem hi, List.take_succ_eq_append_getElem hi2, ht, he]⟩ (by omega)
      · have hrf : r = false := by
          cases r with
          | false => rfl
          | true => exact absurd (hr.1 rfl) he
        repeat first | refine Na ?_ | refine Nb ?_ | refine Nc ?_ | refine Nd ?_ | refine Ne ?_
        refine w_yes rfl (by simp [hrf]) ?_
        repeat first | refine Na ?_ | refine Nb ?_ | refine Nc ?_ | refine Nd ?_ | refine Ne ?_
        refine w_reg 1 rfl rfl (j' := 1) (nA rfl (n_nil ?_))
        repeat first | refine Nf ?_ | refine Na ?_ | refine Nb ?_ | refine Nc ?_ | refine Nd ?_ | refine Ne ?_
        refine z_r1 rfl rfl ?_
        exact ⟨⟨_, rfl, ⟨fun h => (by cases h), fun h => absurd (by simp only [h]) he⟩⟩, k3⟩
    · refine w_exit rfl ?_
      repeat first | refine Na ?_ | refine Nb ?_ | refine Nc ?_ | refine Nd ?_ | refine Ne ?_
      refine w_reg 1 rfl rfl (j' := 2) (nA rfl (n_nil ?_))
      repeat first | refine Nf ?_ | refine Na ?_ | refine Nb ?_ | refine Nc ?_ | refine Nd ?_ | refine Ne ?_
      refine z_r1 rfl rfl ?_
      have : i = es.length := by simp at hb; omega
      subst this
      rw [List.take_length, hl, List.take_length] at ht
      exact ⟨⟨_, rfl, ⟨fun _ => ht, fun _ => rfl⟩⟩, k1⟩
  · repeat first | refine Na ?_ | refine Nb ?_ | refine Nc ?_ | refine Nd ?_ | refine Ne ?_
    refine w_yes rfl (bne_iff_ne.2 (by omega)) ?_
    repeat first | refine Na ?_ | refine Nb ?_ | refine Nc ?_ | refine Nd ?_ | refine Ne ?_
    refine w_reg 1 rfl rfl (j' := 7) (nA rfl (n_nil ?_))
    repeat first | refine Nf ?_ | refine Na ?_ | refine Nb ?_ | refine Nc ?_ | refine Nd ?_ | refine Ne ?_
    refine z_r1 rfl rfl ?_
    exact ⟨⟨_, rfl, ⟨fun h => (by cases h), fun h => absurd (by rw [h]) hl⟩⟩, (by repeat (first | exact Kp.refl _ _ _ | refine Kp.new ?_ (by omega) _))⟩

end Go.Proofs.YtehmailaabjdjaaGreat
end

section
open Go.Proofs
namespace Go.Proofs.YtehmailaabjdjaaGreat
set_option linter.unusedSimpArgs false
set_option linter.unusedVariables false
set_option maxRecDepth 100000

theorem wanted_undef {ops : Array Oper} {a : Act} {o : Oper} {j d : Nat} {b : Bool} (hg : o.guard = some (j, b)) (h1 : gdst ops j = some d) (h2 : aeval a (.tmp d) = some undef) :
    Region.wanted o (yielded ops a.tmps) = false := by
  simp only [Region.wanted, hg, yielded]
  unfold gdst at h1
  rw [h1]
  simp only [aeval, Option.some.injEq] at h2
  simp only [Option.bind_some]
  rw [Array.getD_eq_getD_getElem?] at h2
  cases hd : a.tmps[d]? with
  | none => rfl
  | some u =>
    rw [hd] at h2
    simp only [Option.getD_some] at h2
    subst h2
    rfl

section
variable {X : Cx} {k : List Fm} {f : Nat → Value} {s : Sls} {g : Gm} {m j m₀ j₀ i : Nat} {ops : Array Oper} {op : Op} {ty : TypeId} {pos : String} {af : Array Edge} {lo : List Nat} {L : List (Nat × List Nat)} {D : List Rec} {os : List Oper}

theorem n_skU {jg d : Nat} {b : Bool} {dd : Tmp} (hd : gdL ops.toList jg = some d) (hv : ov X.N s (.tmp d) = some undef) (h : RN X k ops m₀ j₀ (i + 1) os f ((dd, undef) :: s) g m j) :
    RN X k ops m₀ j₀ i (⟨some dd, op, ty, pos, af, some (jg, b)⟩ :: os) f s g m j := by
  refine ⟨fun hops => ?_⟩
  rw [List.length_cons, List.range'_succ]
  have ho := rn_here hops
  simp only [runL, ho]
  rw [if_neg (by rw [wanted_undef rfl (gdL_ok hd) (ov_ok hv)]; simp), Fr_put]
  exact h.out (rn_rest hops)
theorem d_skU {jg d : Nat} {b : Bool} {dd : Tmp} (ho : nth ops.toList i = some ⟨some dd, op, ty, pos, af, some (jg, b)⟩) (hd : gdL ops.toList jg = some d) (hv : ov X.N s (.tmp d) = some undef) (h : RD X k ops m₀ j₀ L D f ((dd, undef) :: s) g m j) :
    RD X k ops m₀ j₀ ((i, lo) :: L) D f s g m j := by
  replace ho := nth_ok ho
  refine ⟨fun dep pre D' hpl hS => ?_⟩
  obtain ⟨hp, hpl2⟩ := plan_lo hpl
  simp only [List.map_cons, runD, ho]
  rw [if_neg (by rw [wanted_undef rfl (gdL_ok hd) (ov_ok hv)]; simp), Fr_put]
  exact h.out dep (i :: pre) _ hpl2 hS.grow

/-- The heap by another name. -/
theorem w_gen {c : Code} (h : ∀ g' n', g' = g → n' = m + j → WF g' n' → W X k c f s g' n' 0) : W X k c f s g m j :=
  w_wf fun hw => ⟨(h g (m + j) rfl rfl hw).out⟩
end

end Go.Proofs.YtehmailaabjdjaaGreat
end
