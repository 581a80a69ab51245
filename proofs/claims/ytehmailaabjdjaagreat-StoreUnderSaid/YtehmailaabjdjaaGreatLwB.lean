/-
  the laws of the log: rows of events of one's own that share their bytes; a log among other rows. No condition.
-/
import Derived.Test.YtehmailaabjdjaaGreatLogP
open Go.Proofs
namespace Go.Proofs.YtehmailaabjdjaaGreat
set_option linter.unusedSimpArgs false
set_option linter.unusedVariables false
set_option maxRecDepth 100000

/-- A row of events of one's own; their bytes may lie anywhere. -/
def EvsW (g : Gm) (v : Value) (es : List Evt) : Prop := ∃ cs, SlOwn g 4 v es.length cs ∧ Rows 4 (EvC (BytesAt g)) cs es

theorem EvsW.nil (g : Gm) : EvsW g (.slice none 0 0) [] := ⟨[], SlOwn.nil _ _, rfl⟩
theorem EvsW.rd {g : Gm} {v : Value} {es : List Evt} (h : EvsW g v es) : EvsRd g v es := by
  obtain ⟨cs, h1, h2⟩ := h; exact ⟨cs, h1.slc, h2⟩
theorem EvsW.len {g : Gm} {v : Value} {es : List Evt} (h : EvsW g v es) : ∃ a c, v = .slice a es.length c := h.rd.len
theorem EvsW.kp {F : Nat → AObj → Prop} {g g' : Gm} {n : Nat} {v : Value} {es : List Evt} (h : EvsW g v es) (hk : Kp F g n g') (hw : WF g n) (hF : NoB F) (hv : Off F g v) : EvsW g' v es := by
  obtain ⟨cs, h1, h2⟩ := h
  exact ⟨cs, h1.kp hk hw hv, h2.mono fun c x _ hx => hx.mono fun _ _ k => k.kp hk hw hF⟩
theorem EvsW.kp0 {g g' : Gm} {n : Nat} {v : Value} {es : List Evt} (h : EvsW g v es) (hk : K0 g n g') (hw : WF g n) : EvsW g' v es := h.kp hk hw NoB.z (Off.z g v)
theorem EvsW.lt {g : Gm} {n : Nat} {v : Value} {es : List Evt} (h : EvsW g v es) (hw : WF g n) {x : Nat} (hx : vname v = some x) : x < n := by
  obtain ⟨cs, ⟨_, ⟨rfl, _⟩ | ⟨l', o, c, cl, rfl, _, h4, _⟩⟩, _⟩ := h
  · cases hx
  · simp only [vname, Option.some.injEq] at hx
    subst hx
    exact hw _ _ h4
theorem EvsW.nbo {g : Gm} {v : Value} {es : List Evt} (h : EvsW g v es) {x : Nat} (hx : vname v = some x) {o : AObj} (ho : g x = some o) : nb o := by
  obtain ⟨cs, ⟨_, ⟨rfl, _⟩ | ⟨l', o, c, cl, rfl, _, h4, _⟩⟩, _⟩ := h
  · cases hx
  · simp only [vname, Option.some.injEq] at hx
    subst hx
    rw [h4] at ho; cases ho
    show (4 : Nat) ≠ 1
    decide

/-- What was appended to. -/
theorem EvsW.app {F : Nat → AObj → Prop} {n1 : Nat} {g1 g' : Gm} {xs ys : List Evt} {cs ds : List Value} {w' : Value} (hR : Rows 4 (EvC (BytesAt g1)) cs xs) (hw1 : WF g1 n1) (hF : Kp F g1 n1 g') (hFb : NoB F)
    (hS : Rows 4 (EvC (BytesAt g')) ds ys) (hrow : SlOwn g' 4 w' (xs.length + ys.length) (cs ++ ds)) : EvsW g' w' (xs ++ ys) :=
  ⟨cs ++ ds, by rw [List.length_append]; exact hrow, Rows.append (hR.mono fun c x _ hx => hx.mono fun _ _ k => k.kp hF hw1 hFb) hS⟩

/-- A log that is shown by itself: of names ahead of it nothing goes. -/
theorem Kp.logHid {g g' : Gm} {n q l : Nat} {sl : Value} {p : Nat → Prop} (h : Kp (FL l sl) (hid g p) n (hid g' p)) (hp : ∀ x, p x → g' x = g x) (hl : q ≤ l) (hs : ∀ x, vname sl = some x → q ≤ x) (hq : q ≤ n) : K0 g q g' := by
  intro x o hx ho _
  by_cases e : p x
  · rw [hp x e]; exact ho
  · exact (hid_some.1 (h x o (by omega) (hid_some.2 ⟨e, ho⟩) fun k => by
      rcases k.1 with k | k
      · omega
      · have := hs x k; omega)).2

/-- The same of all that is no row of bytes and was not hidden. -/
theorem Kp.logFP {g g' : Gm} {n l : Nat} {sl : Value} {p : Nat → Prop} (h : Kp (FL l sl) (hid g p) n (hid g' p)) (hp : ∀ x, p x → g' x = g x) : Kp (FP p) g n g' := h.unhid (fun x o k => k.2) hp

/-- A name of its own among the rows that are hidden. -/
def vIs (v : Value) (x : Nat) : Prop := vname v = some x

theorem SlOwn.lt {g : Gm} {n k m : Nat} {v : Value} {cs : List Value} (h : SlOwn g k v m cs) (hw : WF g n) {x : Nat} (hx : vname v = some x) : x < n := by
  obtain ⟨_, ⟨rfl, _⟩ | ⟨l', o, c, cl, rfl, _, h4, _⟩⟩ := h
  · cases hx
  · simp only [vname, Option.some.injEq] at hx
    subst hx
    exact hw _ _ h4

theorem SlOwn.same {g g' : Gm} {k m : Nat} {v : Value} {cs : List Value} (h : SlOwn g k v m cs) (he : ∀ x, vname v = some x → g' x = g x) : SlOwn g' k v m cs := by
  obtain ⟨h1, h2 | ⟨l, o, c, cl, h2, h3, h4, h5, h6⟩⟩ := h
  · exact ⟨h1, .inl h2⟩
  · exact ⟨h1, .inr ⟨l, o, c, cl, h2, h3, (he l (by rw [h2]; rfl)).trans h4, h5, h6⟩⟩

theorem SlC.at1 {g : Gm} {v : Value} {m i : Nat} {cs : List Value} {w : Value} (h : SlC g 1 v m cs) (hi : i < m) (hw : cs[i]? = some w) : ∃ l o c cl ro, v = .slice (some ⟨l, o, none⟩) m c ∧ g l = some (.cells cl 1 ro) ∧ cl[o + i * 1]? = some w := by
  obtain ⟨l, o, c, cl, ro, h1, _, h2, h3, h4⟩ := SlC.pos h (by omega)
  refine ⟨l, o, c, cl, ro, h1, h2, ?_⟩
  rw [take_cell h4 (by omega), Nat.mul_one]; exact hw

/-- Where nothing that was shown went nothing went. -/
theorem Kp.show0 {g g' : Gm} {n q : Nat} {p : Nat → Prop} (h : K0 (hid g p) n (hid g' p)) (hp : ∀ x, p x → g' x = g x) (hq : q ≤ n) : K0 g q g' := by
  intro x o hx ho _
  by_cases e : p x
  · rw [hp x e]; exact ho
  · exact (hid_some.1 (h x o (by omega) (hid_some.2 ⟨e, ho⟩) id)).2

theorem u8c_one1 (k : Nat) (hk : k < 100) : ([.int .u8 (IntKind.u8.wrap (97 + (k : Int)))] : List Value) = u8c [UInt8.ofNat (97 + k)] := by
  rw [u8_wrap (by omega) (by omega), show ((97 : Int) + (k : Int)).toNat = 97 + k by omega]
  rfl

end Go.Proofs.YtehmailaabjdjaaGreat
