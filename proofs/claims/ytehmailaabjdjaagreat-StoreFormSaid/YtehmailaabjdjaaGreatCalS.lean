/-
  What the store's texts need of calls: guards, writes, in memory; names that are none stay none. No condition.
-/
import Derived.Test.YtehmailaabjdjaaGreatLogX
open Go.Proofs
namespace Go.Proofs.YtehmailaabjdjaaGreat
set_option linter.unusedSimpArgs false
set_option linter.unusedVariables false
set_option maxRecDepth 100000

abbrev Bs := List UInt8
structure Gd where
 key : Bs
 rev : Int
 under : Bool
deriving DecidableEq
structure Wr where
 key : Bs
 val : Bs
 gone : Bool
deriving DecidableEq
def keyOk (k : Bs) : Prop := 1 ≤ k.length ∧ k.length ≤ 20
theorem pureRun_bind2 {α β : Type} (P : Program) (s : Sem α) (f : α → Sem β) : pureRun P (s >>= f) = (pureRun P s).bind fun v => pureRun P (f v) := by
 induction s with
 | pure b => rfl
 | program k ih => exact ih P
 | _ => rfl

def gdC (x : Gd) : List Value := [.string (str x.key), .int .i64 x.rev, .bool x.under]
def GdsRd (g : Gm) (v : Value) (gs : List Gd) : Prop := ∃ cs, SlC g 3 v gs.length cs ∧ Rows 3 (fun c x => c = gdC x) cs gs
def wrC (x : Wr) (v : Value) : List Value := [.string (str x.key), v, .bool x.gone]
def WrC (B : Value → List UInt8 → Prop) (c : List Value) (x : Wr) : Prop := ∃ a p, c = wrC x (.slice a x.val.length p) ∧ B (.slice a x.val.length p) x.val
def WrsRd (g : Gm) (v : Value) (ws : List Wr) : Prop := ∃ cs, SlC g 3 v ws.length cs ∧ Rows 3 (WrC (BytesAt g)) cs ws

section
variable {F : Nat → AObj → Prop} {g g' : Gm} {n n' : Nat} {v w : Value} {gs hs : List Gd} {ws xs : List Wr}
theorem WrC.mono {B B' : Value → List UInt8 → Prop} {c : List Value} {x : Wr} (h : WrC B c x) (hb : ∀ v bs, B v bs → B' v bs) : WrC B' c x := by
 obtain ⟨a, p, h1, h2⟩ := h
 exact ⟨a, p, h1, hb _ _ h2⟩
theorem GdsRd.kp (h : GdsRd g v gs) (hk : Kp F g n g') (hw : WF g n) (hv : Off F g v) : GdsRd g' v gs := by
 obtain ⟨cs, h1, h2⟩ := h
 exact ⟨cs, h1.kp hk hw hv, h2⟩
theorem GdsRd.kp0 (h : GdsRd g v gs) (hk : K0 g n g') (hw : WF g n) : GdsRd g' v gs := h.kp hk hw (Off.z g v)
theorem WrsRd.kp (h : WrsRd g v ws) (hk : Kp F g n g') (hw : WF g n) (hF : NoB F) (hv : Off F g v) : WrsRd g' v ws := by
 obtain ⟨cs, h1, h2⟩ := h
 exact ⟨cs, h1.kp hk hw hv, h2.mono fun c x _ hx => hx.mono fun _ _ k => k.kp hk hw hF⟩
theorem WrsRd.kp0 (h : WrsRd g v ws) (hk : K0 g n g') (hw : WF g n) : WrsRd g' v ws := h.kp hk hw NoB.z (Off.z g v)
theorem GdsRd.len (h : GdsRd g v gs) : ∃ a c, v = .slice a gs.length c := by
 obtain ⟨cs, h1, _⟩ := h
 obtain ⟨a, c, h, _⟩ := h1.len
 exact ⟨a, c, h⟩
theorem WrsRd.len (h : WrsRd g v ws) : ∃ a c, v = .slice a ws.length c := by
 obtain ⟨cs, h1, _⟩ := h
 obtain ⟨a, c, h, _⟩ := h1.len
 exact ⟨a, c, h⟩
theorem GdsRd.nil (g : Gm) : GdsRd g (.slice none 0 0) [] := ⟨[], SlC.nil _ _, rfl⟩
theorem WrsRd.nil (g : Gm) : WrsRd g (.slice none 0 0) [] := ⟨[], SlC.nil _ _, rfl⟩
theorem GdsRd.at {i : Nat} (h : GdsRd g v gs) (hi : i < gs.length) : ∃ l o c cl ro, v = .slice (some ⟨l, o, none⟩) gs.length c ∧ g l = some (.cells cl 3 ro) ∧ o + i * 3 + 3 ≤ cl.length ∧ (cl.drop (o + i * 3)).take 3 = gdC gs[i] := by
 obtain ⟨cs, h1, h2⟩ := h
 obtain ⟨l, o, c, cl, ro, rfl, hc, h3, h4, h5⟩ := h1.pos (by omega)
 have h6 := h2.get hi
 rw [← take_part h5 (show i * 3 + 3 ≤ gs.length * 3 by omega)] at h6
 exact ⟨l, o, c, cl, ro, rfl, h3, by omega, h6⟩
theorem WrsRd.at {i : Nat} (h : WrsRd g v ws) (hi : i < ws.length) : ∃ l o c cl ro a p, v = .slice (some ⟨l, o, none⟩) ws.length c ∧ g l = some (.cells cl 3 ro) ∧ o + i * 3 + 3 ≤ cl.length ∧ (cl.drop (o + i * 3)).take 3 = wrC ws[i] (.slice a ws[i].val.length p) ∧ BytesAt g (.slice a ws[i].val.length p) ws[i].val := by
 obtain ⟨cs, h1, h2⟩ := h
 obtain ⟨l, o, c, cl, ro, rfl, hc, h3, h4, h5⟩ := h1.pos (by omega)
 have h6 := h2.get hi
 rw [← take_part h5 (show i * 3 + 3 ≤ ws.length * 3 by omega)] at h6
 obtain ⟨a, p, h7, h8⟩ := h6
 exact ⟨l, o, c, cl, ro, a, p, rfl, h3, by omega, h7, h8⟩
end

theorem C.useG {f : FuncId} {args : Array Value} {g : Gm} {n : Nat} {R R' : Value → Gm → Nat → Prop} (h : C f args g n R) (k : ∀ v g' n', WF g' n' → n ≤ n' → (∀ l, l < n → g l = none → g' l = none) → R v g' n' → R' v g' n') : C f args g n R' :=
 ⟨h.out.strong.mono fun v τ ⟨h1, h2, h3, h4⟩ => k v τ.get τ.nxt h2 h3 h4 h1⟩
theorem WF.none {g : Gm} {n l : Nat} (h : WF g n) (hl : n ≤ l) : g l = none := by
 cases hg : g l with
 | none => rfl
 | some o => exact absurd (h _ _ hg) (by omega)
theorem Kp.add {F : Nat → AObj → Prop} {g g' : Gm} {n l : Nat} (h : Kp F g n g') (hl : g l = none) (o : AObj) : Kp F g n (gset g' l o) := fun x o' hx ho hf => by
 by_cases e : x = l
 ·subst e; rw [hl] at ho; cases ho
 ·rw [gs_ne e]; exact h x o' hx ho hf

end Go.Proofs.YtehmailaabjdjaaGreat
