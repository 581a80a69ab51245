/-
  The reference's cache: what its lists become, the plain law. No condition. / The reference's cache in memory: lay, by contract. No condition.
-/
import Derived.Test.YtehmailaabjdjaaGreatStoY
section
open Go.Proofs
namespace Go.Proofs.YtehmailaabjdjaaGreat
set_option linter.unusedSimpArgs false
set_option linter.unusedVariables false
set_option maxRecDepth 100000

theorem lay_ne {e : SEnt} : ∀ {L : List SEnt}, Srtd L → L.filter (fun x => decide (x.key ≠ e.key)) = L.filter (fun x => decide (x.key < e.key)) ++ L.filter (fun x => decide (e.key < x.key))
 | [], _ => rfl
 | x :: L, h => by
  rw [Srtd, List.pairwise_cons] at h
  have ih := lay_ne (e := e) h.2
  by_cases h1 : x.key = e.key
  ·rw [List.filter_cons_of_neg (by simp [h1]), List.filter_cons_of_neg (by simp [h1, lt_irr]), List.filter_cons_of_neg (by simp [h1, lt_irr]), ih]
  ·by_cases h2 : x.key < e.key
   ·have h3 : ¬ e.key < x.key := fun q => lt_irr _ (lt_tr h2 q)
    rw [List.filter_cons_of_pos (by simp [h1]), List.filter_cons_of_pos (by simp [h2]), List.filter_cons_of_neg (by simp [h3]), ih]
    rfl
   ·have h3 : e.key < x.key := lt_or h2 h1
    have h4 : ∀ y ∈ L, e.key < y.key := fun y hy => lt_tr h3 (h.1 y hy)
    have h5 : L.filter (fun x => decide (x.key < e.key)) = [] := by
     rw [List.filter_eq_nil_iff]
     intro y hy q
     exact lt_irr _ (lt_tr (h4 y hy) (of_decide_eq_true q))
    rw [List.filter_cons_of_pos (by simp [h1]), List.filter_cons_of_neg (by simp [h2]), List.filter_cons_of_pos (by simp [h3]), ih, h5]
    rfl
theorem layL_le {L : List SEnt} (h : Srtd L) {e : SEnt} {gone : Bool} : (layL L e gone).length ≤ L.length + 1 := by
 have h1 := congrArg List.length (lay_ne (e := e) h)
 have h2 := List.length_filter_le (fun x : SEnt => decide (x.key ≠ e.key)) L
 rw [List.length_append] at h1
 unfold layL
 simp only [List.length_append]
 cases gone <;> simp <;> omega

end Go.Proofs.YtehmailaabjdjaaGreat
end

section
open Go.Proofs
namespace Go.Proofs.YtehmailaabjdjaaGreat
set_option linter.unusedSimpArgs false
set_option linter.unusedVariables false
set_option maxRecDepth 100000

def EntsW (g : Gm) (v : Value) (es : List SEnt) : Prop := ∃ cs, SlOwn g 3 v es.length cs ∧ Rows 3 (EnC (BytesAt g)) cs es
section
variable {F : Nat → AObj → Prop} {g g' : Gm} {n : Nat} {v : Value} {es : List SEnt}
theorem EntsW.fn (h : EntsW g v es) {x : Nat} (hx : vname v = some x) : ∀ o, g x = some o → FN v x o := fun o ho => by
 obtain ⟨cs, ⟨_, ⟨rfl, _⟩ | ⟨l', o', c, cl, rfl, _, h4, _⟩⟩, _⟩ := h
 ·cases hx
 ·refine ⟨hx, ?_⟩
  simp only [vname, Option.some.injEq] at hx
  subst hx
  rw [h4] at ho; cases ho
  exact ⟨_, _, rfl⟩
theorem EntsW.app {g1 : Gm} {n1 : Nat} {w : Value} {cs c : List Value} {xs : List SEnt} {e : SEnt} (hR : Rows 3 (EnC (BytesAt g1)) cs xs) (hw1 : WF g1 n1) (hF : Kp F g1 n1 g') (hFb : NoB F) (hn : EnC (BytesAt g') c e) (hrow : SlOwn g' 3 w (xs.length + 1) (cs ++ c)) : EntsW g' w (xs ++ [e]) := by
 refine ⟨cs ++ c, by rw [List.length_append]; exact hrow, Rows.append (hR.mono fun c x _ hx => hx.mono fun _ _ k => k.kp hF hw1 hFb) (Rows.one ?_ hn)⟩
 obtain ⟨a, p, rfl, _⟩ := hn
 rfl
end
theorem Gr.from_ {g g' : Gm} {b nm : Nat} {v v' : Value} (h : Gr g g' nm v v') (hv : ∀ y, vname v = some y → b ≤ y) (hb : b ≤ nm) : ∀ y, vname v' = some y → b ≤ y := fun y hy => by
 rcases h.name with e | e | e
 ·rw [e] at hy; cases hy
 ·rw [e] at hy; exact hv _ hy
 ·rw [e] at hy; cases hy; exact hb

theorem str_lt {a b : List UInt8} : Op.bytesLess (str a).toList (str b).toList = decide (a < b) := by
 have e : ∀ l : List UInt8, (str l).toList = l := fun l => by
  rw [ByteArray.toList_eq] <;> simp [str]
 rw [e, e]
 exact bytesLess_eq a b

end Go.Proofs.YtehmailaabjdjaaGreat
end
