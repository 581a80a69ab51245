/-
  The reference's cache: what its lists become, the plain law. No condition.
-/
import Derived.Test.YtehmailaabjdjaaGreatStoY
open Go.Proofs
namespace Go.Proofs.YtehmailaabjdjaaGreat
set_option linter.unusedSimpArgs false
set_option linter.unusedVariables false
set_option maxRecDepth 100000

/-- One entry of those that were there, when one is laid among them: what is made so far, whether it is laid already. -/
def layStep (e : SEnt) (od : List SEnt × Bool) (x : SEnt) : List SEnt × Bool :=
  if x.key = e.key then od else if od.2 = false ∧ e.key < x.key then (od.1 ++ [e] ++ [x], true) else (od.1 ++ [x], od.2)
/-- .. and the end. -/
def layEnd (e : SEnt) (od : List SEnt × Bool) : List SEnt := if od.2 = true then od.1 else od.1 ++ [e]

theorem lay_done (e : SEnt) : ∀ (L out : List SEnt), L.foldl (layStep e) (out, true) = (out ++ L.filter (fun x => decide (x.key ≠ e.key)), true)
  | [], out => by simp
  | x :: L, out => by
    rw [List.foldl_cons]
    by_cases h : x.key = e.key
    · have : layStep e (out, true) x = (out, true) := if_pos h
      rw [this, lay_done e L, List.filter_cons_of_neg (by simp [h])]
    · have : layStep e (out, true) x = (out ++ [x], true) := by
        unfold layStep
        rw [if_neg h, if_neg (by simp)]
      rw [this, lay_done e L, List.filter_cons_of_pos (by simp [h])]
      simp
theorem lay_ne {e : SEnt} : ∀ {L : List SEnt}, Srtd L → L.filter (fun x => decide (x.key ≠ e.key)) = L.filter (fun x => decide (x.key < e.key)) ++ L.filter (fun x => decide (e.key < x.key))
  | [], _ => rfl
  | x :: L, h => by
    rw [Srtd, List.pairwise_cons] at h
    have ih := lay_ne (e := e) h.2
    by_cases h1 : x.key = e.key
    · rw [List.filter_cons_of_neg (by simp [h1]), List.filter_cons_of_neg (by simp [h1, lt_irr]), List.filter_cons_of_neg (by simp [h1, lt_irr]), ih]
    · by_cases h2 : x.key < e.key
      · have h3 : ¬ e.key < x.key := fun q => lt_irr _ (lt_tr h2 q)
        rw [List.filter_cons_of_pos (by simp [h1]), List.filter_cons_of_pos (by simp [h2]), List.filter_cons_of_neg (by simp [h3]), ih]
        rfl
      · have h3 : e.key < x.key := lt_or h2 h1
        have h4 : ∀ y ∈ L, e.key < y.key := fun y hy => lt_tr h3 (h.1 y hy)
        have h5 : L.filter (fun x => decide (x.key < e.key)) = [] := by
          rw [List.filter_eq_nil_iff]
          intro y hy q
          exact lt_irr _ (lt_tr (h4 y hy) (of_decide_eq_true q))
        rw [List.filter_cons_of_pos (by simp [h1]), List.filter_cons_of_neg (by simp [h2]), List.filter_cons_of_pos (by simp [h3]), ih, h5]
        rfl
theorem lay_open (e : SEnt) : ∀ (L out : List SEnt), Srtd L → layEnd e (L.foldl (layStep e) (out, false)) = out ++ L.filter (fun x => decide (x.key < e.key)) ++ [e] ++ L.filter (fun x => decide (e.key < x.key))
  | [], out, _ => by simp [layEnd]
  | x :: L, out, h => by
    rw [Srtd, List.pairwise_cons] at h
    rw [List.foldl_cons]
    by_cases h1 : x.key = e.key
    · have : layStep e (out, false) x = (out, false) := if_pos h1
      rw [this, lay_open e L out h.2, List.filter_cons_of_neg (by simp [h1, lt_irr]), List.filter_cons_of_neg (by simp [h1, lt_irr])]
    · by_cases h2 : x.key < e.key
      · have h3 : ¬ e.key < x.key := fun q => lt_irr _ (lt_tr h2 q)
        have : layStep e (out, false) x = (out ++ [x], false) := by
          unfold layStep
          rw [if_neg h1, if_neg (fun q => h3 q.2)]
        rw [this, lay_open e L _ h.2, List.filter_cons_of_pos (by simp [h2]), List.filter_cons_of_neg (by simp [h3])]
        simp
      · have h3 : e.key < x.key := lt_or h2 h1
        have h4 : ∀ y ∈ L, e.key < y.key := fun y hy => lt_tr h3 (h.1 y hy)
        have : layStep e (out, false) x = (out ++ [e] ++ [x], true) := by
          unfold layStep
          rw [if_neg h1, if_pos ⟨rfl, h3⟩]
        have h5 : L.filter (fun x => decide (x.key < e.key)) = [] := by
          rw [List.filter_eq_nil_iff]
          intro y hy q
          exact lt_irr _ (lt_tr (h4 y hy) (of_decide_eq_true q))
        have h6 : L.filter (fun x => decide (x.key ≠ e.key)) = L.filter (fun x => decide (e.key < x.key)) := by
          rw [lay_ne h.2, h5]; rfl
        rw [this, lay_done, List.filter_cons_of_neg (by simp [h2]), List.filter_cons_of_pos (by simp [h3]), h6, h5]
        simp [layEnd]
/-- All of it is layL. -/
theorem lay_all {L : List SEnt} (h : Srtd L) (e : SEnt) (gone : Bool) : layEnd e (L.foldl (layStep e) ([], gone)) = layL L e gone := by
  cases gone
  · rw [lay_open e L [] h]
    simp [layL]
  · rw [lay_done, lay_ne h]
    simp [layEnd, layL]
/-- An entry that is greater than all goes to the end. -/
theorem lay_last {L : List SEnt} {e : SEnt} (h : ∀ x ∈ L, x.key < e.key) : layL L e false = L ++ [e] := by
  have h1 : L.filter (fun x => decide (x.key < e.key)) = L := List.filter_eq_self.2 fun x hx => decide_eq_true (h x hx)
  have h2 : L.filter (fun x => decide (e.key < x.key)) = [] := by
    rw [List.filter_eq_nil_iff]
    intro y hy q
    exact lt_irr _ (lt_tr (h y hy) (of_decide_eq_true q))
  unfold layL
  rw [h1, h2]
  simp
theorem layL_len {L : List SEnt} {e : SEnt} {gone : Bool} : (layL L e gone).length ≤ 2 * L.length + 1 := by
  unfold layL
  have h1 := List.length_filter_le (fun x : SEnt => decide (x.key < e.key)) L
  have h2 := List.length_filter_le (fun x : SEnt => decide (e.key < x.key)) L
  simp only [List.length_append]
  cases gone <;> simp <;> omega
theorem layL_le {L : List SEnt} (h : Srtd L) {e : SEnt} {gone : Bool} : (layL L e gone).length ≤ L.length + 1 := by
  have h1 := congrArg List.length (lay_ne (e := e) h)
  have h2 := List.length_filter_le (fun x : SEnt => decide (x.key ≠ e.key)) L
  rw [List.length_append] at h1
  unfold layL
  simp only [List.length_append]
  cases gone <;> simp <;> omega
theorem evLay_sort {L : List SEnt} (h : Srtd L) (e : Evt) : Srtd (evLay L e) := layL_sort h _ _
theorem evsLay_sort : ∀ (es : List Evt) {L : List SEnt}, Srtd L → Srtd (es.foldl evLay L)
  | [], _, h => h
  | e :: es, L, h => evsLay_sort es (L := evLay L e) (evLay_sort h e)
theorem evsLay_len : ∀ (es : List Evt) {L : List SEnt}, Srtd L → (es.foldl evLay L).length ≤ L.length + es.length
  | [], _, h => Nat.le_refl _
  | e :: es, L, h => by
    have h1 := evsLay_len es (L := evLay L e) (evLay_sort h e)
    have h2 := layL_le h (e := ⟨e.key, e.rev, e.val⟩) (gone := e.gone)
    have h3 : (evLay L e).length ≤ L.length + 1 := h2
    rw [List.foldl_cons, List.length_cons]
    omega

end Go.Proofs.YtehmailaabjdjaaGreat
