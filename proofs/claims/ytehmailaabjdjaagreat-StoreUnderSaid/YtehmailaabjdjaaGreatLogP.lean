/-
  plain laws of a log: what is kept, what is told. No condition.
-/
import Derived.Test.YtehmailaabjdjaaGreatWkD
open Go.Proofs
namespace Go.Proofs.YtehmailaabjdjaaGreat
set_option linter.unusedSimpArgs false
set_option linter.unusedVariables false

theorem lastRev_const {r : Int} {es : List Evt} (hne : es ≠ []) (h : ∀ e ∈ es, e.rev = r) : lastRev es = r := by
  have h0 : 0 < es.length := List.length_pos_iff.2 hne
  rw [lastRev_eq h0]
  exact h _ (List.getElem_mem _)

theorem sorted_const {r : Int} {es : List Evt} (h : ∀ e ∈ es, e.rev = r) : SortedE es := fun i hi => by
  rw [h _ (List.getElem_mem _), h _ (List.getElem_mem _)]; exact Int.le_refl _

/-! ### LogKeeps -/

/-- The events of one revision. -/
def batch (r : Int) (m : Nat) : List Evt := (List.range m).map fun k => ⟨r, [UInt8.ofNat (97 + k)], [], false⟩
/-- The events of the revisions behind j, by their numbers. -/
def evsB : Nat → List Nat → List Evt
  | _, [] => []
  | j, c :: r => batch (j + 1 : Nat) c ++ evsB (j + 1) r

theorem batch_len (r : Int) (m : Nat) : (batch r m).length = m := by simp [batch]
theorem batch_rev {r : Int} {m : Nat} : ∀ e ∈ batch r m, e.rev = r := by
  intro e he
  simp only [batch, List.mem_map] at he
  obtain ⟨k, _, rfl⟩ := he
  rfl
theorem batch_succ (r : Int) (m : Nat) : batch r (m + 1) = batch r m ++ [⟨r, [UInt8.ofNat (97 + m)], [], false⟩] := by
  simp [batch, List.range_succ]
theorem evsB_gt : ∀ {cs : List Nat} {j : Nat}, ∀ e ∈ evsB j cs, (j : Int) < e.rev
  | [], j, e, he => by simp [evsB] at he
  | c :: r, j, e, he => by
    simp only [evsB, List.mem_append] at he
    rcases he with he | he
    · have := batch_rev e he; omega
    · have := evsB_gt e he; omega
theorem evsB_len : ∀ (cs : List Nat) (j : Nat), (evsB j cs).length = cs.sum
  | [], j => rfl
  | c :: r, j => by simp only [evsB, List.length_append, batch_len, evsB_len r, List.sum_cons]
theorem evsB_snoc : ∀ (cs : List Nat) (j c : Nat), evsB j (cs ++ [c]) = evsB j cs ++ batch ((j + cs.length + 1 : Nat) : Int) c
  | [], j, c => by simp [evsB]
  | a :: r, j, c => by
    simp only [List.cons_append, evsB, evsB_snoc r, List.length_cons]
    rw [List.append_assoc, show j + 1 + r.length + 1 = j + (r.length + 1) + 1 by omega]
theorem cut_B {j c : Nat} {r : List Nat} : (evsB j (c :: r)).filter (fun e => decide (((j + 1 : Nat) : Int) < e.rev)) = evsB (j + 1) r := by
  simp only [evsB, List.filter_append]
  have h1 : (batch ((j + 1 : Nat) : Int) c).filter (fun e => decide (((j + 1 : Nat) : Int) < e.rev)) = [] := by
    rw [List.filter_eq_nil_iff]
    intro e he
    have := batch_rev e he
    simp; omega
  have h2 : (evsB (j + 1) r).filter (fun e => decide (((j + 1 : Nat) : Int) < e.rev)) = evsB (j + 1) r := by
    rw [List.filter_eq_self]
    intro e he
    have := evsB_gt e he
    simp; omega
  rw [h1, h2, List.nil_append]

theorem trim_B {most : Int} (hm : 0 ≤ most) : ∀ (cs : List Nat) (j k : Nat), (∀ c ∈ cs, 0 < c) → cs.sum ≤ k → ∀ last : Int, last = ((j + cs.length : Nat) : Int) →
    ∃ d, d ≤ cs.length ∧ Log.trim k ⟨evsB j cs, most, (j : Int), last⟩ = ⟨evsB (j + d) (cs.drop d), most, ((j + d : Nat) : Int), last⟩ ∧ (((cs.drop d).sum : Nat) : Int) ≤ most ∧ (d = 0 ∨ most < (((cs.drop (d - 1)).sum : Nat) : Int))
  | [], j, k, hc, hk, last, hl => ⟨0, Nat.le_refl _, Log.trim_done (by show ¬ most < ((0 : Nat) : Int); omega), by simpa using hm, .inl rfl⟩
  | c :: r, j, k, hc, hk, last, hl => by
    have hc0 := hc c (List.mem_cons_self ..)
    simp only [List.sum_cons, List.length_cons] at hk hl
    by_cases h : most < (((c :: r).sum : Nat) : Int)
    · simp only [List.sum_cons] at h
      obtain ⟨k', rfl⟩ : ∃ k', k = k' + 1 := ⟨k - 1, by omega⟩
      obtain ⟨c', rfl⟩ : ∃ c', c = c' + 1 := ⟨c - 1, by omega⟩
      obtain ⟨d, h1, h2, h3, h4⟩ := trim_B hm r (j + 1) k' (fun x hx => hc x (List.mem_cons_of_mem _ hx)) (by omega) last (by omega)
      refine ⟨d + 1, by simp; omega, ?_, by simpa using h3, .inr ?_⟩
      · obtain ⟨e, es, he, hr⟩ : ∃ e es, evsB j ((c' + 1) :: r) = e :: es ∧ e.rev = ((j + 1 : Nat) : Int) := by
          simp only [evsB, batch, List.range_succ_eq_map, List.map_cons, List.cons_append]
          exact ⟨_, _, rfl, rfl⟩
        have hlt : most < ((evsB j ((c' + 1) :: r)).length : Int) := by rw [evsB_len, List.sum_cons]; exact h
        have : Log.trim (k' + 1) ⟨evsB j ((c' + 1) :: r), most, (j : Int), last⟩ = Log.trim k' (Log.cut ⟨evsB j ((c' + 1) :: r), most, (j : Int), last⟩ e.rev) := by
          simp only [Log.trim]
          rw [if_pos hlt]
          simp only [he]
        rw [this]
        simp only [Log.cut]
        rw [hr, cut_B, show max (j : Int) (min ((j + 1 : Nat) : Int) last) = ((j + 1 : Nat) : Int) by omega, h2]
        rw [show j + 1 + d = j + (d + 1) by omega, List.drop_succ_cons]
      · rcases h4 with rfl | h4
        · simpa using h
        · obtain ⟨d', rfl⟩ | rfl : (∃ d', d = d' + 1) ∨ d = 0 := by
            rcases d with _ | d
            · exact .inr rfl
            · exact .inl ⟨d, rfl⟩
          · simpa using h4
          · simpa using h
    · refine ⟨0, Nat.zero_le _, Log.trim_done ?_, by simpa using h, .inl rfl⟩
      simp only [evsB_len]
      exact h

/-- From which revision on is kept. -/
structure KFr (most : Int) (ns : List Nat) (f : Nat) : Prop where
  le : f ≤ ns.length
  fit : (((ns.drop f).sum : Nat) : Int) ≤ most
  all : f = 0 ∨ most < (((ns.drop (f - 1)).sum : Nat) : Int)

theorem sum_drop {ns : List Nat} {a b : Nat} (h : a ≤ b) : (ns.drop b).sum ≤ (ns.drop a).sum := by
  obtain ⟨d, rfl⟩ := Nat.le.dest h
  have : ∀ (d : Nat) (l : List Nat), (l.drop d).sum ≤ l.sum := by
    intro d
    induction d with
    | zero => intro l; simp
    | succ d ih =>
      intro l
      cases l with
      | nil => simp
      | cons x r => have := ih r; simp only [List.drop_succ_cons, List.sum_cons]; omega
  rw [← List.drop_drop]
  exact this _ _

theorem KFr.eq {most : Int} {ns : List Nat} {a b : Nat} (h : KFr most ns a) (k : KFr most ns b) : a = b := by
  have key : ∀ {x y : Nat}, KFr most ns x → KFr most ns y → ¬ x < y := by
    intro x y hx hy hlt
    rcases hy.all with e | e
    · omega
    · have := sum_drop (ns := ns) (show x ≤ y - 1 by omega)
      have := hx.fit
      omega
  have h1 := key h k
  have h2 := key k h
  omega

def keepsL (most : Int) (ns : List Nat) (f : Nat) : Log := ⟨evsB f (ns.drop f), most, (f : Int), (ns.length : Int)⟩

theorem keeps_may {most : Int} {ns : List Nat} {f c : Nat} (hc : 0 < c) : (keepsL most ns f).may (batch ((ns.length + 1 : Nat) : Int) c) := by
  obtain ⟨c', rfl⟩ : ∃ c', c = c' + 1 := ⟨c - 1, by omega⟩
  refine ⟨?_, sorted_const batch_rev⟩
  simp only [batch, List.range_succ_eq_map, List.map_cons]
  exact ⟨_, _, rfl, by show (ns.length : Int) < ((ns.length + 1 : Nat) : Int); omega⟩

theorem keeps_add {most : Int} {ns : List Nat} {f c : Nat} (hm : 0 ≤ most) (h : KFr most ns f) (hp : ∀ x ∈ ns, 0 < x) (hc : 0 < c) :
    ∃ f', KFr most (ns ++ [c]) f' ∧ (keepsL most ns f).add (batch ((ns.length + 1 : Nat) : Int) c) = keepsL most (ns ++ [c]) f' := by
  have hle := h.le
  have e1 : evsB f (ns.drop f) ++ batch ((ns.length + 1 : Nat) : Int) c = evsB f ((ns ++ [c]).drop f) := by
    rw [List.drop_append_of_le_length hle, evsB_snoc, List.length_drop]
    rw [show f + (ns.length - f) + 1 = ns.length + 1 by omega]
  have hlen : ((ns ++ [c]).drop f).length = ns.length + 1 - f := by simp
  obtain ⟨d, h1, h2, h3, h4⟩ := trim_B hm ((ns ++ [c]).drop f) f ((keepsL most ns f).evs.length + (batch ((ns.length + 1 : Nat) : Int) c).length) (fun x hx => by
      have := List.mem_of_mem_drop hx
      rcases List.mem_append.1 this with hx | hx
      · exact hp x hx
      · simp at hx; omega) (by
      simp only [keepsL, evsB_len, batch_len]
      rw [List.drop_append_of_le_length hle]; simp) ((ns.length + 1 : Nat) : Int) (by rw [hlen]; omega)
  refine ⟨f + d, ⟨by simp at h1 ⊢; omega, by rw [← List.drop_drop]; exact h3, ?_⟩, ?_⟩
  · rcases h4 with rfl | h4
    · rcases h.all with e | e
      · left; omega
      · right
        have hb : (ns.drop (f - 1)).sum ≤ ((ns ++ [c]).drop (f - 1)).sum := by
          rw [List.drop_append_of_le_length (by omega)]; simp
        simp only [Nat.add_zero]
        omega
    · by_cases hd : d = 0
      · subst hd
        rcases h.all with e | e
        · left; omega
        · right
          have hb : (ns.drop (f - 1)).sum ≤ ((ns ++ [c]).drop (f - 1)).sum := by
            rw [List.drop_append_of_le_length (by omega)]; simp
          simp only [Nat.add_zero]
          omega
      · right
        rw [List.drop_drop] at h4
        rw [show f + d - 1 = f + (d - 1) by omega]
        exact h4
  · have hb : batch ((ns.length + 1 : Nat) : Int) c ≠ [] := fun e => by
      have := batch_len ((ns.length + 1 : Nat) : Int) c
      rw [e] at this; simp at this; omega
    simp only [Log.add, Log.put, keepsL] at h2 ⊢
    rw [lastRev_const hb batch_rev, e1, h2, List.drop_drop]
    simp

theorem keeps_from {most : Int} {ns : List Nat} {f : Nat} (h : KFr most ns f) : (keepsL most ns f).from_ (f : Int) = (evsB f (ns.drop f), 0) := by
  have := h.le
  rw [Log.from_, if_neg (show ¬ (f : Int) < (keepsL most ns f).base from by show ¬ (f : Int) < (f : Int); omega), if_neg (show ¬ (keepsL most ns f).last < (f : Int) from by show ¬ (ns.length : Int) < (f : Int); omega)]
  congr 1
  show (evsB f (ns.drop f)).filter _ = _
  rw [List.filter_eq_self]
  intro e he
  have := evsB_gt e he
  simpa using this
theorem keeps_before {most : Int} {ns : List Nat} {f : Nat} : (keepsL most ns f).from_ ((f : Int) - 1) = ([], 7) := by
  rw [Log.from_, if_pos (show (f : Int) - 1 < (keepsL most ns f).base from by show (f : Int) - 1 < (f : Int); omega)]

end Go.Proofs.YtehmailaabjdjaaGreat
