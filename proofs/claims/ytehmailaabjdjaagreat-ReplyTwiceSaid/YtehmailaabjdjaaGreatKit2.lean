/-
  ACTIVATIONS BY SLOTS; LOOPS; ROWS OF STRUCTS. No condition.
-/
import Derived.Test.YtehmailaabjdjaaGreatKit1
import Derived.IntWalk
namespace Go.Proofs.YtehmailaabjdjaaGreat
set_option linter.unusedSimpArgs false
set_option linter.unusedVariables false

def Sl (f : Nat → Value) : List (Nat × Value) → Prop
 | [] => True
 | (t, v) :: r => f t = v ∧ Sl f r

attribute [push_cast] Sl

def clean (ts : List Nat) : List (Nat × Value) → Prop
 | [] => True
 | (t, _) :: r => memN t ts = false ∧ clean ts r
attribute [push_cast] clean

section
variable {P : Program} {Q : AQ} {N : Nat} {ds : List Deferred}

theorem awp_if {c : Operand} {x y : Code} {a : Act} {σ : Heap} (t : Bool) (hc : aeval a c = some (.bool t)) (h1 : t = true → AWP P x Q a σ) (h2 : t = false → AWP P y Q a σ) : AWP P (.cond c x y) Q a σ := by
 cases t
 ·exact awp_cond hc (h2 rfl)
 ·exact awp_cond hc (h1 rfl)

theorem awp_yes {c : Operand} {x y : Code} {a : Act} {σ : Heap} (hc : aeval a c = some (.bool true)) (h : AWP P x Q a σ) : AWP P (.cond c x y) Q a σ := awp_cond hc h
theorem awp_no {c : Operand} {x y : Code} {a : Act} {σ : Heap} (hc : aeval a c = some (.bool false)) (h : AWP P y Q a σ) : AWP P (.cond c x y) Q a σ := awp_cond hc h

theorem wrap_id {x : Int} (h : -9223372036854775808 ≤ x) (h' : x ≤ 9223372036854775807) : IntKind.i64.wrap x = x := IntWalk.i64_in x ⟨h, h'⟩

end

def Rows {α : Type} (k : Nat) (R : List Value → α → Prop) : List Value → List α → Prop
 | cs, [] => cs = []
 | cs, x :: xs => ∃ c d, cs = c ++ d ∧ c.length = k ∧ R c x ∧ Rows k R d xs

section
variable {α : Type} {k : Nat} {R : List Value → α → Prop}

theorem Rows.length : ∀ {xs : List α} {cs : List Value}, Rows k R cs xs → cs.length = xs.length * k
 | [], cs, h => by cases h; simp
 | x :: xs, cs, h => by
  obtain ⟨c, d, rfl, h1, _, h2⟩ := h
  rw [List.length_append, h1, Rows.length h2, List.length_cons, Nat.add_mul]; omega
theorem Rows.append : ∀ {xs ys : List α} {cs es : List Value}, Rows k R cs xs → Rows k R es ys → Rows k R (cs ++ es) (xs ++ ys)
 | [], ys, cs, es, h, h' => by cases h; exact h'
 | x :: xs, ys, cs, es, h, h' => by
  obtain ⟨c, d, rfl, h1, h2, h3⟩ := h
  exact ⟨c, d ++ es, by rw [List.append_assoc], h1, h2, Rows.append h3 h'⟩
theorem Rows.one {c : List Value} {x : α} (h : c.length = k) (hr : R c x) : Rows k R c [x] := ⟨c, [], by simp, h, hr, rfl⟩
theorem Rows.mono {R' : List Value → α → Prop} : ∀ {xs : List α} {cs : List Value}, (∀ c x, x ∈ xs → R c x → R' c x) → Rows k R cs xs → Rows k R' cs xs
 | [], cs, _, h => h
 | x :: xs, cs, hR, h => by
  obtain ⟨c, d, rfl, h1, h2, h3⟩ := h
  exact ⟨c, d, rfl, h1, hR _ _ (List.mem_cons_self ..) h2, Rows.mono (fun c x hx => hR c x (List.mem_cons_of_mem _ hx)) h3⟩
theorem Rows.get : ∀ {xs : List α} {cs : List Value} {i : Nat}, Rows k R cs xs → (hi : i < xs.length) → R ((cs.drop (i * k)).take k) xs[i]
 | [], _, _, _, hi => by simp at hi
 | x :: xs, cs, 0, h, _ => by
  obtain ⟨c, d, rfl, h1, h2, h3⟩ := h
  simp only [Nat.zero_mul, List.drop_zero, List.getElem_cons_zero]
  rw [← h1, List.take_left']
  ·exact h2
  ·rfl
 | x :: xs, cs, i + 1, h, hi => by
  obtain ⟨c, d, rfl, h1, h2, h3⟩ := h
  have := Rows.get (i := i) h3 (by simpa using hi)
  rw [List.getElem_cons_succ, Nat.add_mul, Nat.one_mul, Nat.add_comm, ← List.drop_drop, ← h1, List.drop_left']
  ·rw [h1]; exact this
  ·rfl
theorem Rows.drop : ∀ {xs : List α} {cs : List Value} (i : Nat), Rows k R cs xs → Rows k R (cs.drop (i * k)) (xs.drop i)
 | [], cs, i, h => by cases h; simp [Rows]
 | x :: xs, cs, 0, h => by simpa using h
 | x :: xs, cs, i + 1, h => by
  obtain ⟨c, d, rfl, h1, h2, h3⟩ := h
  rw [List.drop_succ_cons, Nat.add_mul, Nat.one_mul, Nat.add_comm, ← List.drop_drop, ← h1, List.drop_left' (by rfl), h1]
  exact Rows.drop i h3
theorem Rows.take : ∀ {xs : List α} {cs : List Value} (i : Nat), Rows k R cs xs → Rows k R (cs.take (i * k)) (xs.take i)
 | [], cs, i, h => by cases h; simp [Rows]
 | x :: xs, cs, 0, h => by simp [Rows]
 | x :: xs, cs, i + 1, h => by
  obtain ⟨c, d, rfl, h1, h2, h3⟩ := h
  rw [List.take_succ_cons]
  refine ⟨c, d.take (i * k), ?_, h1, h2, Rows.take i h3⟩
  rw [List.take_append, Nat.add_mul, Nat.one_mul, h1, List.take_of_length_le (by omega), Nat.add_sub_cancel]
end

end Go.Proofs.YtehmailaabjdjaaGreat
