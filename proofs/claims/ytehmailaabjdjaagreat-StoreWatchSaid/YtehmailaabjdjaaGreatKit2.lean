/-
  ACTIVATIONS BY SLOTS; LOOPS; ROWS OF STRUCTS. No condition.
-/
import Derived.Test.YtehmailaabjdjaaGreatKit1
import Derived.IntWalk
namespace Go.Proofs.YtehmailaabjdjaaGreat
set_option linter.unusedSimpArgs false
set_option linter.unusedVariables false

/-! ### Slots -/

def Sl (f : Nat → Value) : List (Nat × Value) → Prop
  | [] => True
  | (t, v) :: r => f t = v ∧ Sl f r

attribute [push_cast] Sl

def clean (ts : List Nat) : List (Nat × Value) → Prop
  | [] => True
  | (t, _) :: r => memN t ts = false ∧ clean ts r
attribute [push_cast] clean

theorem Sl.set {f : Nat → Value} {t : Nat} {v : Value} {ts : List Nat} (ht : memN t ts = true) : ∀ {s : List (Nat × Value)}, clean ts s → Sl f s → Sl (fset f t v) s
  | [], _, _ => trivial
  | (u, w) :: r, hc, h => by
    refine ⟨?_, Sl.set ht hc.2 h.2⟩
    rw [fset_apply, if_neg]
    · exact h.1
    · rintro rfl
      rw [hc.1] at ht; cases ht

section
variable {P : Program} {Q : AQ} {N : Nat} {ds : List Deferred}

theorem awp_prune {c : Code} {f : Nat → Value} {σ : Heap} (s : List (Nat × Value)) (h : Sl f s) (k : ∀ f, Sl f s → AWP P c Q (AA N f ds) σ) : AWP P c Q (AA N f ds) σ := k f h

def Mid (Q : AQ) (N : Nat) (ds : List Deferred) {β : Type} (s : β → List (Nat × Value)) (H : β → Heap → Prop) : AQ
  | .normal, a, σ => ∃ f b, a = AA N f ds ∧ Sl f (s b) ∧ H b σ
  | e, a, σ => Q e a σ

/-- A meeting of ways. -/
theorem awp_meet {x y : Code} {a : Act} {σ : Heap} {β : Type} (s : β → List (Nat × Value)) (H : β → Heap → Prop) (h1 : AWP P x (Mid Q N ds s H) a σ)
    (h2 : ∀ f b σ, Sl f (s b) → H b σ → AWP P y Q (AA N f ds) σ) : AWP P (.seq x y) Q a σ := by
  refine awp_seq (h1.mono fun e a σ h => ?_)
  cases e with
  | normal => obtain ⟨f, b, rfl, h3, h4⟩ := h; exact h2 f b σ h3 h4
  | _ => exact h

theorem awp_if {c : Operand} {x y : Code} {a : Act} {σ : Heap} (t : Bool) (hc : aeval a c = some (.bool t)) (h1 : t = true → AWP P x Q a σ) (h2 : t = false → AWP P y Q a σ) : AWP P (.cond c x y) Q a σ := by
  cases t
  · exact awp_cond hc (h2 rfl)
  · exact awp_cond hc (h1 rfl)

theorem awp_yes {c : Operand} {x y : Code} {a : Act} {σ : Heap} (hc : aeval a c = some (.bool true)) (h : AWP P x Q a σ) : AWP P (.cond c x y) Q a σ := awp_cond hc h
theorem awp_no {c : Operand} {x y : Code} {a : Act} {σ : Heap} (hc : aeval a c = some (.bool false)) (h : AWP P y Q a σ) : AWP P (.cond c x y) Q a σ := awp_cond hc h

/-- A loop, by slots. -/
theorem awp_while {c : Code} {f : Nat → Value} {σ : Heap} {β : Type} (s : β → List (Nat × Value)) (H : β → Heap → Prop) (μ : β → Nat) (b₀ : β) (hs : Sl f (s b₀)) (hH : H b₀ σ)
    (round : ∀ b f σ, Sl f (s b) → H b σ → AWP P c (fun e a σ => match e with | .normal => ∃ f' b', a = AA N f' ds ∧ Sl f' (s b') ∧ H b' σ ∧ μ b' < μ b | e => Q e a σ) (AA N f ds) σ) :
    AWP P (.loop c) Q (AA N f ds) σ := by
  refine awp_loop (fun b a σ => ∃ f, a = AA N f ds ∧ Sl f (s b) ∧ H b σ) μ b₀ ⟨f, rfl, hs, hH⟩ ?_
  rintro b a σ ⟨f, rfl, h1, h2⟩
  refine (round b f σ h1 h2).mono fun e a σ h => ?_
  cases e with
  | normal => obtain ⟨f', b', h3, h4, h5, h6⟩ := h; exact ⟨b', ⟨f', h3, h4, h5⟩, h6⟩
  | _ => exact h

theorem wrap_id {x : Int} (h : -9223372036854775808 ≤ x) (h' : x ≤ 9223372036854775807) : IntKind.i64.wrap x = x := IntWalk.i64_in x ⟨h, h'⟩

end

def RangeI (N : Nat) (ds : List Deferred) (ti tn cnt : Nat) {β : Type} (s : Nat → β → List (Nat × Value)) (H : Nat → β → Heap → Prop) (x : Nat × β) (a : Act) (σ : Heap) : Prop :=
  ∃ f, a = AA N f ds ∧ x.1 ≤ cnt ∧ f ti = .int .i64 x.1 ∧ f tn = .int .i64 cnt ∧ Sl f (s x.1 x.2) ∧ H x.1 x.2 σ

/-- 'for i := range n': the loop that the translation makes of it. -/
theorem awp_range {E : Env} (hE : EnvOk E) {Q : AQ} {N : Nat} {ds : List Deferred} {B B2 r1 r2 : Nat} {body : Code} {tc ti tn tj T1 T1' T2' : Nat} {y1 y2 y3 : Nat} {p1 p2 p3 : String} {a1 a2 a3 : Array Edge} {f : Nat → Value} {σ : Heap}
    (cnt : Nat) {β : Type} (s : Nat → β → List (Nat × Value)) (H : Nat → β → Heap → Prop) (b₀ : β)
    (hN : tc < N ∧ ti < N ∧ tn < N ∧ tj < N) (hne : tc ≠ ti ∧ tc ≠ tn ∧ tj ≠ tn ∧ ti ≠ tn ∧ tj ≠ ti) (hcnt : (cnt : Int) ≤ 4611686018427387904)
    (hcl : ∀ i b, clean [tc, ti, tj] (s i b)) (hH : ∀ i b σ n, H i b σ → H i b (σ.bump n))
    (h0 : f ti = .int .i64 0) (hn : f tn = .int .i64 cnt) (hs : Sl f (s 0 b₀)) (hH0 : H 0 b₀ σ)
    (round : ∀ i b f σ, i < cnt → f ti = .int .i64 i → f tn = .int .i64 cnt → Sl f (s i b) → H i b σ → AWP E.P body (aBlock B2 fun e a σ => match e with
      | .normal => ∃ f' b', a = AA N f' ds ∧ f' ti = .int .i64 i ∧ f' tn = .int .i64 cnt ∧ Sl f' (s (i + 1) b') ∧ H (i + 1) b' σ
      | e => aBlock B Q e a σ) (AA N f ds) σ)
    (done : ∀ b f σ, f ti = .int .i64 cnt → Sl f (s cnt b) → H cnt b σ → Q .normal (AA N f ds) σ) :
    AWP E.P (.block B (.loop (.seq (.region r1 #[⟨some tc, .binOp .lss T1 (.tmp ti) (.tmp tn) T1', y1, p1, a1, none⟩] false) (.seq (.cond (.tmp tc) .skip (.exit B)) (.seq (.block B2 body)
      (.region r2 #[⟨some tj, .binOp .add T2' (.tmp ti) (.const (.int .i64 1)) T2', y2, p2, a2, none⟩, ⟨some ti, .move (.tmp tj), y3, p3, a3, none⟩] false)))))) Q (AA N f ds) σ := by
  obtain ⟨n1, n2, n3, n4⟩ := hN
  obtain ⟨e1, e2, e3, e4, e5⟩ := hne
  have hm1 : memN tc [tc, ti, tj] = true := by simp [memN]
  have hm2 : memN ti [tc, ti, tj] = true := by simp [memN, e1.symm]
  have hm3 : memN tj [tc, ti, tj] = true := by simp [memN]
  refine awp_block (awp_loop (β := Nat × β) (RangeI N ds ti tn cnt s H) (fun x => cnt - x.1) (0, b₀) ⟨f, rfl, Nat.zero_le _, h0, hn, hs, hH0⟩ ?_)
  rintro ⟨i, b⟩ a σ ⟨f, rfl, hi, f1, f2, f3, f4⟩
  simp only at hi f1 f3 f4
  refine awp_seq (awp_region_n hE fun K hK => ?_)
  simp only [push_cast, ↓cases2_t, ↓cases2_f, ↓obind_some, ↓cbind_true, ↓tbind_true, ↓tbind_false, Nat.reduceLT, Nat.reduceAdd, Nat.reduceMul, Nat.reduceSub, Nat.reduceEqDiff, Nat.reduceLeDiff, Nat.reduceBEq, reduceCtorEq, reduceIte, n1, n2, n3, n4, f1, f2]
  refine hK _ _ (awp_seq ?_)
  refine awp_if (decide ((i : Int) < cnt)) (by simp only [push_cast, ↓cases2_t, ↓cases2_f, ↓obind_some, ↓cbind_true, ↓tbind_true, ↓tbind_false, Nat.reduceLT, Nat.reduceAdd, Nat.reduceMul, Nat.reduceSub, Nat.reduceEqDiff, Nat.reduceLeDiff, Nat.reduceBEq, reduceCtorEq, reduceIte, n1]) (fun ht => awp_skip ?_) (fun ht => awp_exit ?_)
  · have hlt : i < cnt := by simpa using ht
    refine awp_seq (awp_block ((round i b _ _ hlt ?_ ?_ ?_ ?_).mono fun e a σ h => ?_))
    · simp only [fset_apply, if_neg e1.symm]; exact f1
    · simp only [fset_apply, if_neg e2.symm]; exact f2
    · exact Sl.set hm1 (hcl i b) f3
    · exact hH i b _ _ f4
    · have key : ∀ {e a σ}, (match e with
          | .normal => ∃ f' b', a = AA N f' ds ∧ f' ti = .int .i64 i ∧ f' tn = .int .i64 cnt ∧ Sl f' (s (i + 1) b') ∧ H (i + 1) b' σ
          | e => aBlock B Q e a σ) → aThen (AWP E.P (.region r2 #[⟨some tj, .binOp .add T2' (.tmp ti) (.const (.int .i64 1)) T2', y2, p2, a2, none⟩, ⟨some ti, .move (.tmp tj), y3, p3, a3, none⟩] false)
            (aThen (fun a' σ' => ∃ b' : Nat × β, RangeI N ds ti tn cnt s H b' a' σ' ∧ cnt - b'.1 < cnt - i) (aBlock B Q))) (aThen (fun a' σ' => ∃ b' : Nat × β, RangeI N ds ti tn cnt s H b' a' σ' ∧ cnt - b'.1 < cnt - i) (aBlock B Q)) e a σ := by
        intro e a σ h
        cases e with
        | normal =>
          obtain ⟨f', b', rfl, g1, g2, g3, g4⟩ := h
          refine awp_region_n hE fun K hK => ?_
          simp only [push_cast, ↓cases2_t, ↓cases2_f, ↓obind_some, ↓cbind_true, ↓tbind_true, ↓tbind_false, Nat.reduceLT, Nat.reduceAdd, Nat.reduceMul, Nat.reduceSub, Nat.reduceEqDiff, Nat.reduceLeDiff, Nat.reduceBEq, reduceCtorEq, reduceIte, n1, n2, n3, n4, g1, g2]
          refine hK _ _ ⟨(i + 1, b'), ⟨_, rfl, hlt, ?_, ?_, ?_, hH _ _ _ _ g4⟩, by simp only; omega⟩
          · simp only [fset_apply, if_true]
            rw [wrap_id (by omega) (by omega)]; rfl
          · simp only [fset_apply, if_neg e4.symm, if_neg e3.symm]; exact g2
          · exact Sl.set hm2 (hcl _ _) (Sl.set hm3 (hcl _ _) g3)
        | exit id => exact h
        | goto l => exact h
        | ret => exact h
        | panic c => exact h
        | outgrown => exact h
      cases e with
      | exit id =>
        simp only [aBlock] at h ⊢
        split at h
        · rename_i hid; rw [if_pos hid]; exact key h
        · rename_i hid; rw [if_neg hid]; exact key h
      | normal => exact key (e := .normal) h
      | goto l => exact key (e := .goto l) h
      | ret => exact key (e := .ret) h
      | panic c => exact key (e := .panic c) h
      | outgrown => exact key (e := .outgrown) h
  · have hge : ¬ (i < cnt) := by simpa using ht
    have : i = cnt := by omega
    subst this
    simp only [aThen, aBlock, if_true]
    refine done b _ _ ?_ (Sl.set hm1 (hcl _ _) f3) (hH _ _ _ _ f4)
    simp only [fset_apply, if_neg e1.symm]; exact f1

/-! ### Rows of structs -/

/-- Cells that are structs of k cells, one behind the other. -/
def Rows {α : Type} (k : Nat) (R : List Value → α → Prop) : List Value → List α → Prop
  | cs, [] => cs = []
  | cs, x :: xs => ∃ c d, cs = c ++ d ∧ c.length = k ∧ R c x ∧ Rows k R d xs

section
variable {α : Type} {k : Nat} {R : List Value → α → Prop}

theorem Rows.length : ∀ {xs : List α} {cs : List Value}, Rows k R cs xs → cs.length = xs.length * k
  | [], cs, h => by cases h; simp
  | x :: xs, cs, h => by
    obtain ⟨c, d, rfl, h1, _, h2⟩ := h
    rw [List.length_append, h1, Rows.length h2, List.length_cons, Nat.add_mul]; omega
theorem Rows.append : ∀ {xs ys : List α} {cs es : List Value}, Rows k R cs xs → Rows k R es ys → Rows k R (cs ++ es) (xs ++ ys)
  | [], ys, cs, es, h, h' => by cases h; exact h'
  | x :: xs, ys, cs, es, h, h' => by
    obtain ⟨c, d, rfl, h1, h2, h3⟩ := h
    exact ⟨c, d ++ es, by rw [List.append_assoc], h1, h2, Rows.append h3 h'⟩
theorem Rows.one {c : List Value} {x : α} (h : c.length = k) (hr : R c x) : Rows k R c [x] := ⟨c, [], by simp, h, hr, rfl⟩
theorem Rows.mono {R' : List Value → α → Prop} : ∀ {xs : List α} {cs : List Value}, (∀ c x, x ∈ xs → R c x → R' c x) → Rows k R cs xs → Rows k R' cs xs
  | [], cs, _, h => h
  | x :: xs, cs, hR, h => by
    obtain ⟨c, d, rfl, h1, h2, h3⟩ := h
    exact ⟨c, d, rfl, h1, hR _ _ (List.mem_cons_self ..) h2, Rows.mono (fun c x hx => hR c x (List.mem_cons_of_mem _ hx)) h3⟩
theorem Rows.get : ∀ {xs : List α} {cs : List Value} {i : Nat}, Rows k R cs xs → (hi : i < xs.length) → R ((cs.drop (i * k)).take k) xs[i]
  | [], _, _, _, hi => by simp at hi
  | x :: xs, cs, 0, h, _ => by
    obtain ⟨c, d, rfl, h1, h2, h3⟩ := h
    simp only [Nat.zero_mul, List.drop_zero, List.getElem_cons_zero]
    rw [← h1, List.take_left']
    · exact h2
    · rfl
  | x :: xs, cs, i + 1, h, hi => by
    obtain ⟨c, d, rfl, h1, h2, h3⟩ := h
    have := Rows.get (i := i) h3 (by simpa using hi)
    rw [List.getElem_cons_succ, Nat.add_mul, Nat.one_mul, Nat.add_comm, ← List.drop_drop, ← h1, List.drop_left']
    · rw [h1]; exact this
    · rfl
theorem Rows.drop : ∀ {xs : List α} {cs : List Value} (i : Nat), Rows k R cs xs → Rows k R (cs.drop (i * k)) (xs.drop i)
  | [], cs, i, h => by cases h; simp [Rows]
  | x :: xs, cs, 0, h => by simpa using h
  | x :: xs, cs, i + 1, h => by
    obtain ⟨c, d, rfl, h1, h2, h3⟩ := h
    rw [List.drop_succ_cons, Nat.add_mul, Nat.one_mul, Nat.add_comm, ← List.drop_drop, ← h1, List.drop_left' (by rfl), h1]
    exact Rows.drop i h3
theorem Rows.take : ∀ {xs : List α} {cs : List Value} (i : Nat), Rows k R cs xs → Rows k R (cs.take (i * k)) (xs.take i)
  | [], cs, i, h => by cases h; simp [Rows]
  | x :: xs, cs, 0, h => by simp [Rows]
  | x :: xs, cs, i + 1, h => by
    obtain ⟨c, d, rfl, h1, h2, h3⟩ := h
    rw [List.take_succ_cons]
    refine ⟨c, d.take (i * k), ?_, h1, h2, Rows.take i h3⟩
    rw [List.take_append, Nat.add_mul, Nat.one_mul, h1, List.take_of_length_le (by omega), Nat.add_sub_cancel]
end

theorem plainL_append {f : Value → Bool} : ∀ {l m : List Value}, plainL f l = true → plainL f m = true → plainL f (l ++ m) = true
  | [], m, _, h => h
  | x :: l, m, h, h' => by
    simp only [plainL, Bool.and_eq_true] at h
    simp only [List.cons_append, plainL, Bool.and_eq_true]
    exact ⟨h.1, plainL_append h.2 h'⟩


end Go.Proofs.YtehmailaabjdjaaGreat
