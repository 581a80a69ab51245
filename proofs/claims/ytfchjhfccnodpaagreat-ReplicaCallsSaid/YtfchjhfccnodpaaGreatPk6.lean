/-
  A long loop, reckoned piece by piece. No condition. / A function with one long loop, put together; keys that are sorted. No condition. / RANGING OVER A MAP, in the walk by rules: whatever entry the tape says. No condition. / A guard over all that begin with a key, where nothing is younger: it holds. No condition. / DERIVED: THE SHELF's CONTRACTS AT THIS DUMP, IN PLAIN WORDS (tools/lay-plain.mjs out of 'YtfchjhfccnodpaaGreatLay.lean', which tools/lay-shelf.mjs wrote): THE SAME DECLARATIONS UNDER THE SAME NAMES: 'import', 'namespace', 'open', 'def', 'theorem' AND NOTHING ELSE: no command of the shelf's: FOR A HAND-IN. Each laying: the table of numbers ('.._ren') and one theorem, a field a fact of the dump's own or the kernel's comparison; each contract: ONE APPLICATION. / slices.Sorted(maps.Keys(m)), said of abstract heaps: the keys in order, in a row of their own. No condition. / slices.Sorted(maps.Keys(m)) by what it does, for the second evaluator. No condition. / A closed call, from any heap. No condition.
-/
import Derived.Test.YtfchjhfccnodpaaGreatPk5
import Derived.Test.YtfchjhfccnodpaaGreatPk4
import Derived.MapKept
import Derived.Maps.RangeRun
import Derived.Shelf.SlIter.Nil
import Derived.Shelf.SortM.Plain
import Derived.Shelf.SortM.SortNone
import Derived.Ground.GgzProg
import Derived.Ground.SlgmProg
import Derived.Test.YtfchjhfccnodpaaGreatProg
import Derived.Sort.KeysCollected
import Derived.StringKeys
section
namespace Go.Proofs.YtfchjhfccnodpaaGreat
set_option linter.unusedSimpArgs false
set_option linter.unusedVariables false

section
variable {P : Program} {Q : AQ} {a : Act} {σ : Heap}

def AWPL (P : Program) (c : Code) (Q : AQ) (a : Act) (σ : Heap) : Prop :=
  ∀ ρ w ac, Rel ρ σ w → ARel ρ a ac → ∀ b k cs, ∃ e a' w', Fine ρ σ w (Q e) a' w' ∧ Arrives P (lone (b.at ac (.code c :: .inLoop c :: k)) cs w) b k cs e a' w'

theorem awpl_loop {c : Code} (h : AWPL P c Q a σ) : AWP P (.loop c) Q a σ := by
  intro ρ w ac hr ha b k cs
  obtain ⟨e, a', w', hq, harr⟩ := h ρ w ac hr ha b k cs
  exact ⟨e, a', w', hq, .of_steps (.one step_loop) harr⟩

theorem awpl_round {c : Code} (h : AWP P c (aThen (AWPL P c Q) Q) a σ) : AWPL P c Q a σ := by
  intro ρ w ac hr ha b k cs
  obtain ⟨e, a₁, w₁, hq, harr⟩ := h ρ w ac hr ha b (.inLoop c :: k) cs
  cases e with
  | normal =>
    obtain ⟨ρ', a', σ', k1, k2, k3, k4, k5⟩ := hq
    obtain ⟨e₂, a₂, w₂, hq₂, harr₂⟩ := k5 ρ' w₁ a₁ k1 k4 b k cs
    exact ⟨e₂, a₂, w₂, hq₂.trans k2 k3, .of_steps (Steps.trans harr (.one step_inLoop)) harr₂⟩
  | exit id => exact ⟨_, a₁, w₁, hq, .pass (x := .inLoop c) rfl (fun _ _ => .inl (by simp)) harr⟩
  | goto l => exact ⟨_, a₁, w₁, hq, .pass (x := .inLoop c) rfl (fun _ _ => .inl (by simp)) harr⟩
  | ret => exact ⟨_, a₁, w₁, hq, .pass (x := .inLoop c) rfl (fun _ _ => .inl (by simp)) harr⟩
  | panic ch => exact ⟨_, a₁, w₁, hq, .pass (x := .inLoop c) rfl (fun _ _ => .inl (by simp)) harr⟩
  | outgrown => exact ⟨_, a₁, w₁, hq, .pass (x := .inLoop c) rfl (fun _ _ => .inl (by simp)) harr⟩

def SubH (σ₀ σ : Heap) : Prop := σ₀.nxt = σ.nxt ∧ ∀ l o, σ₀.get l = some o → σ.get l = some o

theorem SubH.rel {ρ : LMap} {σ₀ σ : Heap} {w : World} (h : SubH σ₀ σ) (hr : Rel ρ σ w) : Rel ρ σ₀ w := rel_forget hr h.2 h.1

theorem Fine.forget {ρ : LMap} {σ₀ σ : Heap} {w w' : World} {K : Act → Heap → Prop} {ac' : Act} (h : SubH σ₀ σ) (hf : Fine ρ σ₀ w K ac' w') : Fine ρ σ w K ac' w' := by
  obtain ⟨ρ', a', σ', k1, k2, k3, k4, k5⟩ := hf
  have hocc : ∀ q b, Occ ρ σ₀ q b → Occ ρ σ q b := fun q b ⟨l, o, p, h1, h2, h3, h4⟩ => ⟨l, o, p, h.2 _ _ h1, h2, h3, h4⟩
  refine ⟨ρ', a', σ', k1, ⟨k2.le, k2.os, k2.tape, k2.output, k2.size, by rw [← h.1]; exact k2.nxt, fun b hb hn => k2.blk b hb fun ho => hn (hocc _ _ ho), fun q b hb ho => hocc q b (k2.own q b hb ho)⟩,
    ⟨fun l hl => k3.old l (by rw [h.1]; exact hl), fun l hl hg => k3.gone l (by rw [h.1]; exact hl) ?_⟩, k4, k5⟩
  cases hc : σ₀.get l with
  | none => rfl
  | some o => have := h.2 _ _ hc; rw [hg] at this; cases this

theorem AWPL.forget {c : Code} {σ₀ : Heap} (hs : SubH σ₀ σ) (h : AWPL P c Q a σ₀) : AWPL P c Q a σ := by
  intro ρ w ac hr ha b k cs
  obtain ⟨e, a', w', hq, harr⟩ := h ρ w ac (hs.rel hr) ha b k cs
  exact ⟨e, a', w', hq.forget hs, harr⟩

theorem AWP.forget {c : Code} {σ₀ : Heap} (hs : SubH σ₀ σ) (h : AWP P c Q a σ₀) : AWP P c Q a σ :=
  fun ρ w ac hr ha => wp_mono (h ρ w ac (hs.rel hr) ha) fun e _ _ hf => hf.forget hs
end

structure Stt where
  fr : List Value
  ents : Ent
  n : Nat

def Stt.act (S : Stt) : Act := ⟨⟨S.fr⟩, []⟩
def Stt.heap (S : Stt) : Heap := ⟨lk S.ents, S.n⟩

section
variable {d : Nat}
noncomputable def sttK (S : Stt) (k : KS d) : Bool := frEntry S.fr 0 (qrep undef d) fun fr => putsK S.ents h0 fun t => k fr [] t S.n

noncomputable def frEqB : Nat → List Value → FT d → Bool
  | _, [], _ => true
  | i, v :: r, fr => eqV 20 (pfun (ptN d i) fr) v && frEqB (i + 1) r fr
noncomputable def endB (N : Nat) (S : Stt) : KS d := fun fr ds t n => nilK ds (Nat.beq n S.n && Nat.beq S.fr.length N && frEqB 0 S.fr fr && S.ents.all fun x => eqO ((fHeap t 0).get x.1) (some x.2))

theorem frEqB_get {N : Nat} : ∀ {l : List Value} {i : Nat} {fr : FT d}, frEqB i l fr = true → ∀ j, j < l.length → pfun (ptN d (i + j)) fr = l.getD j undef
  | [], i, fr, _, j, hj => by simp at hj
  | v :: r, i, fr, h, 0, _ => by
    simp only [frEqB, Bool.and_eq_true] at h
    have := eqV_sound 20 _ _ h.1
    simpa using this
  | v :: r, i, fr, h, j + 1, hj => by
    simp only [frEqB, Bool.and_eq_true] at h
    have := frEqB_get (N := N) h.2 j (by simpa using hj)
    rw [show i + (j + 1) = i + 1 + j by omega, this]
    rfl

theorem sttK_true {N : Nat} {S : Stt} {k : KS d} (hd : N ≤ 4 ^ d) (hN : S.fr.length = N) (h : sttK S k = true) : ∃ fr t, k fr [] t S.n = true ∧ Rep N fr [] S.act ∧ fHeap t S.n = S.heap := by
  obtain ⟨fr, h, h2⟩ := frEntry_ok (N := N) hd S.fr 0 _ _ (by omega) h
  obtain ⟨t, h, ht⟩ := putsK_true h
  refine ⟨fr, t, h, ⟨hN, rfl, fun i hi => ?_⟩, ?_⟩
  · rw [h2 i hi, if_neg (by omega), if_pos (by omega)]
    simp [Stt.act, Array.getD_eq_getD_getElem?, List.getD_eq_getElem?_getD]
  · apply Heap.ext'
    · intro l
      rw [ht S.n l, h0_get]
      show _ = lk S.ents l
      cases lk S.ents l <;> rfl
    · rfl

theorem endB_true {N : Nat} {S : Stt} {fr : FT d} {ds : DS} {t : HT} {n : Nat} (h : endB N S fr ds t n = true) {a : Act} (hr : Rep N fr ds a) : S.fr.length = N ∧ a = S.act ∧ SubH S.heap (fHeap t n) := by
  obtain ⟨hds, h⟩ := nilK_true h
  simp only [Bool.and_eq_true, List.all_eq_true] at h
  obtain ⟨⟨⟨h1, h2⟩, h3⟩, h4⟩ := h
  have h1 : n = S.n := Nat.eq_of_beq_eq_true h1
  have h2 : S.fr.length = N := Nat.eq_of_beq_eq_true h2
  refine ⟨h2, ?_, h1.symm, fun l o hl => ?_⟩
  · obtain ⟨tm, df⟩ := a
    have e1 := hr.defers
    have e2 := hr.size
    simp only at e1 e2
    subst e1
    subst hds
    show Act.mk tm [] = ⟨⟨S.fr⟩, []⟩
    congr 1
    refine Array.ext (by simp; omega) fun i k1 k2 => ?_
    have g1 := hr.get i (by omega)
    have g2 := frEqB_get (N := N) h3 i (by simpa using k2)
    rw [Nat.zero_add] at g2
    rw [g2] at g1
    simp only [Array.getD_eq_getD_getElem?, List.getD_eq_getElem?_getD] at g1
    rw [Array.getElem?_eq_getElem k1, List.getElem?_eq_getElem (by simpa using k2)] at g1
    simpa using g1
  · have := eqO_sound (h4 (l, o) (lk_mem hl))
    rw [fHeap_get t n 0]
    exact this

noncomputable def roundsN (ix : Sc d) (E : Env) (cl : Cl) (k : KS d) (m : Nat) : KS d :=
  Nat.rec (motive := fun _ => KS d) k (fun _ ih fr ds t n => ix E cl fr ds t n fun x fr ds t n => FX.rec (motive := fun _ => Bool) (ih fr ds t n) (fun _ => false) false x) m
end

def Adv (E : Env) (c : Code) (S S' : Stt) : Prop := ∀ Q, AWPL E.P c Q S'.act S'.heap → AWPL E.P c Q S.act S.heap

theorem Adv.trans {E : Env} {c : Code} {S S' S'' : Stt} (h : Adv E c S S') (k : Adv E c S' S'') : Adv E c S S'' := fun Q hq => h Q (k Q hq)

noncomputable def pieceB (E : Env) (T : Tab) (cl : Cl) (f : FuncId) (d N : Nat) (c : Code) (m : Nat) (S S' : Stt) : Bool :=
  Nat.beq S.fr.length N && sttK S (roundsN (exC (cC E T f d N c)) E cl (endB N S') m)

section
variable {E : Env} {T : Tab} {cl : Cl} {d N : Nat} {f : FuncId}

theorem rounds_ok (hE : EnvOk E) (hm : E.P.follows .mixedOrders = true) (hd : N ≤ 4 ^ d) (hcl : ClIs (CA E) cl) {c : Code} (hc : codeOkB T f c = true) {k : KS d} : ∀ (m : Nat) (fr : FT d) (ds : DS) (t : HT) (n : Nat),
    roundsN (exC (cC E T f d N c)) E cl k m fr ds t n = true → ∃ fr' ds' t' n', k fr' ds' t' n' = true ∧
      ∀ Q, (∀ b, Rep N fr' ds' b → AWPL E.P c Q b (fHeap t' n')) → ∀ a, Rep N fr ds a → AWPL E.P c Q a (fHeap t n)
  | 0, fr, ds, t, n, h => ⟨fr, ds, t, n, h, fun Q hq => hq⟩
  | m + 1, fr, ds, t, n, h => by
    have h : exC (cC E T f d N c) E cl fr ds t n (fun x fr ds t n => FX.rec (motive := fun _ => Bool) (roundsN (exC (cC E T f d N c)) E cl k m fr ds t n) (fun _ => false) false x) = true := h
    obtain ⟨e, fr₁, ds₁, t₁, n₁, h1, h2⟩ := exC_ok hE hm hd hcl c hc fr ds t n _ h
    rcases fx_rec h1 with ⟨rfl, h1⟩ | ⟨i, rfl, h1⟩ | ⟨rfl, h1⟩
    · obtain ⟨fr₂, ds₂, t₂, n₂, h3, h4⟩ := rounds_ok hE hm hd hcl hc m fr₁ ds₁ t₁ n₁ h1
      refine ⟨fr₂, ds₂, t₂, n₂, h3, fun Q hq a hr => awpl_round ((h2 a hr).mono ?_)⟩
      rintro e' b τ ⟨rfl, hb, rfl⟩
      exact h4 Q hq b hb
    · cases h1
    · cases h1

theorem piece_ok (hE : EnvOk E) (hm : E.P.follows .mixedOrders = true) (hd : N ≤ 4 ^ d) (hcl : ClIs (CA E) cl) {c : Code} (hc : codeOkB T f c = true) {m : Nat} {S S' : Stt} (h : pieceB E T cl f d N c m S S' = true) : Adv E c S S' := by
  intro Q hq
  unfold pieceB at h
  rw [Bool.and_eq_true] at h
  have hN : S.fr.length = N := Nat.eq_of_beq_eq_true h.1
  obtain ⟨fr, t, h1, hr, ht⟩ := sttK_true hd hN h.2
  obtain ⟨fr', ds', t', n', h2, h3⟩ := rounds_ok hE hm hd hcl hc m _ _ _ _ h1
  have := h3 Q (fun b hb => by
    obtain ⟨_, e1, e2⟩ := endB_true h2 hb
    subst e1
    exact hq.forget e2) S.act hr
  rw [ht] at this
  exact this

theorem loopTo_in {c : Code} {x : FX} {fr' : FT d} {ds' : DS} {t' : HT} {n' : Nat} : ∀ (m : Nat) {fr : FT d} {ds : DS} {t : HT} {n : Nat}, LoopTo E d N c x fr' ds' t' n' m fr ds t n →
    ∀ a, Rep N fr ds a → AWPL E.P c (fun e b τ => e = x.ex' ∧ Rep N fr' ds' b ∧ τ = fHeap t' n') a (fHeap t n)
  | 0, fr, ds, t, n, h, _, _ => h.elim
  | m + 1, fr, ds, t, n, h, a, hr => by
    rcases h with ⟨fr₁, ds₁, t₁, n₁, h1, h2⟩ | ⟨hx, h1⟩
    · refine awpl_round ((h1 a hr).mono ?_)
      rintro e' b τ ⟨rfl, hb, rfl⟩
      exact loopTo_in m h2 b hb
    · refine awpl_round ((h1 a hr).mono ?_)
      rintro e' b τ ⟨rfl, hb, rfl⟩
      cases x with
      | nm => exact absurd rfl hx
      | ex i => exact ⟨rfl, hb, rfl⟩
      | rt => exact ⟨rfl, hb, rfl⟩

theorem loopN_to (hE : EnvOk E) (hm : E.P.follows .mixedOrders = true) (hd : N ≤ 4 ^ d) (hcl : ClIs (CA E) cl) {c : Code} (hc : codeOkB T f c = true) {k : KX d} : ∀ (m : Nat) (fr : FT d) (ds : DS) (t : HT) (n : Nat),
    loopN (exC (cC E T f d N c)) E cl k m fr ds t n = true → ∃ e fr' ds' t' n', k e fr' ds' t' n' = true ∧ LoopTo E d N c e fr' ds' t' n' m fr ds t n := by
  intro m
  induction m with
  | zero => intro fr ds t n h; cases h
  | succ m ih =>
    intro fr ds t n h
    have h : exC (cC E T f d N c) E cl fr ds t n (fun e fr ds t n => FX.rec (motive := fun _ => Bool) (loopN (exC (cC E T f d N c)) E cl k m fr ds t n) (fun i => k (.ex i) fr ds t n) (k .rt fr ds t n) e) = true := h
    obtain ⟨e, fr₁, ds₁, t₁, n₁, h1, h2⟩ := exC_ok hE hm hd hcl c hc fr ds t n _ h
    rcases fx_rec h1 with ⟨rfl, h1⟩ | ⟨i, rfl, h1⟩ | ⟨rfl, h1⟩
    · obtain ⟨e₂, fr₂, ds₂, t₂, n₂, h3, h4⟩ := ih fr₁ ds₁ t₁ n₁ h1
      exact ⟨e₂, fr₂, ds₂, t₂, n₂, h3, .inl ⟨fr₁, ds₁, t₁, n₁, h2, h4⟩⟩
    · exact ⟨.ex i, fr₁, ds₁, t₁, n₁, h1, .inr ⟨(fun h => nomatch h), h2⟩⟩
    · exact ⟨.rt, fr₁, ds₁, t₁, n₁, h1, .inr ⟨(fun h => nomatch h), h2⟩⟩

noncomputable def lastB (E : Env) (T : Tab) (cl : Cl) (f : FuncId) (d N : Nat) (c : Code) (m i : Nat) (S S' : Stt) : Bool :=
  Nat.beq S.fr.length N && sttK S (loopN (exC (cC E T f d N c)) E cl (fun x fr ds t n => FX.rec (motive := fun _ => Bool) false (fun j => Nat.beq j i && endB N S' fr ds t n) false x) m)

theorem last_ok (hE : EnvOk E) (hm : E.P.follows .mixedOrders = true) (hd : N ≤ 4 ^ d) (hcl : ClIs (CA E) cl) {c : Code} (hc : codeOkB T f c = true) {m i : Nat} {S S' : Stt} (h : lastB E T cl f d N c m i S S' = true) :
    ∃ τ', SubH S'.heap τ' ∧ AWPL E.P c (fun e b τ => e = .exit i ∧ b = S'.act ∧ τ = τ') S.act S.heap := by
  unfold lastB at h
  rw [Bool.and_eq_true] at h
  have hN : S.fr.length = N := Nat.eq_of_beq_eq_true h.1
  obtain ⟨fr, t, h1, hr, ht⟩ := sttK_true hd hN h.2
  obtain ⟨e, fr', ds', t', n', h2, h3⟩ := loopN_to hE hm hd hcl hc _ _ _ _ _ h1
  rcases fx_rec h2 with ⟨rfl, h2⟩ | ⟨j, rfl, h2⟩ | ⟨rfl, h2⟩
  · cases h2
  · rw [Bool.and_eq_true] at h2
    have hj : j = i := Nat.eq_of_beq_eq_true h2.1
    subst hj
    have h4 := loopTo_in _ h3 S.act hr
    rw [ht] at h4
    obtain ⟨b₀, hb₀⟩ := rep_ex (N := N) fr' ds'
    have hsub := (endB_true h2.2 hb₀).2.2
    refine ⟨fHeap t' n', hsub, ?_⟩
    intro ρ w ac hr ha b k cs
    obtain ⟨e, a', w', hq, harr⟩ := h4 ρ w ac hr ha b k cs
    exact ⟨e, a', w', hq.mono fun b τ ⟨q1, q2, q3⟩ => ⟨q1, (endB_true h2.2 q2).2.1, q3⟩, harr⟩
  · cases h2

noncomputable def seqsN (E : Env) (T : Tab) (cl : Cl) (f : FuncId) (d N : Nat) (k : KS d) : List Code → KS d
  | [], fr, ds, t, n => k fr ds t n
  | c :: r, fr, ds, t, n => exC (cC E T f d N c) E cl fr ds t n fun x fr ds t n => FX.rec (motive := fun _ => Bool) (seqsN E T cl f d N k r fr ds t n) (fun _ => false) false x

def AWPs (P : Program) (Q : AQ) : List Code → Act → Heap → Prop
  | [], a, σ => Q .normal a σ
  | c :: r, a, σ => AWP P c (aThen (AWPs P Q r) Q) a σ

theorem seqs_ok (hE : EnvOk E) (hm : E.P.follows .mixedOrders = true) (hd : N ≤ 4 ^ d) (hcl : ClIs (CA E) cl) {k : KS d} : ∀ (L : List Code), (∀ c ∈ L, codeOkB T f c = true) → ∀ (fr : FT d) (ds : DS) (t : HT) (n : Nat),
    seqsN E T cl f d N k L fr ds t n = true → ∃ fr' ds' t' n', k fr' ds' t' n' = true ∧
      ∀ Q : AQ, (∀ b, Rep N fr' ds' b → Q .normal b (fHeap t' n')) → ∀ a, Rep N fr ds a → AWPs E.P Q L a (fHeap t n)
  | [], _, fr, ds, t, n, h => ⟨fr, ds, t, n, h, fun Q hq => hq⟩
  | c :: r, hc, fr, ds, t, n, h => by
    have h : exC (cC E T f d N c) E cl fr ds t n (fun x fr ds t n => FX.rec (motive := fun _ => Bool) (seqsN E T cl f d N k r fr ds t n) (fun _ => false) false x) = true := h
    obtain ⟨e, fr₁, ds₁, t₁, n₁, h1, h2⟩ := exC_ok hE hm hd hcl c (hc c (List.mem_cons_self ..)) fr ds t n _ h
    rcases fx_rec h1 with ⟨rfl, h1⟩ | ⟨i, rfl, h1⟩ | ⟨rfl, h1⟩
    · obtain ⟨fr₂, ds₂, t₂, n₂, h3, h4⟩ := seqs_ok hE hm hd hcl r (fun c h => hc c (List.mem_cons_of_mem _ h)) fr₁ ds₁ t₁ n₁ h1
      refine ⟨fr₂, ds₂, t₂, n₂, h3, fun Q hq a hr => (h2 a hr).mono ?_⟩
      rintro e' b τ ⟨rfl, hb, rfl⟩
      exact h4 Q hq b hb
    · cases h1
    · cases h1

noncomputable def seqsB (E : Env) (T : Tab) (cl : Cl) (f : FuncId) (d N : Nat) (L : List Code) (S S' : Stt) : Bool :=
  Nat.beq S.fr.length N && sttK S (seqsN E T cl f d N (endB N S') L)

theorem seqsB_ok (hE : EnvOk E) (hm : E.P.follows .mixedOrders = true) (hd : N ≤ 4 ^ d) (hcl : ClIs (CA E) cl) {L : List Code} (hc : ∀ c ∈ L, codeOkB T f c = true) {S S' : Stt} (h : seqsB E T cl f d N L S S' = true) {Q : AQ}
    (hq : ∀ τ, SubH S'.heap τ → Q .normal S'.act τ) : AWPs E.P Q L S.act S.heap := by
  unfold seqsB at h
  rw [Bool.and_eq_true] at h
  have hN : S.fr.length = N := Nat.eq_of_beq_eq_true h.1
  obtain ⟨fr, t, h1, hr, ht⟩ := sttK_true hd hN h.2
  obtain ⟨fr', ds', t', n', h2, h3⟩ := seqs_ok hE hm hd hcl L hc _ _ _ _ h1
  have := h3 Q (fun b hb => by
    obtain ⟨_, e1, e2⟩ := endB_true h2 hb
    subst e1
    exact hq _ e2) S.act hr
  rw [ht] at this
  exact this

noncomputable def bodyB (E : Env) (T : Tab) (cl : Cl) (f : FuncId) (d N : Nat) (c : Code) (rs : List (QR d)) (S : Stt) (v : Value) (post : Ent) (n1 : Nat) : Bool :=
  Nat.beq S.fr.length N && sttK S fun fr ds t n => exC (cC E T f d N c) E cl fr ds t n fun x fr ds t n => FX.rec (motive := fun _ => Bool)
    (nilK ds (resK fr t rs fun vs => oneK vs fun u => eqV 20 u v && Nat.beq n n1 && post.all fun x => eqO ((fHeap t 0).get x.1) (some x.2))) (fun _ => false)
    (nilK ds (resK fr t rs fun vs => oneK vs fun u => eqV 20 u v && Nat.beq n n1 && post.all fun x => eqO ((fHeap t 0).get x.1) (some x.2))) x

theorem body_ok (hE : EnvOk E) (hm : E.P.follows .mixedOrders = true) (hd : N ≤ 4 ^ d) (hcl : ClIs (CA E) cl) {c : Code} (hc : codeOkB T f c = true) {fn : Func} {rs : List (QR d)} (hrs : cRs E d N fn.results.toList = some rs)
    {S : Stt} {v : Value} {post : Ent} {n1 : Nat} (h : bodyB E T cl f d N c rs S v post n1 = true) :
    AWP E.P c (aBodyE E fn fun u τ => u = v ∧ τ.nxt = n1 ∧ ∀ l o, lk post l = some o → τ.get l = some o) S.act S.heap := by
  unfold bodyB at h
  rw [Bool.and_eq_true] at h
  have hN : S.fr.length = N := Nat.eq_of_beq_eq_true h.1
  obtain ⟨fr, t, h1, hr, ht⟩ := sttK_true hd hN h.2
  obtain ⟨e, fr', ds', t', n', h2, h3⟩ := exC_ok hE hm hd hcl c hc _ _ _ _ _ h1
  have h3 := h3 S.act hr
  rw [ht] at h3
  have fin : nilK ds' (resK fr' t' rs fun vs => oneK vs fun u => eqV 20 u v && Nat.beq n' n1 && post.all fun x => eqO ((fHeap t' 0).get x.1) (some x.2)) = true → ∀ b, Rep N fr' ds' b →
      (∀ d ∈ b.defers, ∀ g cap, d.target = .fn (.func g) cap → E.B g = true) ∧ aLeaves E.P fn b (fun u τ => u = v ∧ τ.nxt = n1 ∧ ∀ l o, lk post l = some o → τ.get l = some o) b.defers (fHeap t' n') := by
    intro h b hb
    obtain ⟨hds, h⟩ := nilK_true h
    subst hds
    rw [hb.defers]
    obtain ⟨vs, k1, k2⟩ := resK_true (n := n') hb hrs h
    have k2 := oneK_true k2
    simp only [Bool.and_eq_true, List.all_eq_true] at k2
    obtain ⟨⟨q1, q2⟩, q3⟩ := k2
    refine ⟨fun d hd => (by cases hd), aOne vs, by unfold aRes; rw [k1]; rfl, eqV_sound 20 _ _ q1, Nat.eq_of_beq_eq_true q2, fun l o hl => ?_⟩
    have := eqO_sound (q3 (l, o) (lk_mem hl))
    rw [fHeap_get t' n' 0]
    exact this
  rcases fx_rec h2 with ⟨rfl, h2⟩ | ⟨j, rfl, h2⟩ | ⟨rfl, h2⟩
  · refine h3.mono ?_
    rintro e b τ ⟨rfl, hb, rfl⟩
    exact fin h2 b hb
  · cases h2
  · refine h3.mono ?_
    rintro e b τ ⟨rfl, hb, rfl⟩
    exact fin h2 b hb
end

end Go.Proofs.YtfchjhfccnodpaaGreat
end

section
namespace Go.Proofs.YtfchjhfccnodpaaGreat
set_option linter.unusedSimpArgs false
set_option linter.unusedVariables false

structure LParts where
  A : Code
  B : Code
  C : Code
  i : Nat
  c : Code
  D : Code

def LParts.code (p : LParts) : Code := .seq p.A (.seq p.B (.seq (.seq p.C (.block p.i (.loop p.c))) p.D))

def loopParts : Code → Option LParts
  | .seq A (.seq B (.seq (.seq C (.block i (.loop c))) D)) => some ⟨A, B, C, i, c, D⟩
  | _ => none

theorem loopParts_eq {c : Code} {p : LParts} (h : loopParts c = some p) : c = p.code := by
  unfold loopParts at h
  split at h
  · cases h; rfl
  · cases h

def partsO (P : Program) (f : FuncId) : Option LParts := ((P.funcs[f]?).bind (·.body)).bind loopParts
def parts (P : Program) (f : FuncId) : LParts := (partsO P f).getD ⟨.skip, .skip, .skip, 0, .skip, .skip⟩
def resOf (P : Program) (f : FuncId) : List ResultVar := ((P.funcs[f]?).map (·.results.toList)).getD []
noncomputable def resK' (E : Env) (f : FuncId) (d N : Nat) : List (QR d) := (cRs E d N (resOf E.P f)).getD []

theorem parts_ok {P : Program} {f : FuncId} (h : (partsO P f).isSome = true) : ∃ fn, P.funcs[f]? = some fn ∧ fn.body = some (parts P f).code := by
  obtain ⟨p, hp⟩ := Option.isSome_iff_exists.1 h
  have hp' := hp
  unfold partsO at hp'
  rw [Option.bind_eq_some_iff] at hp'
  obtain ⟨c, h1, h2⟩ := hp'
  rw [Option.bind_eq_some_iff] at h1
  obtain ⟨fn, h3, h4⟩ := h1
  refine ⟨fn, h3, ?_⟩
  have : parts P f = p := by unfold parts; rw [hp]; rfl
  rw [this, ← loopParts_eq h2]
  exact h4

theorem awps_shape {P : Program} {p : LParts} {Q : AQ} {a : Act} {σ : Heap} (h : AWPs P (fun e => match e with | .normal => fun a σ => AWP P (.block p.i (.loop p.c)) (aThen (AWP P p.D Q) Q) a σ | e => Q e) [p.A, p.B, p.C] a σ) : AWP P p.code Q a σ := by
  have hq : ∀ (K K' : Act → Heap → Prop) (e : Exit) (a : Act) (σ : Heap), (∀ a σ, K a σ → K' a σ) →
      aThen K (fun e => match e with | .normal => fun a σ => AWP P (.block p.i (.loop p.c)) (aThen (AWP P p.D Q) Q) a σ | e => Q e) e a σ → aThen K' Q e a σ := by
    intro K K' e a σ hK h
    cases e with
    | normal => exact hK _ _ h
    | _ => exact h
  refine awp_seq (AWP.mono h fun e a σ => hq _ _ e a σ fun a σ h => ?_)
  refine awp_seq (AWP.mono h fun e a σ => hq _ _ e a σ fun a σ h => ?_)
  refine awp_seq (awp_seq (AWP.mono h fun e a σ he => ?_))
  cases e with
  | normal =>
    refine AWP.mono (show AWP P (.block p.i (.loop p.c)) (aThen (AWP P p.D Q) Q) a σ from he) fun e a σ h => ?_
    cases e with
    | normal => exact h
    | _ => exact h
  | _ => exact he

section
variable {E : Env} {T : Tab} {cl : Cl}

theorem memo_loop (hE : EnvOk E) (hA : AllOk E T) (hm : E.P.follows .mixedOrders = true) (hcl : ClIs (CA E) cl) {m : Memo} {d N k : Nat} (hd : N ≤ 4 ^ d) (hp : (partsO E.P m.f).isSome = true)
    (hN : ((E.P.funcs[m.f]?).map (·.ntmps)) = some N) (hr : (cRs E d N (resOf E.P m.f)).isSome = true) {S₁ S₂ S₃ : Stt}
    (h1 : seqsB E T cl m.f d N [(parts E.P m.f).A, (parts E.P m.f).B, (parts E.P m.f).C] ⟨m.args.toList ++ List.replicate (N - m.args.toList.length) undef, m.pre, m.n0⟩ S₁ = true)
    (h2 : Adv E (parts E.P m.f).c S₁ S₂) (h3 : lastB E T cl m.f d N (parts E.P m.f).c k (parts E.P m.f).i S₂ S₃ = true)
    (h4 : bodyB E T cl m.f d N (parts E.P m.f).D (resK' E m.f d N) S₃ m.val m.post m.n1 = true) : m.Ok E := by
  obtain ⟨fn, hf, hb⟩ := parts_ok hp
  have hco := hA m.f fn _ hf hb
  generalize hpp : parts E.P m.f = p at *
  simp only [LParts.code, codeOkB, Bool.and_eq_true] at hco
  obtain ⟨c1, c2, ⟨c3, c4⟩, c5⟩ := hco
  have hNf : fn.ntmps = N := by rw [hf] at hN; simpa using hN
  have hrs : cRs E d N fn.results.toList = some (resK' E m.f d N) := by
    have e : resOf E.P m.f = fn.results.toList := by unfold resOf; rw [hf]; rfl
    obtain ⟨x, hx⟩ := Option.isSome_iff_exists.1 hr
    unfold resK'
    rw [hx, ← e, hx]; rfl
  have hent : aEntry fn m.args = Stt.act ⟨m.args.toList ++ List.replicate (N - m.args.toList.length) undef, m.pre, m.n0⟩ := by
    unfold aEntry Stt.act
    rw [hNf]
    congr 1
    apply Array.ext'
    simp
  refine acallD hE hf hb ?_
  rw [hent]
  have hheap : (⟨lk m.pre, m.n0⟩ : Heap) = Stt.heap ⟨m.args.toList ++ List.replicate (N - m.args.toList.length) undef, m.pre, m.n0⟩ := rfl
  rw [hheap]
  refine awps_shape (seqsB_ok hE hm hd hcl (fun c hc => ?_) h1 fun τ hsub => ?_)
  · simp only [List.mem_cons, List.not_mem_nil, or_false] at hc
    rcases hc with rfl | rfl | rfl
    · exact c1
    · exact c2
    · exact c3
  · obtain ⟨τ', hs', hl⟩ := last_ok hE hm hd hcl c4 h3
    refine AWP.forget hsub (awp_block (awpl_loop (h2 _ ?_)))
    intro ρ w ac hrel ha b k cs
    obtain ⟨e, a', w', hq, harr⟩ := hl ρ w ac hrel ha b k cs
    refine ⟨e, a', w', hq.mono fun b τ ⟨e1, e2, e3⟩ => ?_, harr⟩
    subst e1 e2 e3
    simp only [aBlock, if_true]
    exact AWP.forget hs' (body_ok hE hm hd hcl c5 hrs h4)
end

noncomputable def bL (l : List Nat) : List Value := List.rec [] (fun n _ ih => .int .u8 (.ofNat n) :: ih) l
noncomputable def B (l : List Nat) : AObj := .cells (bL l) 1 false

def leL : List UInt8 → List UInt8 → Bool
  | [], _ => true
  | _ :: _, [] => false
  | a :: xs, b :: bs => Nat.blt a.toNat b.toNat || (Nat.beq a.toNat b.toNat && leL xs bs)
def insL (x : List UInt8) : List (List UInt8) → List (List UInt8)
  | [] => [x]
  | y :: r => if leL x y then x :: y :: r else y :: insL x r
def sortL : List (List UInt8) → List (List UInt8)
  | [] => []
  | x :: r => insL x (sortL r)
def keyL : Value → Option (List UInt8)
  | .string s => some s.data.toList
  | _ => none
def keysL : List MapEntry → Option (List (List UInt8))
  | [] => some []
  | e :: r => match keyL e.key, keysL r with
    | some k, some ks => some (k :: ks)
    | _, _ => none
def stampB (clock : Nat) : Nat → List MapEntry → Bool
  | _, [] => true
  | b, e :: r => Nat.ble b e.born && Nat.blt e.born clock && stampB clock (e.born + 1) r
def eqU : List UInt8 → List UInt8 → Bool
  | [], [] => true
  | a :: xs, b :: bs => Nat.beq a.toNat b.toNat && eqU xs bs
  | _, _ => false
def memU (k : List UInt8) : List (List UInt8) → Bool
  | [] => false
  | x :: r => eqU k x || memU k r
def nodU : List (List UInt8) → Bool
  | [] => true
  | x :: r => !memU x r && nodU r
def strLq (k : List UInt8) : Value := .string ⟨⟨k⟩⟩

noncomputable def sortedK (f g : FuncId) : CK := fun f' vs t n k z => Bool.rec z
  (match vs with
    | [.func (.func g') ⟨[]⟩ ⟨[.pointer (some ⟨r, 0, none⟩)]⟩] => Bool.rec z
      (match (fHeap t 0).get r with
        | some (.cells [.map (some m)] 0 _) => match (fHeap t 0).get m with
          | some (.map es clock) => match keysL es with
            | some ks => Bool.rec z
              (match ks with
                | [] => k (.slice none 0 0) t n
                | _ :: _ => hset n (some (.cells ((sortL ks).map strLq) 1 false)) t fun t => natK (Nat.succ n) fun n' => natK ks.length fun m => k (.slice (some ⟨n, 0, none⟩) m m) t n')
              (stampB clock 0 es && nodU ks && ks.all (fun x => Nat.ble x.length 65536) && Nat.ble ks.length 65536)
            | none => z
          | _ => z
        | _ => z) (Nat.beq g g')
    | _ => z) (Nat.beq f f')

end Go.Proofs.YtfchjhfccnodpaaGreat
end

section
open Go.Proofs
namespace Go.Proofs.YtfchjhfccnodpaaGreat
open Go.MapKept
open Go.ChangeMaps (setBlock)
set_option linter.unusedSimpArgs false
set_option linter.unusedVariables false
set_option maxRecDepth 100000

section
variable {P : Program} {nm : Nat} {a : Act} {σ : Heap} {K : Act → Heap → Prop} {d : Tmp} {ty : TypeId} {pos : String} {af : Array Edge} {gd : Option (Nat × Bool)} {x : Operand}

theorem nd_range {t kt et : TypeId} {m : Nat} {es : List MapEntry} {clock : Nat} (hu : P.underlying t = some (.map kt et)) (hx : aeval a x = some (.map (some m))) (hm : σ.get m = some (.map es clock))
    (hk : K (a.put (some d) (.pointer (some ⟨nm, 0, none⟩))) (σ.upd nm (some (.mapIter (some m) clock [] clock)))) : NdStep P nm ⟨some d, .range t x, ty, pos, af, gd⟩ a σ K := by
  intro ρ w evc hev hrel hnm hlt
  have hv := hev _ _ hx
  generalize hy : evc x = y at hv
  cases hv with
  | map hpl =>
    rename_i pl
    obtain ⟨es', hh, hes⟩ := map_of hrel hm hpl
    have hle := LMap.le_set (l := nm) (⟨w.heap.size, 0, 0, 0, 0⟩ : Pl) hnm
    obtain ⟨h1, h2⟩ := step_push (w' := w.alloc (.mapIter (some pl.blk) clock #[] clock)) hrel hnm hlt (.mapIter (some pl.blk) clock #[] clock) (.mapIter (some m) clock [] clock) ⟨w.heap.size, 0, 0, 0, 0⟩ rfl ⟨rfl, rfl, rfl⟩ rfl
      ⟨rfl, some pl.blk, heap_alloc_new _ _, .map (hle _ _ hpl)⟩
    have hrun : (execOp evc ⟨some d, .range t x, ty, pos, af, gd⟩).run P w = .ok (.value (.pointer (some ⟨w.heap.size, 0, none⟩))) (w.alloc (.mapIter (some pl.blk) clock #[] clock)) := by
      show (do pure (Next.value (← Instr.range t (evc x))) : Sem Next).run P w = _
      rw [hy, Sem.run_bind, run_range_map w t kt et pl.blk es' clock hu hh]
      rfl
    exact ⟨⟨.pointer (some ⟨nm, 0, none⟩), none, some (.mapIter (some m) clock [] clock)⟩, ⟨_, _, _, _, hrun, rfl, h1, h2, .ptr (o := 0) (p := ⟨w.heap.size, 0, 0, 0, 0⟩) (LMap.set_same _ _ _), fun l hl => LMap.set_ne _ _ hl⟩, fun l hl hn => by
      show (σ.upd nm _).get l = none
      rw [Heap.upd_ne _ _ hl]; exact hn, hk⟩

theorem iter_of {ρ : LMap} {w : World} {l : Nat} {mo : Option Nat} {since stepped : Nat} {seen : List Nat} {p : Pl} (hrel : Rel ρ σ w) (hl : σ.get l = some (.mapIter mo since seen stepped)) (hp : ρ l = some p) : p.off = 0 ∧ ∃ m', w.heap[p.blk]? = some (.mapIter m' since seen.toArray stepped) ∧ VRel ρ (.map mo) (.map m') := by
  obtain ⟨q, hq, hr⟩ := hrel.dom l _ hl
  rw [hp] at hq; cases hq
  exact hr

theorem nd_next {r m since stepped clock : Nat} {seen : List Nat} {es : List MapEntry} (hx : aeval a x = some (.pointer (some ⟨r, 0, none⟩))) (hr : σ.get r = some (.mapIter (some m) since seen stepped)) (hm : σ.get m = some (.map es clock))
    (hold : ∀ e ∈ es, e.born < since) (hsc : since ≤ stepped)
    (hno : (∀ e ∈ es, e.born ∈ seen) → K (a.put (some d) (.tuple #[.bool false])) σ)
    (hyes : ∀ e ∈ es, e.born ∉ seen → K (a.put (some d) (.tuple #[.bool true, e.key, e.val])) (σ.upd r (some (.mapIter (some m) since (seen ++ [e.born]) clock)))) : NdStep P nm ⟨some d, .next x false, ty, pos, af, gd⟩ a σ K := by
  intro ρ w evc hev hrel hnm hlt
  have hv := hev _ _ hx
  generalize hy : evc x = y at hv
  cases hv with
  | ptr hpl =>
    rename_i pl
    obtain ⟨h0, m', h1, h2⟩ := iter_of hrel hr hpl
    cases h2 with
    | map hpm =>
      rename_i pm
      obtain ⟨es', hh, hes⟩ := map_of hrel hm hpm
      have back : ∀ e' ∈ es'.toList, ∃ e ∈ es, ERel ρ e e' := by
        intro e' he'
        obtain ⟨i, hi, rfl⟩ := List.mem_iff_getElem.1 he'
        have hi2 : i < es.length := by rw [hes.1]; simpa using hi
        exact ⟨es[i], List.getElem_mem _, hes.2 i _ _ (List.getElem?_eq_getElem hi2) (by rw [Array.getElem?_eq_getElem (by simpa using hi)]; simp)⟩
      have hold' : ∀ y ∈ es'.toList, y.born < since := fun y hy => by
        obtain ⟨e, he, _, _, _, hb⟩ := back y hy
        rw [hb]; exact hold e he
      have hs : ∀ (nx : Next) (w' : World) (v : Value), (Instr.next (.pointer (some ⟨pl.blk, 0, none⟩)) false ty).run P w = .ok v w' → (execOp evc ⟨some d, .next x false, ty, pos, af, gd⟩).run P w = .ok (.value v) w' := by
        intro nx w' v hv
        show (do pure (Next.value (← Instr.next (evc x) false ty)) : Sem Next).run P w = _
        rw [hy, h0, Sem.run_bind, hv]
        rfl
      rcases run_next_at (P := P) w ty pl.blk pm.blk since stepped seen.toArray es' clock h1 hh hold' hsc with ⟨q1, q2⟩ | ⟨e', he', w1, hw1, q2⟩
      · refine ⟨⟨.tuple #[.bool false], none, none⟩, ⟨_, _, _, _, hs .skip _ _ q2, rfl, hrel, Frm.refl _ _ _, plainV_rel ρ rfl, fun _ _ => rfl⟩, fun l _ hn => hn, hno fun e he => ?_⟩
        obtain ⟨i, hi, rfl⟩ := List.mem_iff_getElem.1 he
        have hi2 : i < es'.size := by rw [← hes.1]; exact hi
        obtain ⟨_, _, _, hb⟩ := hes.2 i _ _ (List.getElem?_eq_getElem hi) (Array.getElem?_eq_getElem hi2)
        by_cases hc : es[i].born ∈ seen
        · exact hc
        · exfalso
          have : es'[i] ∈ (leftOf es' seen.toArray).toList := by
            simp only [leftOf, Array.toList_filter, List.mem_filter]
            refine ⟨by simp, ?_⟩
            rw [hb]; simpa using hc
          have h3 : (leftOf es' seen.toArray).toList = [] := List.eq_nil_of_length_eq_zero (by simpa using q1)
          rw [h3] at this
          cases this
      · have hl : e' ∈ es'.toList ∧ e'.born ∉ seen := by
          simp only [leftOf, Array.toList_filter, List.mem_filter] at he'
          exact ⟨he'.1, by simpa using he'.2⟩
        obtain ⟨e, he, k1, k2, k3, k4⟩ := back e' hl.1
        have hrel1 : Rel ρ σ w1 := by rcases hw1 with rfl | rfl <;> first | exact hrel | exact ⟨hrel.dom, hrel.excl, hrel.bnd⟩
        have hfrm1 : Frm ρ σ w ρ σ w1 := by rcases hw1 with rfl | rfl <;> exact ⟨ρ.le_refl, rfl, rfl, rfl, Nat.le_refl _, Nat.le_refl _, fun _ _ _ => rfl, fun _ _ _ h => h⟩
        have hh1 : w1.heap = w.heap := by rcases hw1 with rfl | rfl <;> rfl
        have hlt' := (hrel1.bnd _ _ hpl).2
        obtain ⟨s1, s2⟩ := step_write (w' := setBlock w1 pl.blk (.mapIter (some pm.blk) since (seen.toArray.push e'.born) clock)) hrel1 hr rfl hpl ⟨rfl, rfl, rfl⟩ (by simp [setBlock]) (fun b hb => by simp only [setBlock, Array.getElem?_setIfInBounds]; rw [if_neg (fun e => hb e.symm)]) (o := .mapIter (some m) since (seen ++ [e.born]) clock) rfl
          ⟨h0, some pm.blk, by simp only [setBlock]; rw [k4]; simp [hlt'], .map hpm⟩
        refine ⟨⟨.tuple #[.bool true, e.key, e.val], some (r, some (.mapIter (some m) since (seen ++ [e.born]) clock)), none⟩, ⟨_, _, _, _, hs .skip _ _ q2, rfl, s1, hfrm1.trans s2, ?_, fun _ _ => rfl⟩, fun l hl hn => ?_, hyes e he (by rw [← k4]; exact hl.2)⟩
        · refine VlRel.toArray (a := [.bool true, e.key, e.val]) (a' := [.bool true, e'.key, e'.val]) (.cons (.bool _) (.cons (by rw [k1]; exact plainV_rel ρ k2) (.cons k3 (.nil _)))) |> fun h => .tuple h.1 h.2
        · show (σ.upd r _).get l = none
          by_cases e2 : l = r
          · subst e2; rw [hr] at hn; cases hn
          · rw [Heap.upd_ne _ _ e2]; exact hn

theorem nd_entry {r m since clock : Nat} {seen : List Nat} {es : List MapEntry} {e : MapEntry} (hx : aeval a x = some (.pointer (some ⟨r, 0, none⟩))) (hr : σ.get r = some (.mapIter (some m) since (seen ++ [e.born]) clock)) (hm : σ.get m = some (.map es clock))
    (he : e ∈ es) (hnd : (es.map (·.born)).Nodup) (hk : K (a.put (some d) (.tuple #[e.key, e.val])) σ) : NdStep P nm ⟨some d, .entry x, ty, pos, af, gd⟩ a σ K := by
  intro ρ w evc hev hrel hnm hlt
  have hv := hev _ _ hx
  generalize hy : evc x = y at hv
  cases hv with
  | ptr hpl =>
    rename_i pl
    obtain ⟨h0, m', h1, h2⟩ := iter_of hrel hr hpl
    cases h2 with
    | map hpm =>
      rename_i pm
      obtain ⟨es', hh, hes⟩ := map_of hrel hm hpm
      obtain ⟨i, hi, rfl⟩ := List.mem_iff_getElem.1 he
      have hi2 : i < es'.size := by rw [← hes.1]; exact hi
      obtain ⟨k1, k2, k3, k4⟩ := hes.2 i _ _ (List.getElem?_eq_getElem hi) (Array.getElem?_eq_getElem hi2)
      have hb : es'.toList.map (·.born) = es.map (·.born) := by
        apply List.ext_getElem?
        intro j
        simp only [List.getElem?_map]
        rcases Nat.lt_or_ge j es.length with hj | hj
        · have h3 : es'[j]? = some (es'[j]'(by rw [← hes.1]; exact hj)) := Array.getElem?_eq_getElem _
          rw [Array.getElem?_toList, List.getElem?_eq_getElem hj, h3]
          simp [(hes.2 j _ _ (List.getElem?_eq_getElem hj) h3).2.2.2]
        · rw [List.getElem?_eq_none hj, List.getElem?_eq_none (by rw [Array.length_toList, ← hes.1]; exact hj)]
      have hrun := run_entry_at (P := P) w pl.blk pm.blk since seen.toArray es' clock es'[i] (by rw [h1, k4]; simp) hh (by simp) (by rw [hb]; exact hnd)
      have hs : (execOp evc ⟨some d, .entry x, ty, pos, af, gd⟩).run P w = .ok (.value (.tuple #[es'[i].key, es'[i].val])) w := by
        show (do pure (Next.value (← Instr.entry (evc x))) : Sem Next).run P w = _
        rw [hy, h0, Sem.run_bind, hrun]
        rfl
      exact ⟨⟨.tuple #[es[i].key, es[i].val], none, none⟩, ⟨_, _, _, _, hs, rfl, hrel, Frm.refl _ _ _, (VlRel.toArray (a := [es[i].key, es[i].val]) (a' := [es'[i].key, es'[i].val]) (.cons (by rw [k1]; exact plainV_rel ρ k2) (.cons k3 (.nil _)))) |> fun h => .tuple h.1 h.2, fun _ _ => rfl⟩, fun l _ hn => hn, hk⟩
end


section
variable {X : Cx} {k : List Fm} {f : Nat → Value} {s : Sls} {g : Gm} {m j m₀ j₀ i q : Nat} {ops : Array Oper} {os : List Oper} {d : Tmp} {ty : TypeId} {pos : String} {af : Array Edge} {x : Operand}

theorem n_nd {op : Op} (hq : j₀ + i = q) (ha : aop E6 (aeval (Fr X.N f s)) ⟨some d, op, ty, pos, af, none⟩ = none)
    (h : NdStep E6.P (m₀ + q) ⟨some d, op, ty, pos, af, none⟩ (Fr X.N f s) ⟨g, m + j⟩ fun a σ => ∃ s' g', a = Fr X.N f s' ∧ σ = ⟨g', m + j⟩ ∧ RN X k ops m₀ j₀ (i + 1) os f s' g' m j) :
    RN X k ops m₀ j₀ i (⟨some d, op, ty, pos, af, none⟩ :: os) f s g m j := by
  subst hq
  refine ⟨fun hops => ?_⟩
  rw [List.length_cons, List.range'_succ]
  have ho := rn_here hops
  simp only [runL, ho, Region.wanted, if_true, ha]
  rw [← Nat.add_assoc] at h
  refine h.mono fun a σ hh => ?_
  obtain ⟨s', g', rfl, rfl, hR⟩ := hh
  exact hR.out (rn_rest hops)

theorem n_range {t kt et : TypeId} {mm : Nat} {es : List MapEntry} {clock : Nat} (hq : j₀ + i = q) (hu : E6.P.underlying t = some (.map kt et)) (hx : ov X.N s x = some (.map (some mm))) (hm : g mm = some (.map es clock))
    (h : RN X k ops m₀ j₀ (i + 1) os f ((d, .pointer (some ⟨m₀ + q, 0, none⟩)) :: s) (gset g (m₀ + q) (.mapIter (some mm) clock [] clock)) m j) : RN X k ops m₀ j₀ i (⟨some d, .range t x, ty, pos, af, none⟩ :: os) f s g m j :=
  n_nd hq rfl (nd_range hu (ov_ok hx) hm ⟨_, _, Fr_put _ _ _ _ _, rfl, h⟩)

theorem n_next {r mm since stepped clock : Nat} {seen : List Nat} {es : List MapEntry} (hq : j₀ + i = q) (hx : ov X.N s x = some (.pointer (some ⟨r, 0, none⟩))) (hr : g r = some (.mapIter (some mm) since seen stepped)) (hm : g mm = some (.map es clock))
    (hold : ∀ e ∈ es, e.born < since) (hsc : since ≤ stepped)
    (hno : (∀ e ∈ es, e.born ∈ seen) → RN X k ops m₀ j₀ (i + 1) os f ((d, .tuple #[.bool false]) :: s) g m j)
    (hyes : ∀ e ∈ es, e.born ∉ seen → RN X k ops m₀ j₀ (i + 1) os f ((d, .tuple #[.bool true, e.key, e.val]) :: s) (gset g r (.mapIter (some mm) since (seen ++ [e.born]) clock)) m j) : RN X k ops m₀ j₀ i (⟨some d, .next x false, ty, pos, af, none⟩ :: os) f s g m j :=
  n_nd hq rfl (nd_next (ov_ok hx) hr hm hold hsc (fun h => ⟨_, _, Fr_put _ _ _ _ _, rfl, hno h⟩) fun e he hn => ⟨_, _, Fr_put _ _ _ _ _, rfl, hyes e he hn⟩)

theorem n_entry {r mm since clock : Nat} {seen : List Nat} {es : List MapEntry} {e : MapEntry} (hq : j₀ + i = q) (hx : ov X.N s x = some (.pointer (some ⟨r, 0, none⟩))) (hr : g r = some (.mapIter (some mm) since (seen ++ [e.born]) clock)) (hm : g mm = some (.map es clock))
    (he : e ∈ es) (hnd : (es.map (·.born)).Nodup) (h : RN X k ops m₀ j₀ (i + 1) os f ((d, .tuple #[e.key, e.val]) :: s) g m j) : RN X k ops m₀ j₀ i (⟨some d, .entry x, ty, pos, af, none⟩ :: os) f s g m j :=
  n_nd hq rfl (nd_entry (ov_ok hx) hr hm he hnd ⟨_, _, Fr_put _ _ _ _ _, rfl, h⟩)
end

end Go.Proofs.YtfchjhfccnodpaaGreat
end

section
open Go.Proofs
open Go.MapKept
namespace Go.Proofs.YtfchjhfccnodpaaGreat
set_option linter.unusedSimpArgs false
set_option linter.unusedVariables false
set_option maxRecDepth 100000

def toCome (es : List MapEntry) (seen : List Nat) : Nat := (es.filter fun e => !seen.contains e.born).length
theorem toCome_lt {es : List MapEntry} {seen : List Nat} {e : MapEntry} (he : e ∈ es) (hs : e.born ∉ seen) : toCome es (seen ++ [e.born]) < toCome es seen := by
  unfold toCome
  have h1 : (es.filter fun y => !(seen ++ [e.born]).contains y.born) = (es.filter fun y => !seen.contains y.born).filter fun y => decide (y.born ≠ e.born) := by
    rw [List.filter_filter]
    apply List.filter_congr
    intro y _
    simp [Bool.and_comm]
  rw [h1]
  refine Nat.lt_of_le_of_ne (List.length_filter_le _ _) fun h2 => ?_
  have h3 := List.length_filter_eq_length_iff.1 h2 e (by simp [he, hs])
  simp at h3

theorem holdsAll_c {g : Gm} {n s m2 clock : Nat} {a0 a1 a3 a4 a5 : Value} {ro : Bool} {es : List MapEntry} {k : List UInt8} {rev : Int}
    (hc : g s = some (.cells [a0, a1, .map (some m2), a3, a4, a5] 0 ro)) (hm : g m2 = some (.map es clock)) (hst : Stamped es.toArray clock)
    (hes : ∀ e ∈ es, ∃ (q : List UInt8) (v : Int), e.key = .string (str q) ∧ e.val = .int .i64 v ∧ v ≤ rev) :
    C 390 #[.pointer (some ⟨s, 0, none⟩), .agg [.string (str k), .int .i64 rev, .bool true].toArray] g n fun u g' n' => u = .bool true ∧ K0 g n g' := by
  refine c_in2 Tryz.func390 rfl Tryz.ntmps390 rfl fun hw => ?_
  have hsn := hw _ _ hc
  refine Na (w_reg 2 rfl rfl (j' := 2) (n_op .no (q := 0) rfl (s_boxa rfl (nA rfl (n_nil (Nc (Na (Na (w_reg 3 rfl rfl (j' := 5) (nO (s_fa0 rfl fo_172_2 (nO (sL rfl ag_4 ?_)))))))))))))
  refine nO (s_not rfl (n_nil (Nc (w_no rfl (rfl) ?_))))
  have hmn := hw _ _ hm
  refine Ne (Nc (Na (Na (w_reg 5 rfl rfl (j' := 10) (nM rfl (nN rfl (nO (s_fa0 rfl fo_125_2 (nO (sL rfl ag_117 ?_))))))))))
  refine n_range (q := 9) rfl un_117 rfl (by repeat first | exact gS | exact hm | refine gN (by omega) ?_) (n_nil ?_)
  repeat first | refine Na ?_ | refine Nb ?_ | refine Nc ?_ | refine Nd ?_ | refine Ne ?_
  refine w_loop (β := List Nat) (fun _ => [(3, .pointer (some ⟨n, 0, none⟩)), (25, .pointer (some ⟨n + 9, 0, none⟩))])
    (fun seen g' n' => n + 10 ≤ n' ∧ K0 g n g' ∧ g' n = some (.cells [.string (str k), .int .i64 rev, .bool true] 0 false) ∧ g' (n + 9) = some (.mapIter (some m2) clock seen clock)) (toCome es) [] ⟨rfl, rfl, trivial⟩ ⟨by omega, (by repeat (first | exact Kp.refl _ _ _ | refine Kp.new ?_ (by omega) _)), (by repeat first | exact gS | refine gN (by omega) ?_), gs_same _ _ _⟩ ?_
  rintro seen f gL nL hwL ⟨hnL, kL, cL, iL⟩
  have mL := kL.at0 hw hm
  have hmL := hwL _ _ mL
  have hm9 : m2 ≠ n + 9 := by omega
  repeat first | refine Na ?_ | refine Nb ?_ | refine Nc ?_ | refine Nd ?_ | refine Ne ?_
  refine w_reg 2 rfl rfl (j' := 2) (n_next (q := 0) rfl rfl iL mL (fun e he => hst.1 e (by simpa using he)) (Nat.le_refl _) (fun hno => ?_) (fun e he hns => ?_))
  · refine nO (s_ext rfl rfl (n_nil (Nc (Na (w_no rfl (rfl) ?_)))))
    refine w_exit rfl ?_
    repeat first | refine Na ?_ | refine Nb ?_ | refine Nc ?_ | refine Nd ?_ | refine Ne ?_
    refine w_reg 1 rfl rfl (j' := 3) (nA rfl (n_nil (Nc (Nf (z_r1 rfl rfl ?_)))))
    exact ⟨rfl, kL⟩
  · have hlt2 := toCome_lt he hns
    obtain ⟨q, v, e1, e2, hv⟩ := hes e he
    obtain ⟨ek, ev, eb⟩ := e
    simp only at e1 e2
    subst e1 e2
    have kI : K0 g n (gset gL (n + 9) (.mapIter (some m2) clock (seen ++ [eb]) clock)) := Kp.new kL (by omega) _
    refine nO (s_ext rfl rfl (n_nil (Nc (Na (w_yes rfl (rfl) (Ne (Nc (Nb (Na (w_reg 5 rfl rfl (j' := 7) (n_entry (q := 2) rfl (e := ⟨.string (str q), .int .i64 v, eb⟩) rfl (gs_same _ _ _) ((gs_ne hm9 _).trans mL) he hst.2.1 (nO (s_ext rfl rfl (nO (s_ext rfl rfl (nA rfl (nA rfl (n_nil (Nc (Na (w_reg 10 rfl rfl (j' := 17) (nM rfl (nO (s_fa0 rfl fo_172_1 (nO (sL rfl ag_2 ?_))))))))))))))))))))))))))
    refine nO (s_bin rfl rfl rfl (nM rfl (nSk rfl rfl (decide_eq_false (Int.not_lt.2 hv)) rfl 3 rfl (nO (s_pf rfl (decide_eq_false (Int.not_lt.2 hv)) rfl (n_nil (Nc (w_no rfl (rfl) ?_))))))))
    repeat first | refine Na ?_ | refine Nb ?_ | refine Nc ?_ | refine Nd ?_ | refine Ne ?_
    exact z_round (seen ++ [eb]) ⟨rfl, rfl, trivial⟩ ⟨by omega, kI, (gs_ne (by omega) _).trans cL, gs_same _ _ _⟩ hlt2

theorem VRel.back {ρ ρ' : LMap} (hle : ρ.le ρ') {v v₀ : Value} (h : VRel ρ v v₀) : ∀ {v' : Value}, VRel ρ' v v' → VRel ρ v v' := by
  have same : ∀ {l : Nat} {p q : Pl}, ρ l = some p → ρ' l = some q → q = p := fun h1 h2 => by
    rw [hle _ _ h1] at h2; exact (Option.some.inj h2).symm
  induction h with
  | bool b => intro v' h; cases h; exact .bool b
  | int k n => intro v' h; cases h; exact .int k n
  | float k b => intro v' h; cases h; exact .float k b
  | string s => intro v' h; cases h; exact .string s
  | ptrNil => intro v' h; cases h; exact .ptrNil
  | ptr hl => intro v' h; cases h with | ptr hl' => rw [same hl hl']; exact .ptr hl
  | sliceNil n c => intro v' h; cases h; exact .sliceNil n c
  | slice hl hc =>
    intro v' h
    cases h with
    | slice hl' hc' => have e := same hl hl'; subst e; exact .slice hl hc'
    | slice0 hl' => have e := same hl hl'; subst e; exact .slice0 hl
  | slice0 hl =>
    intro v' h
    cases h with
    | slice hl' hc' => have e := same hl hl'; subst e; exact .slice hl hc'
    | slice0 hl' => have e := same hl hl'; subst e; exact .slice0 hl
  | sliceE => intro v' h; cases h; exact .sliceE
  | mapNil => intro v' h; cases h; exact .mapNil
  | map hl => intro v' h; cases h with | map hl' => rw [same hl hl']; exact .map hl
  | @func f a b a' b' hs ht hr hq ia ib =>
    intro v' h
    cases h with
    | func hs' ht' hr' hq' =>
      have el : ∀ {a a' : Array Value} {i : Nat} {x : Value}, a.size = a'.size → a[i]? = some x → ∃ y, a'[i]? = some y := fun hs hi => by
        have hlt := (Array.getElem?_eq_some_iff.1 hi).1
        exact ⟨_, Array.getElem?_eq_getElem (hs ▸ hlt)⟩
      exact .func hs' ht' (fun i x x' h1 h2 => let ⟨y, hy⟩ := el hs h1; ia i x y h1 hy (hr' i x x' h1 h2)) (fun i x x' h1 h2 => let ⟨y, hy⟩ := el ht h1; ib i x y h1 hy (hq' i x x' h1 h2))
  | nilFunc => intro v' h; cases h; exact .nilFunc
  | nilIface => intro v' h; cases h; exact .nilIface
  | @agg a a' hs hr ih =>
    intro v' h
    cases h with
    | agg hs' hr' =>
      refine .agg hs' fun i x x' h1 h2 => ?_
      have hlt := (Array.getElem?_eq_some_iff.1 h1).1
      exact ih i x _ h1 (Array.getElem?_eq_getElem (hs ▸ hlt)) (hr' i x x' h1 h2)
  | @tuple a a' hs hr ih =>
    intro v' h
    cases h with
    | tuple hs' hr' =>
      refine .tuple hs' fun i x x' h1 h2 => ?_
      have hlt := (Array.getElem?_eq_some_iff.1 h1).1
      exact ih i x _ h1 (Array.getElem?_eq_getElem (hs ▸ hlt)) (hr' i x x' h1 h2)

theorem Real.back {ρ ρ' : LMap} (hle : ρ.le ρ') {p : Pl} {w w' : World} {o : AObj} (h : Real ρ p w o) (h' : Real ρ' p w' o) : Real ρ p w' o := by
  cases o with
  | cells c sz ro =>
    obtain ⟨_, _, C, T, fz, _, k3, _⟩ := h
    obtain ⟨h1, h0, C', T', fz', h2, h3, h4⟩ := h'
    refine ⟨h1, h0, C', T', fz', h2, fun i v hi => ?_, h4⟩
    obtain ⟨v₀, _, e⟩ := k3 i v hi
    obtain ⟨v', q1, q2⟩ := h3 i v hi
    exact ⟨v', q1, e.back hle q2⟩
  | map es k =>
    obtain ⟨es₀, _, k2⟩ := h
    obtain ⟨es', h1, h2⟩ := h'
    refine ⟨es', h1, h2.1, fun i e e' hi hi' => ?_⟩
    obtain ⟨q1, q2, q3, q4⟩ := h2.2 i e e' hi hi'
    obtain ⟨e₀, g1, _, _, g3, _⟩ := k2.get hi
    exact ⟨q1, q2, g3.back hle q3, q4⟩
  | mapIter m a b c =>
    obtain ⟨h0, m₀, _, k2⟩ := h
    obtain ⟨_, m', h1, h2⟩ := h'
    exact ⟨h0, m', h1, k2.back hle h2⟩

theorem acall_still {P : Program} {f : FuncId} {args : Array Value} {σ : Heap} {c : Value} (hc : plainV c = true) (h : ACall P f args σ fun v τ => v = c ∧ ∀ l o, σ.get l = some o → τ.get l = some o) :
    ACall P f args σ fun v τ => v = c ∧ τ = σ := by
  intro ρ w args' hrel hargs
  refine (h ρ w args' hrel hargs).mono ?_
  rintro e w' ⟨v, v', ρ', σ', he, hR, hF, hN, hv, rfl, hk⟩
  have hv' := plainV_eq hc hv
  subst hv'
  refine ⟨v', v', ρ, σ, he, ⟨fun l o hl => ?_, hrel.excl, fun l p hp => ⟨(hrel.bnd l p hp).1, Nat.lt_of_lt_of_le (hrel.bnd l p hp).2 hF.size⟩⟩,
    ⟨ρ.le_refl, hF.os, hF.tape, hF.output, hF.size, Nat.le_refl _, hF.blk, fun _ _ _ h => h⟩, Fin.refl _ _, plainV_rel ρ hc, rfl, rfl⟩
  obtain ⟨p, hp, hre0⟩ := hrel.dom l o hl
  obtain ⟨q, hq, hre⟩ := hR.dom l o (hk l o hl)
  have hpq : p = q := by
    have := hF.le _ _ hp
    rw [this] at hq; exact Option.some.inj hq
  subst hpq
  exact ⟨p, hp, hre0.back hF.le hre⟩

end Go.Proofs.YtfchjhfccnodpaaGreat
end

section
namespace Go.Proofs
open Go.Shelf
def Tryz.keys73_ren : Go.Shelf.Ren := ⟨fun | 7 => 73 | 10 => 142 | n => n, fun | 23 => 116 | 26 => 9 | 3 => 130 | 28 => 143 | 0 => 0 | 27 => 142 | 33 => 110 | 4 => 4 | n => n, fun | n => n⟩
theorem Tryz.keys73 : Go.Proofs.SlLaysZ.n7 Tryz.prog Tryz.keys73_ren := {
  mixed := by kernel_rfl
  f7 := ⟨Tryz.f73.name, by decide, Tryz.func73.trans (congrArg some (by kernel_rfl))⟩
  f10 := ⟨Tryz.f142.name, by decide, Tryz.func142.trans (congrArg some (by kernel_rfl))⟩
  t0 := Tryz.underlying0
  a0 := Tryz.isAgg0
  z0 := Tryz.sizeOf0
  v0 := Tryz.zeroValue0
  t4 := Tryz.underlying4
  a4 := Tryz.isAgg4
  z4 := Tryz.sizeOf4
  v4 := Tryz.zeroValue4
  t23 := Tryz.underlying116
  a23 := Tryz.isAgg116
  z23 := Tryz.sizeOf116
  v23 := Tryz.zeroValue116
  t26 := Tryz.underlying9
  a26 := Tryz.isAgg9
  z26 := Tryz.sizeOf9
  v26 := Tryz.zeroValue9
  t27 := Tryz.underlying142
  a27 := Tryz.isAgg142
  z27 := Tryz.sizeOf142
  v27 := Tryz.zeroValue142
  t28 := Tryz.underlying143
  a28 := Tryz.isAgg143
  z28 := Tryz.sizeOf143
  v28 := Tryz.zeroValue143
  t33 := Tryz.underlying110
  a33 := Tryz.isAgg110
  z33 := Tryz.sizeOf110
  v33 := Tryz.zeroValue110 }
def Tryz.sorted72_ren : Go.Shelf.Ren := ⟨fun | 6 => 72 | 8 => 140 | 9 => 141 | 11 => 250 | 13 => 136 | 12 => 251 | 23 => 239 | 24 => 240 | 14 => 335 | 15 => 336 | 16 => 337 | 17 => 338 | 18 => 339 | 19 => 340 | 20 => 341 | 21 => 342 | 22 => 343 | 25 => 396 | 26 => 328 | 27 => 329 | 28 => 397 | 29 => 398 | 30 => 399 | 31 => 428 | n => n, fun | 26 => 9 | 28 => 143 | 24 => 51 | 0 => 0 | 3 => 3 | 37 => 79 | 48 => 266 | 50 => 275 | 4 => 4 | 40 => 353 | 39 => 352 | 45 => 357 | 5 => 5 | 9 => 9 | 51 => 424 | 55 => 428 | 57 => 473 | 58 => 474 | 33 => 110 | n => n, fun | n => n⟩
theorem Tryz.sorted72 : Go.Proofs.SlLaysZ.n6 Tryz.prog Tryz.sorted72_ren := {
  mixed := by kernel_rfl
  f6 := ⟨Tryz.f72.name, by decide, Tryz.func72.trans (congrArg some (by kernel_rfl))⟩
  f8 := ⟨Tryz.f140.name, by decide, Tryz.func140.trans (congrArg some (by kernel_rfl))⟩
  f11 := ⟨Tryz.f250.name, by decide, Tryz.func250.trans (congrArg some (by kernel_rfl))⟩
  t0 := Tryz.underlying0
  a0 := Tryz.isAgg0
  z0 := Tryz.sizeOf0
  v0 := Tryz.zeroValue0
  t24 := Tryz.underlying51
  a24 := Tryz.isAgg51
  z24 := Tryz.sizeOf51
  v24 := Tryz.zeroValue51
  t26 := Tryz.underlying9
  a26 := Tryz.isAgg9
  z26 := Tryz.sizeOf9
  v26 := Tryz.zeroValue9
  t28 := Tryz.underlying143
  a28 := Tryz.isAgg143
  z28 := Tryz.sizeOf143
  v28 := Tryz.zeroValue143
  i26 := by kernel_rfl }
def Tryz.sort141_ren : Go.Shelf.Ren := ⟨fun | 6 => 141 | 8 => 136 | 9 => 251 | 19 => 239 | 20 => 240 | 21 => 335 | 22 => 336 | 23 => 337 | 24 => 338 | 25 => 339 | 26 => 340 | 27 => 341 | 28 => 342 | 29 => 343 | 36 => 396 | 31 => 328 | 32 => 329 | 37 => 397 | 38 => 398 | 39 => 399 | 41 => 428 | n => n, fun | 27 => 51 | 29 => 9 | 3 => 3 | 32 => 79 | 26 => 51 | 0 => 0 | 44 => 266 | 46 => 275 | 4 => 4 | 36 => 353 | 35 => 352 | 41 => 357 | 5 => 5 | 9 => 9 | 53 => 424 | 57 => 428 | 63 => 473 | 64 => 474 | n => n, fun | n => n⟩
theorem Tryz.sort141 : Go.Proofs.SlLaysM.n6 Tryz.prog Tryz.sort141_ren := {
  mixed := by kernel_rfl
  f6 := ⟨Tryz.f141.name, by decide, Tryz.func141.trans (congrArg some (by kernel_rfl))⟩
  f8 := Tryz.func136.trans (congrArg some (by kernel_rfl))
  f9 := ⟨Tryz.f251.name, by decide, Tryz.func251.trans (congrArg some (by kernel_rfl))⟩
  f19 := Tryz.func239.trans (congrArg some (by kernel_rfl))
  f20 := Tryz.func240.trans (congrArg some (by kernel_rfl))
  f21 := ⟨Tryz.f335.name, by decide, Tryz.func335.trans (congrArg some (by kernel_rfl))⟩
  f22 := ⟨Tryz.f336.name, by decide, Tryz.func336.trans (congrArg some (by kernel_rfl))⟩
  f23 := ⟨Tryz.f337.name, by decide, Tryz.func337.trans (congrArg some (by kernel_rfl))⟩
  f24 := ⟨Tryz.f338.name, by decide, Tryz.func338.trans (congrArg some (by kernel_rfl))⟩
  f25 := ⟨Tryz.f339.name, by decide, Tryz.func339.trans (congrArg some (by kernel_rfl))⟩
  f26 := ⟨Tryz.f340.name, by decide, Tryz.func340.trans (congrArg some (by kernel_rfl))⟩
  f27 := ⟨Tryz.f341.name, by decide, Tryz.func341.trans (congrArg some (by kernel_rfl))⟩
  f28 := ⟨Tryz.f342.name, by decide, Tryz.func342.trans (congrArg some (by kernel_rfl))⟩
  f29 := ⟨Tryz.f343.name, by decide, Tryz.func343.trans (congrArg some (by kernel_rfl))⟩
  f31 := Tryz.func328.trans (congrArg some (by kernel_rfl))
  f32 := Tryz.func329.trans (congrArg some (by kernel_rfl))
  f36 := ⟨Tryz.f396.name, by decide, Tryz.func396.trans (congrArg some (by kernel_rfl))⟩
  f37 := ⟨Tryz.f397.name, by decide, Tryz.func397.trans (congrArg some (by kernel_rfl))⟩
  f38 := ⟨Tryz.f398.name, by decide, Tryz.func398.trans (congrArg some (by kernel_rfl))⟩
  f39 := ⟨Tryz.f399.name, by decide, Tryz.func399.trans (congrArg some (by kernel_rfl))⟩
  f41 := ⟨Tryz.f428.name, by decide, Tryz.func428.trans (congrArg some (by kernel_rfl))⟩
  t0 := Tryz.underlying0
  a0 := Tryz.isAgg0
  z0 := Tryz.sizeOf0
  v0 := Tryz.zeroValue0
  t3 := Tryz.underlying3
  a3 := Tryz.isAgg3
  z3 := Tryz.sizeOf3
  v3 := Tryz.zeroValue3
  t4 := Tryz.underlying4
  a4 := Tryz.isAgg4
  z4 := Tryz.sizeOf4
  v4 := Tryz.zeroValue4
  t5 := Tryz.underlying5
  a5 := Tryz.isAgg5
  z5 := Tryz.sizeOf5
  v5 := Tryz.zeroValue5
  t9 := Tryz.underlying9
  a9 := Tryz.isAgg9
  z9 := Tryz.sizeOf9
  v9 := Tryz.zeroValue9
  t26 := Tryz.underlying51
  a26 := Tryz.isAgg51
  z26 := Tryz.sizeOf51
  v26 := Tryz.zeroValue51
  t27 := Tryz.underlying51
  a27 := Tryz.isAgg51
  z27 := Tryz.sizeOf51
  v27 := Tryz.zeroValue51
  t29 := Tryz.underlying9
  a29 := Tryz.isAgg9
  z29 := Tryz.sizeOf9
  v29 := Tryz.zeroValue9
  t32 := Tryz.underlying79
  a32 := Tryz.isAgg79
  z32 := Tryz.sizeOf79
  v32 := Tryz.zeroValue79
  t35 := Tryz.underlying352
  a35 := Tryz.isAgg352
  z35 := Tryz.sizeOf352
  v35 := Tryz.zeroValue352
  t36 := Tryz.underlying353
  a36 := Tryz.isAgg353
  z36 := Tryz.sizeOf353
  v36 := Tryz.zeroValue353
  t41 := Tryz.underlying357
  a41 := Tryz.isAgg357
  z41 := Tryz.sizeOf357
  v41 := Tryz.zeroValue357
  t44 := Tryz.underlying266
  a44 := Tryz.isAgg266
  z44 := Tryz.sizeOf266
  v44 := Tryz.zeroValue266
  t46 := Tryz.underlying275
  a46 := Tryz.isAgg275
  z46 := Tryz.sizeOf275
  v46 := Tryz.zeroValue275
  t53 := Tryz.underlying424
  a53 := Tryz.isAgg424
  z53 := Tryz.sizeOf424
  v53 := Tryz.zeroValue424
  t57 := Tryz.underlying428
  a57 := Tryz.isAgg428
  z57 := Tryz.sizeOf428
  v57 := Tryz.zeroValue428
  t63 := Tryz.underlying473
  a63 := Tryz.isAgg473
  z63 := Tryz.sizeOf473
  v63 := Tryz.zeroValue473
  t64 := Tryz.underlying474
  a64 := Tryz.isAgg474
  z64 := Tryz.sizeOf474
  v64 := Tryz.zeroValue474 }
end Go.Proofs
end

section
open Go.Proofs
namespace Go.Proofs.YtfchjhfccnodpaaGreat
open Go.RowKit Go.Maps Go.Sort Go.Shelf Go.ChangeMaps Go.MapKept
set_option linter.unusedSimpArgs false
set_option linter.unusedVariables false
set_option maxRecDepth 100000

theorem sorts72 (m : Nat) : AnyZ.SortsIn Tryz.prog Tryz.sorted72_ren Fence.wide m :=
  ⟨fun blk off cap ss W hH hblk hsz => callsIn_wide.2 (AnyM.slices_Sort_string Tryz.sort141 blk off cap ss W hH hblk hsz),
   fun p cap W => callsIn_wide.2 (AnyM.slices_Sort_string_none Tryz.sort141 p cap W)⟩

theorem sorted_keys {H : Type} (q b nn : Nat) (D0 : DataW H) (R : Value → Option (DataW H × List MemPlace)) (w : World) (hq : w.cell? ⟨q, 0, none⟩ = some (.map (some b))) (hqs : q < w.heap.size) (hown : w.ownsMap Tryz.prog 9 R b nn D0) (hmax : Maps.size D0 ≤ maxLen) (hbytes : Maps.size D0 * 16 ≤ 140737488355328) :
    Calls Tryz.prog 72 #[.func (.func 142) #[] #[.pointer (some ⟨q, 0, none⟩)]] w fun e w' => ∃ (v : Value) (ss : List (List UInt8)), e = .returned v ∧ ss.Perm (strKeys D0) ∧
      w'.ownsRow w.heap.size 9 1 v ss.length ((ss.mergeSort (fun x y => decide (x ≤ y))).map encStr) ∧ (v = .slice none 0 0 ↔ ss = []) ∧ Below w.heap.size w w' := by
  have hseq : SeqGives Fence.wide 2 Tryz.prog 142 #[.pointer (some ⟨q, 0, none⟩)] encStr (fun ss => ss.Perm (strKeys D0)) (Maps.size D0) w :=
    AnyZ.keys_gives (ρ := Tryz.keys73_ren) { Tryz.keys73 with } Fence.wide _ trivial rfl (by omega) q b nn D0 w hqs hq hown
  exact (callsIn_wide (n := 5)).1 (AnyZ.sorted_in Tryz.sorted72 Fence.wide 5 trivial trivial trivial trivial rfl (by omega) (sorts72 _) (enters_of Tryz.func141 (by kernel_rfl) rfl) 142 #[.pointer (some ⟨q, 0, none⟩)] trivial (enters_of Tryz.func142 (by kernel_rfl) rfl) _ _ hmax hbytes _ hseq)

def sortK (ks : List (List UInt8)) : List (List UInt8) := ks.mergeSort leB
def strV1 (k : List UInt8) : Value := .string (str k)

def SrtRes (ks : List (List UInt8)) (σ : Heap) (u : Value) (τ : Heap) : Prop :=
  (ks = [] ∧ u = .slice none 0 0 ∧ τ = σ) ∨
  (ks ≠ [] ∧ u = .slice (some ⟨σ.nxt, 0, none⟩) ks.length ks.length ∧ τ = ⟨gset σ.get σ.nxt (.cells ((sortK ks).map strV1) 1 false), σ.nxt + 1⟩)

theorem same_below {ρ : LMap} {σ : Heap} {w w' : World} (h : Rel ρ σ w) (hb : Below w.heap.size w w') : Rel ρ σ w' ∧ Frm ρ σ w ρ σ w' :=
  ⟨⟨fun l o hl => let ⟨p, hp, hr⟩ := h.dom l o hl; ⟨p, hp, hr.mono ρ.le_refl (hb.block _ (h.bnd l p hp).2)⟩, h.excl, fun l p hl => let ⟨a, b⟩ := h.bnd l p hl; ⟨a, Nat.lt_of_lt_of_le b hb.size⟩⟩,
   ⟨ρ.le_refl, hb.os, hb.tape, hb.output, hb.size, Nat.le_refl _, fun b hb' _ => hb.block b hb', fun _ _ _ x => x⟩⟩

theorem claim_new {ρ : LMap} {σ : Heap} {w w' : World} (h : Rel ρ σ w) (hb : Below w.heap.size w w') (o : AObj) (p : Pl) (hp : w.heap.size ≤ p.blk) (hp2 : p.blk < w'.heap.size) (hre : Real (ρ.set σ.nxt p) p w' o) :
    Rel (ρ.set σ.nxt p) ⟨gset σ.get σ.nxt o, σ.nxt + 1⟩ w' ∧ Frm ρ σ w (ρ.set σ.nxt p) ⟨gset σ.get σ.nxt o, σ.nxt + 1⟩ w' ∧ Fin ρ σ (ρ.set σ.nxt p) ⟨gset σ.get σ.nxt o, σ.nxt + 1⟩ := by
  have hn : ρ σ.nxt = none := by
    cases hq : ρ σ.nxt with
    | none => rfl
    | some q => exact absurd (h.bnd _ _ hq).1 (Nat.lt_irrefl _)
  have hle := LMap.le_set (l := σ.nxt) p hn
  refine ⟨⟨?_, ?_, ?_⟩, ⟨hle, hb.os, hb.tape, hb.output, hb.size, Nat.le_succ _, fun b hb' _ => hb.block b hb', ?_⟩, ⟨fun l hl => LMap.set_ne _ _ (by omega), fun l hl hg => by show gset σ.get σ.nxt o l = none; rw [gs_ne (by omega)]; exact hg⟩⟩
  · intro l x hl
    by_cases e : l = σ.nxt
    · subst e
      have hl : gset σ.get σ.nxt o σ.nxt = some x := hl
      rw [gs_same] at hl; cases hl
      exact ⟨p, LMap.set_same _ _ _, hre⟩
    · have hl : gset σ.get σ.nxt o l = some x := hl
      rw [gs_ne e] at hl
      obtain ⟨q, hq, hr⟩ := h.dom l x hl
      exact ⟨q, hle _ _ hq, hr.mono hle (hb.block _ (h.bnd _ _ hq).2)⟩
  · intro l l' x x' q q' hne h1 h2 hx hq hq'
    have h1 : gset σ.get σ.nxt o l = some x := h1
    have h2 : gset σ.get σ.nxt o l' = some x' := h2
    by_cases e : l = σ.nxt
    · subst e
      rw [LMap.set_same] at hq; cases hq
      rw [LMap.set_ne _ _ (Ne.symm hne)] at hq'
      have := (h.bnd _ _ hq').2
      omega
    · rw [LMap.set_ne _ _ e] at hq
      by_cases e' : l' = σ.nxt
      · subst e'
        rw [LMap.set_same] at hq'; cases hq'
        have := (h.bnd _ _ hq).2
        omega
      · rw [LMap.set_ne _ _ e'] at hq'
        rw [gs_ne e] at h1
        rw [gs_ne e'] at h2
        exact h.excl l l' x x' q q' hne h1 h2 hx hq hq'
  · intro l q hq
    by_cases e : l = σ.nxt
    · subst e
      rw [LMap.set_same] at hq; cases hq
      exact ⟨Nat.lt_succ_self _, hp2⟩
    · rw [LMap.set_ne _ _ e] at hq
      obtain ⟨a, b⟩ := h.bnd _ _ hq
      exact ⟨Nat.lt_succ_of_lt a, Nat.lt_of_lt_of_le b hb.size⟩
  · rintro qq b hb' ⟨l, x, r, h1, h2, h3, h4⟩
    have h1 : gset σ.get σ.nxt o l = some x := h1
    by_cases e : l = σ.nxt
    · subst e
      rw [LMap.set_same] at h3; cases h3
      omega
    · rw [LMap.set_ne _ _ e] at h3
      rw [gs_ne e] at h1
      exact ⟨l, x, r, h1, h2, h3, h4⟩

theorem sorted_acall {σ : Heap} {r m : Nat} {es : List MapEntry} {clock : Nat} {ks : List (List UInt8)} {ro : Bool} (hr : σ.get r = some (.cells [.map (some m)] 0 ro)) (hm : σ.get m = some (.map es clock)) (hks : es.map (·.key) = ks.map strV1) (hsz : ∀ k ∈ ks, k.length ≤ maxLen)
    (hst : Stamped es.toArray clock) (hlen : ks.length ≤ 2 ^ 40) : ACall E6.P 72 #[.func (.func 142) #[] #[.pointer (some ⟨r, 0, none⟩)]] σ (SrtRes ks σ) := by
  intro ρ w args' hrel hargs
  obtain ⟨pr, hpr, hr1, hszd, C, T, fz, hh, hc, _⟩ := hrel.dom r _ hr
  obtain ⟨pm, hpm, es', hh', hes⟩ := hrel.dom m _ hm
  have hoff := hszd.2 rfl
  have ha : args' = #[.func (.func 142) #[] #[.pointer (some ⟨pr.blk, 0, none⟩)]] := by
    obtain ⟨h1, h2⟩ := hargs
    apply Array.ext (by rw [← h1]; rfl)
    intro i hi1 hi2
    have hi0 : i = 0 := by simp at hi2; omega
    subst hi0
    have hv := h2 0 _ (args'[0]) rfl (Array.getElem?_eq_getElem hi1)
    generalize args'[0] = x at hv
    cases hv with
    | func s1 s2 e1 e2 =>
      rename_i a' b'
      have ea : a' = #[] := Array.eq_empty_of_size_eq_zero (by simpa using s1.symm)
      subst ea
      have eb : b' = #[.pointer (some ⟨pr.blk, 0, none⟩)] := by
        apply Array.ext (by rw [← s2]; rfl)
        intro j hj1 hj2
        have hj0 : j = 0 := by simp at hj2; omega
        subst hj0
        have hv := e2 0 _ (b'[0]) rfl (Array.getElem?_eq_getElem hj1)
        generalize b'[0] = y at hv
        cases hv with
        | ptr hl =>
          rw [hpr] at hl; cases hl
          simp [hoff]
      subst eb
      rfl
  subst ha
  have hcell : w.cell? ⟨pr.blk, 0, none⟩ = some (.map (some pm.blk)) := by
    obtain ⟨v', h1, h2⟩ := hc 0 _ rfl
    rw [hoff] at h1
    generalize v' = x at h1 h2
    cases h2 with
    | map hl =>
      rw [hpm] at hl; cases hl
      simp [World.cell?, hh, h1]
  have hkey : es'.toList.map (·.key) = ks.map strV1 := by
    rw [← hks]
    apply List.ext_getElem?
    intro i
    simp only [List.getElem?_map]
    rcases Nat.lt_or_ge i es.length with hi | hi
    · have h1 : es[i]? = some es[i] := List.getElem?_eq_getElem hi
      have h2 : es'[i]? = some (es'[i]'(by rw [← hes.1]; exact hi)) := Array.getElem?_eq_getElem _
      have h3 := hes.2 i _ _ h1 h2
      rw [Array.getElem?_toList, h1, h2]
      simp [h3.1]
    · rw [List.getElem?_eq_none hi, List.getElem?_eq_none (by rw [Array.length_toList, ← hes.1]; exact hi)]
  have hborn : es'.toList.map (·.born) = es.map (·.born) := by
    apply List.ext_getElem?
    intro i
    simp only [List.getElem?_map]
    rcases Nat.lt_or_ge i es.length with hi | hi
    · have h1 : es[i]? = some es[i] := List.getElem?_eq_getElem hi
      have h2 : es'[i]? = some (es'[i]'(by rw [← hes.1]; exact hi)) := Array.getElem?_eq_getElem _
      have h3 := hes.2 i _ _ h1 h2
      rw [Array.getElem?_toList, h1, h2]
      simp [h3.2.2.2]
    · rw [List.getElem?_eq_none hi, List.getElem?_eq_none (by rw [Array.length_toList, ← hes.1]; exact hi)]
  have hst' : Stamped es' clock := by
    obtain ⟨s1, s2, s3⟩ := hst
    refine ⟨fun x hx => ?_, by rw [hborn]; simpa using s2, by rw [hkey, ← hks]; simpa using s3⟩
    have : x.born ∈ es'.toList.map (·.born) := List.mem_map_of_mem hx
    rw [hborn] at this
    obtain ⟨y, hy, e⟩ := List.mem_map.1 this
    rw [← e]; exact s1 y (by simpa using hy)
  let R : Value → Option (DataW Unit × List MemPlace) := fun _ => some (.nil, [])
  have hel : es'.size = ks.length := by have := congrArg List.length hkey; simpa using this
  have hrd : ∀ x ∈ es'.toList, ∃ k ∈ ks, x.key = strV1 k ∧ WideElems.rd Tryz.prog 9 R x = some (.string k, .nil) := by
    intro x hx
    have : x.key ∈ es'.toList.map (·.key) := List.mem_map_of_mem hx
    rw [hkey] at this
    obtain ⟨k, hk, e⟩ := List.mem_map.1 this
    refine ⟨k, hk, e.symm, ?_⟩
    have h1 : keyOf Tryz.prog 9 x.key = some (.string k) := by
      rw [← e]
      have := WideMaps.keyOf_string_mk (P := Tryz.prog) (k := 9) Tryz.underlying9 (s := str k) (by rw [str_size]; exact hsz k hk)
      rw [str_list] at this
      exact this
    simp only [WideElems.rd, h1, Option.bind_some, R, Option.map_some]
  have hfit : WideElems.Fit Tryz.prog 9 R es' clock := ⟨by rw [hel]; unfold maxLen; omega, hst', fun x hx => let ⟨k, _, _, h⟩ := hrd x hx; ⟨_, h⟩⟩
  have hkeys : strKeys (DataW.map ((es'.toList.map (WideElems.rg Tryz.prog 9 R)).foldr DataW.insert [])) |>.Perm ks := by
    have h1 : (es'.toList.map (WideElems.rg Tryz.prog 9 R)).map (fun p => Go.strOf p.1) = ks := by
      have e1 : (es'.toList.map (WideElems.rg Tryz.prog 9 R)).map (fun p => Go.strOf p.1) = es'.toList.map fun x => match x.key with | .string s => s.data.toList | _ => [] := by
        rw [List.map_map]
        refine List.map_congr_left fun x hx => ?_
        obtain ⟨k, _, e, h⟩ := hrd x hx
        simp only [Function.comp, WideElems.rg_of h, e, strV1, Go.strOf, str_list]
      rw [e1]
      have e2 : (es'.toList.map fun x => match x.key with | .string s => s.data.toList | _ => []) = (es'.toList.map (·.key)).map fun v => match v with | .string s => s.data.toList | _ => [] := by rw [List.map_map]; rfl
      rw [e2, hkey, List.map_map]
      conv => rhs; rw [← List.map_id ks]
      refine List.map_congr_left fun k _ => ?_
      simp only [Function.comp, strV1, str_list, id]
    have := (WideShapes.sorted_perm (es'.toList.map (WideElems.rg Tryz.prog 9 R))).map (fun p => Go.strOf p.1)
    rw [h1] at this
    exact this
  have hsize : Maps.size (DataW.map ((es'.toList.map (WideElems.rg Tryz.prog 9 R)).foldr DataW.insert [])) = ks.length := by
    have := hkeys.length_eq
    simpa [Go.strKeys, Maps.size] using this
  refine (sorted_keys pr.blk pm.blk es'.size _ R w hcell (hrel.bnd _ _ hpr).2 ⟨es', clock, hh', hfit, Nat.le_refl _, rfl⟩ (by rw [hsize]; unfold maxLen; omega) (by rw [hsize]; omega)).mono ?_
  rintro e w' ⟨v, ss, rfl, hperm, hrow, hnil, hbel⟩
  have hperm := hperm.trans hkeys
  have hsort : ss.mergeSort (fun x y => decide (x ≤ y)) = sortK ks := mergeSort_of_perm hperm
  rw [hsort] at hrow
  have hslen := hperm.length_eq
  obtain ⟨hb1, hb2⟩ := same_below hrel hbel
  obtain ⟨hx, ⟨rfl, h0⟩ | ⟨gb, cap, cur, rfl, hbase, hgb, r1, r2, r3, r4⟩⟩ := hrow
  · have : ks = [] := List.eq_nil_of_length_eq_zero (by omega)
    exact ⟨.slice none 0 0, _, ρ, σ, rfl, hb1, hb2, Fin.refl _ _, .sliceNil 0 0, .inl ⟨this, rfl, rfl⟩⟩
  · have hne : ks ≠ [] := by
      rintro rfl
      have : ss = [] := List.eq_nil_of_length_eq_zero (by simpa using hslen)
      have := hnil.2 this
      cases this
    have hgl : gb < w'.heap.size := by
      rcases Nat.lt_or_ge gb w'.heap.size with h | h
      · exact h
      · rw [Array.getElem?_eq_none h] at hgb; cases hgb
    have hskl : (sortK ks).length = ks.length := List.length_mergeSort ks
    let p : Pl := ⟨gb, 0, cap - ks.length, 1, ks.length⟩
    have hcs : ∀ (i : Nat) (v : Value), ((sortK ks).map strV1)[i]? = some v → ∃ v', cur[p.off + i]? = some v' ∧ VRel (ρ.set σ.nxt p) v v' := by
      intro i v hi
      have hi2 : i < ks.length := by
        rcases Nat.lt_or_ge i ks.length with h | h
        · exact h
        · rw [List.getElem?_eq_none (by rw [List.length_map, hskl]; exact h)] at hi; cases hi
      have e1 : (cur.toList.take (ss.length * 1))[i]? = ((sortK ks).map encStr)[i]? := by rw [r4]
      rw [List.getElem?_take, if_pos (by omega), Array.getElem?_toList] at e1
      simp only [p, Nat.zero_add]
      have e2 : ((sortK ks).map encStr)[i]? = some v := by
        rw [← hi]; rfl
      exact ⟨v, e1.trans e2, by
        rw [List.getElem?_map] at hi
        obtain ⟨k, _, rfl⟩ := Option.map_eq_some_iff.1 hi
        exact .string _⟩
    obtain ⟨c1, c2, c3⟩ := claim_new hrel hbel (.cells ((sortK ks).map strV1) 1 false) p hbase hgl ⟨by simp [p, hskl], ⟨rfl, fun h => by cases h⟩, cur, 9, (0, 0), hgb, hcs, fun _ => ⟨by simp only [p]; omega, .inl rfl⟩⟩
    refine ⟨_, _, _, _, rfl, c1, c2, c3, ?_, .inr ⟨hne, rfl, rfl⟩⟩
    rw [hslen]
    have := VRel.slice (ρ := ρ.set σ.nxt p) (l := σ.nxt) (o := 0) (n := ks.length) (c := ks.length) (c' := cap) (p := p) (LMap.set_same _ _ _) (.inr ⟨by simp [p], by simp only [p]; omega⟩)
    simpa [p] using this

end Go.Proofs.YtfchjhfccnodpaaGreat
end

section
namespace Go.Proofs.YtfchjhfccnodpaaGreat
open Go.RowKit Go.Maps Go.Sort Go.Shelf Go.ChangeMaps Go.MapKept
set_option linter.unusedSimpArgs false
set_option linter.unusedVariables false
set_option maxRecDepth 100000

theorem u8_eq {a b : UInt8} (h : Nat.beq a.toNat b.toNat = true) : a = b := UInt8.toNat_inj.1 (Nat.eq_of_beq_eq_true h)

theorem leL_iff : ∀ (a b : List UInt8), leL a b = decide (a ≤ b)
  | [], b => by simp [leL]
  | a :: xs, [] => by simp [leL]
  | a :: xs, b :: ys => by
    have ih := leL_iff xs ys
    simp only [leL, ih]
    rw [Bool.eq_iff_iff]
    simp only [Bool.or_eq_true, Bool.and_eq_true, decide_eq_true_eq, List.cons_le_cons_iff]
    constructor
    · rintro (h | ⟨h1, h2⟩)
      · exact .inl (UInt8.lt_iff_toNat_lt.2 (by simpa [Nat.blt_eq] using h))
      · exact .inr ⟨u8_eq h1, h2⟩
    · rintro (h | ⟨h1, h2⟩)
      · exact .inl (by simpa [Nat.blt_eq] using UInt8.lt_iff_toNat_lt.1 h)
      · subst h1; exact .inr ⟨Nat.beq_refl _, h2⟩

theorem leB_eq (a b : List UInt8) : leB a b = leL a b := by rw [leL_iff, leB]

theorem insL_perm (x : List UInt8) : ∀ l, (insL x l).Perm (x :: l)
  | [] => List.Perm.refl _
  | y :: r => by
    simp only [insL]
    split
    · exact List.Perm.refl _
    · exact ((insL_perm x r).cons y).trans (List.Perm.swap x y r)
theorem sortL_perm : ∀ l, (sortL l).Perm l
  | [] => List.Perm.refl _
  | x :: r => (insL_perm x _).trans ((sortL_perm r).cons x)

theorem insL_sorted {x : List UInt8} : ∀ {l : List (List UInt8)}, l.Pairwise (· ≤ ·) → (insL x l).Pairwise (· ≤ ·)
  | [], _ => List.pairwise_singleton _ _
  | y :: r, h => by
    have h' := List.pairwise_cons.1 h
    simp only [insL]
    split
    · rename_i hxy
      rw [leL_iff, decide_eq_true_eq] at hxy
      refine List.pairwise_cons.2 ⟨fun z hz => ?_, h⟩
      rcases List.mem_cons.1 hz with rfl | hz
      · exact hxy
      · exact List.le_trans hxy (h'.1 z hz)
    · rename_i hxy
      rw [leL_iff, decide_eq_true_eq] at hxy
      have hyx : y ≤ x := (List.le_total x y).resolve_left hxy
      refine List.pairwise_cons.2 ⟨fun z hz => ?_, insL_sorted h'.2⟩
      rcases List.mem_cons.1 ((insL_perm x r).mem_iff.1 hz) with rfl | hz
      · exact hyx
      · exact h'.1 z hz
theorem sortL_sorted : ∀ l, (sortL l).Pairwise (· ≤ ·)
  | [] => List.Pairwise.nil
  | x :: r => insL_sorted (sortL_sorted r)

theorem sortK_eq (l : List (List UInt8)) : sortK l = sortL l := by
  have h1 : (sortK l).Pairwise (· ≤ ·) := by
    have := List.pairwise_mergeSort (le := leB) (fun a b c h1 h2 => by rw [leB_eq, leL_iff, decide_eq_true_eq] at *; exact List.le_trans h1 h2) (fun a b => by
      rw [leB_eq, leB_eq, leL_iff, leL_iff, Bool.or_eq_true, decide_eq_true_eq, decide_eq_true_eq]; exact List.le_total a b) l
    exact this.imp fun {a b} h => by rw [leB_eq, leL_iff, decide_eq_true_eq] at h; exact h
  refine List.Perm.eq_of_pairwise (le := fun a b => a ≤ b) (fun a b _ _ h1 h2 => List.le_antisymm h1 h2) h1 (sortL_sorted l) ?_
  exact (List.mergeSort_perm l leB).trans (sortL_perm l).symm

theorem keyL_some {v : Value} {k : List UInt8} (h : keyL v = some k) : v = strLq k := by
  unfold keyL at h
  split at h
  · rename_i s
    cases h
    obtain ⟨⟨l⟩⟩ := s
    rfl
  · cases h
theorem keysL_some : ∀ {es : List MapEntry} {ks : List (List UInt8)}, keysL es = some ks → es.map (·.key) = ks.map strLq
  | [], ks, h => by cases h; rfl
  | e :: r, ks, h => by
    simp only [keysL] at h
    split at h
    · rename_i k ks' h1 h2
      cases h
      simp only [List.map_cons, keyL_some h1, keysL_some h2]
    · cases h

theorem stampB_ok {clock : Nat} : ∀ {es : List MapEntry} {b : Nat}, stampB clock b es = true → (∀ e ∈ es, b ≤ e.born ∧ e.born < clock) ∧ (es.map (·.born)).Nodup
  | [], b, _ => ⟨fun e he => (by cases he), List.nodup_nil⟩
  | e :: r, b, h => by
    simp only [stampB, Bool.and_eq_true] at h
    obtain ⟨⟨h1, h2⟩, h3⟩ := h
    have h1 := Nat.le_of_ble_eq_true h1
    have h2 : e.born < clock := by simpa [Nat.blt_eq] using h2
    obtain ⟨k1, k2⟩ := stampB_ok h3
    refine ⟨fun x hx => ?_, ?_⟩
    · rcases List.mem_cons.1 hx with rfl | hx
      · exact ⟨h1, h2⟩
      · have := k1 x hx; omega
    · rw [List.map_cons, List.nodup_cons]
      refine ⟨fun hm => ?_, k2⟩
      obtain ⟨x, hx, hb⟩ := List.mem_map.1 hm
      have := k1 x hx; omega

theorem eqU_refl : ∀ k : List UInt8, eqU k k = true
  | [] => rfl
  | a :: r => by simp [eqU, eqU_refl r]
theorem memU_of : ∀ {l : List (List UInt8)} {k : List UInt8}, k ∈ l → memU k l = true
  | [], _, h => by cases h
  | x :: r, k, h => by
    simp only [memU, Bool.or_eq_true]
    rcases List.mem_cons.1 h with rfl | h
    · exact .inl (eqU_refl _)
    · exact .inr (memU_of h)
theorem nodU_ok : ∀ {l : List (List UInt8)}, nodU l = true → l.Nodup
  | [], _ => List.nodup_nil
  | x :: r, h => by
    simp only [nodU, Bool.and_eq_true, Bool.not_eq_true'] at h
    exact List.nodup_cons.2 ⟨fun hm => (by rw [memU_of hm] at h; exact nomatch h.1), nodU_ok h.2⟩

theorem strLq_inj {a b : List UInt8} (h : strLq a = strLq b) : a = b := by
  unfold strLq at h
  simp only [Value.string.injEq, ByteArray.mk.injEq, Array.mk.injEq] at h
  exact h

theorem nodup_strL : ∀ {l : List (List UInt8)}, l.Nodup → (l.map strLq).Nodup
  | [], _ => List.nodup_nil
  | x :: r, h => by
    have h' := List.nodup_cons.1 h
    refine List.nodup_cons.2 ⟨fun hm => ?_, nodup_strL h'.2⟩
    obtain ⟨y, hy, e⟩ := List.mem_map.1 hm
    exact h'.1 (strLq_inj e ▸ hy)

theorem sorted_ok : CkOk E6 (sortedK 72 142) := by
  intro f vs t n k z h
  unfold sortedK at h
  rcases brec_true h with ⟨hf, h⟩ | ⟨_, h⟩
  case inr => exact .inr h
  have hf : f = 72 := (Nat.eq_of_beq_eq_true hf).symm
  subst hf
  split at h
  case h_2 => exact .inr h
  rename_i g' r h0
  rcases brec_true h with ⟨hg, h⟩ | ⟨_, h⟩
  case inr => exact .inr h
  have hg : g' = 142 := (Nat.eq_of_beq_eq_true hg).symm
  subst hg
  split at h
  case h_2 => exact .inr h
  rename_i m ro hr
  split at h
  case h_2 => exact .inr h
  rename_i es clock hm
  split at h
  case h_2 => exact .inr h
  rename_i ks hks
  rcases brec_true h with ⟨hc, h⟩ | ⟨_, h⟩
  case inr => exact .inr h
  simp only [Bool.and_eq_true, List.all_eq_true] at hc
  obtain ⟨⟨⟨c1, c2⟩, c3⟩, c4⟩ := hc
  left
  have hk : es.map (·.key) = ks.map strV1 := (keysL_some hks).trans (by rfl)
  obtain ⟨s1, s2⟩ := stampB_ok c1
  have hst : Stamped es.toArray clock := ⟨fun e he => (s1 e (by simpa using he)).2, by simpa using s2, by
    have e1 : es.toArray.toList.map (·.key) = ks.map strLq := by rw [← keysL_some hks]
    rw [e1]
    exact nodup_strL (nodU_ok c2)⟩
  have hlen : ks.length ≤ 2 ^ 40 := Nat.le_trans (Nat.le_of_ble_eq_true c4) (by decide)
  have hsz : ∀ k ∈ ks, k.length ≤ maxLen := fun k hk => Nat.le_trans (Nat.le_of_ble_eq_true (c3 k hk)) (by decide)
  have hr' : (fHeap t n).get r = some (.cells [.map (some m)] 0 ro) := hr
  have hm' : (fHeap t n).get m = some (.map es clock) := hm
  have key := sorted_acall (σ := fHeap t n) hr' hm' hk hsz hst hlen
  cases ks with
  | nil =>
    refine ⟨_, t, n, h, ACall.mono key ?_⟩
    rintro u τ (⟨_, h1, h2⟩ | ⟨h0, _⟩)
    · exact ⟨h1, h2⟩
    · exact absurd rfl h0
  | cons x xs =>
    obtain ⟨t', h, hh⟩ := hset_true (n + 1) h
    rw [natK_eq, natK_eq] at h
    refine ⟨_, t', _, h, ACall.mono key ?_⟩
    rintro u τ (⟨h0, _⟩ | ⟨_, h1, h2⟩)
    · cases h0
    · refine ⟨h1, h2.trans ?_⟩
      show _ = fHeap t' (n + 1)
      rw [hh, sortK_eq]
      rfl

end Go.Proofs.YtfchjhfccnodpaaGreat
end

section
namespace Go.Proofs.YtfchjhfccnodpaaGreat
set_option linter.unusedSimpArgs false
set_option linter.unusedVariables false

theorem acall_closed {P : Program} {f : FuncId} {c : Value} {σ₀ : Heap} (h0 : ∀ l, σ₀.get l = none) (hc : plainV c = true) (h : ACall P f #[] σ₀ fun v _ => v = c) (σ : Heap) :
    ACall P f #[] σ fun v τ => v = c ∧ τ = σ := by
  intro ρ w args' hrel hargs
  have hrel0 : Rel (fun _ => none) σ₀ w := ⟨fun l o hl => (by rw [h0] at hl; cases hl), fun l l' o o' p p' _ hl => (by rw [h0] at hl; cases hl), fun l p hl => (by cases hl)⟩
  have ha : args' = #[] := by
    have := hargs.1
    simp at this
    exact Array.eq_empty_of_size_eq_zero this.symm
  subst ha
  have hargs0 : VsRel (fun _ => none) (#[] : Array Value) (#[] : Array Value) := ⟨rfl, fun i v v' h1 => (by simp at h1)⟩
  refine (h _ w _ hrel0 hargs0).mono ?_
  rintro e w' ⟨v, v', ρ', σ', he, hR, hF, hN, hv, rfl⟩
  have hv' := plainV_eq hc hv
  subst hv'
  have hblk : ∀ b, b < w.heap.size → w'.heap[b]? = w.heap[b]? := fun b hb => hF.blk b hb fun ⟨l, o, p, hl, _⟩ => (by rw [h0] at hl; cases hl)
  refine ⟨v', v', ρ, σ, he, ⟨fun l o hl => ?_, hrel.excl, fun l p hp => ?_⟩, ⟨ρ.le_refl, hF.os, hF.tape, hF.output, hF.size, Nat.le_refl _, fun b hb _ => hblk b hb, fun _ _ _ h => h⟩, Fin.refl _ _, plainV_rel ρ hc, rfl, rfl⟩
  · obtain ⟨p, hp, hre⟩ := hrel.dom l o hl
    exact ⟨p, hp, hre.mono ρ.le_refl (hblk _ (hrel.bnd _ _ hp).2)⟩
  · exact ⟨(hrel.bnd l p hp).1, Nat.lt_of_lt_of_le (hrel.bnd l p hp).2 hF.size⟩

end Go.Proofs.YtfchjhfccnodpaaGreat
end
