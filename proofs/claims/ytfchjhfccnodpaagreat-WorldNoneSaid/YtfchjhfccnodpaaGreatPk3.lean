/-
  A call that is known, with its names turned: looked up. No condition. / A long loop, reckoned piece by piece. No condition. / A function with one long loop, put together; keys that are sorted. No condition. / Of each region that draws its order: one order, and what hangs on what (printed by a program). No condition. / THE PROGRAM AS AN ENVIRONMENT: which functions are entered, which the model does by itself; the regions' texts checked. No condition. / STEPPING THROUGH REGIONS WITH UNKNOWN VALUES: activations as functions. No condition. / STEPPING THROUGH REGIONS WITH UNKNOWN VALUES: each kind of operation by itself. No condition. / REGIONS WITH UNKNOWN VALUES, in the order of the text, in a form that simp walks. No condition. / REGIONS THAT DRAW THEIR ORDER, WITH UNKNOWN VALUES, in a form that simp walks. No condition.
-/
import Derived.Test.YtfchjhfccnodpaaGreatPk2
import Derived.Test.YtfchjhfccnodpaaGreatProg
import Derived.KernelRfl
section
namespace Go.Proofs.YtfchjhfccnodpaaGreat
set_option linter.unusedSimpArgs false
set_option linter.unusedVariables false

def lkN : List Nat → List Nat → Nat → Option Nat
  | a :: xs, b :: bs, l => if Nat.beq l a then some b else lkN xs bs l
  | _, _, _ => none

def turn (m : Memo) (dom R : List Nat) (n : Nat) (l : Nat) : Nat := match lkN dom R l with
  | some x => x
  | none => l - m.n0 + n

def memNq (l : Nat) : List Nat → Bool
  | [] => false
  | a :: r => Nat.beq l a || memNq l r
def nodN : List Nat → Bool
  | [] => true
  | a :: r => !memNq a r && nodN r
def sameLen : List Nat → List Nat → Bool
  | [], [] => true
  | _ :: a, _ :: b => sameLen a b
  | _, _ => false

theorem memNq_iff {l : Nat} : ∀ {L : List Nat}, memNq l L = true ↔ l ∈ L
  | [] => by simp [memNq]
  | a :: r => by
    simp only [memNq, Bool.or_eq_true, List.mem_cons, memNq_iff (L := r)]
    constructor
    · rintro (h | h)
      · exact .inl (Nat.eq_of_beq_eq_true h)
      · exact .inr h
    · rintro (rfl | h)
      · exact .inl (Nat.beq_refl _)
      · exact .inr h

theorem lkN_mem : ∀ {dom R : List Nat} {l : Nat}, sameLen dom R = true → l ∈ dom → ∃ x, lkN dom R l = some x ∧ x ∈ R
  | [], _, _, _, h => by cases h
  | a :: xs, [], _, h, _ => by cases h
  | a :: xs, b :: bs, l, hs, h => by
    simp only [lkN]
    by_cases e : l = a
    · subst e; exact ⟨b, by simp, List.mem_cons_self ..⟩
    · rw [if_neg (by intro h; exact e (Nat.eq_of_beq_eq_true h))]
      obtain ⟨x, h1, h2⟩ := lkN_mem (dom := xs) (R := bs) hs ((List.mem_cons.1 h).resolve_left e)
      exact ⟨x, h1, List.mem_cons_of_mem _ h2⟩

theorem lkN_none : ∀ {dom R : List Nat} {l : Nat}, ¬ l ∈ dom → lkN dom R l = none
  | [], R, l, _ => by cases R <;> rfl
  | a :: xs, [], l, _ => rfl
  | a :: xs, b :: bs, l, h => by
    simp only [lkN]
    rw [if_neg (by intro e; exact h (by rw [Nat.eq_of_beq_eq_true e]; exact List.mem_cons_self ..))]
    exact lkN_none fun hm => h (List.mem_cons_of_mem _ hm)

theorem nodN_sound : ∀ {L : List Nat}, nodN L = true → L.Nodup
  | [], _ => List.nodup_nil
  | a :: r, h => by
    simp only [nodN, Bool.and_eq_true, Bool.not_eq_true'] at h
    refine List.nodup_cons.2 ⟨fun hm => ?_, nodN_sound h.2⟩
    rw [memNq_iff.2 hm] at h
    cases h.1

theorem lkN_inj : ∀ {dom R : List Nat} {a b x : Nat}, R.Nodup → lkN dom R a = some x → lkN dom R b = some x → a = b
  | [], _, _, _, _, _, h, _ => by simp [lkN] at h
  | _ :: _, [], _, _, _, _, h, _ => by simp [lkN] at h
  | d :: ds, r :: rs, a, b, x, hn, h1, h2 => by
    have hn' := List.nodup_cons.1 hn
    have hmem : ∀ {ds rs : List Nat} {a x : Nat}, lkN ds rs a = some x → x ∈ rs := by
      intro ds
      induction ds with
      | nil => intro rs a x h; simp [lkN] at h
      | cons d ds ih =>
        intro rs a x h
        cases rs with
        | nil => simp [lkN] at h
        | cons r rs =>
          simp only [lkN] at h
          split at h
          · cases h; exact List.mem_cons_self ..
          · exact List.mem_cons_of_mem _ (ih h)
    simp only [lkN] at h1 h2
    split at h1
    · rename_i e1
      cases h1
      split at h2
      · rename_i e2
        rw [Nat.eq_of_beq_eq_true e1, Nat.eq_of_beq_eq_true e2]
      · exact absurd (hmem h2) hn'.1
    · split at h2
      · cases h2
        exact absurd (hmem h1) hn'.1
      · exact lkN_inj hn'.2 h1 h2

def statB (m : Memo) (dom : List Nat) : Bool :=
  Nat.ble m.n0 m.n1 && dom.all (fun l => Nat.blt l m.n0) && m.args.toList.all (okV 20 fun l => memNq l dom) && m.pre.all (fun x => memNq x.1 dom && okO (fun l => memNq l dom) x.2) &&
    okV 20 (newD m fun l => memNq l dom) m.val && m.post.all fun x => newD m (fun l => memNq l dom) x.1 && okO (newD m fun l => memNq l dom) x.2

theorem stat_ren {m : Memo} {dom R : List Nat} {n : Nat} (h : statB m dom = true) (h1 : sameLen dom R = true) (h2 : nodN R = true) (h3 : R.all (fun l => Nat.blt l n) = true) :
    RenOk m (fun l => memNq l dom) (turn m dom R n) n := by
  simp only [statB, Bool.and_eq_true, List.all_eq_true] at h
  obtain ⟨⟨⟨⟨⟨a1, a2⟩, a3⟩, a4⟩, a5⟩, a6⟩ := h
  have hlt : ∀ {a b : Nat}, Nat.blt a b = true → a < b := fun h => by simpa [Nat.blt_eq] using h
  simp only [List.all_eq_true] at h3
  refine ⟨Nat.le_of_ble_eq_true a1, fun l hl => ?_, fun l hl hl' => ?_, fun a b ha hb e => ?_, a3, a4, a5, a6⟩
  · have hm := memNq_iff.1 hl
    obtain ⟨x, k1, k2⟩ := lkN_mem h1 hm
    refine ⟨hlt (a2 l hm), ?_⟩
    simp only [turn, k1]
    exact hlt (h3 x k2)
  · have : lkN dom R l = none := lkN_none fun hm => by have := hlt (a2 l hm); omega
    simp only [turn, this]
  · obtain ⟨x, k1, _⟩ := lkN_mem h1 (memNq_iff.1 ha)
    obtain ⟨y, k2, _⟩ := lkN_mem h1 (memNq_iff.1 hb)
    simp only [turn, k1, k2] at e
    subst e
    exact lkN_inj (nodN_sound h2) k1 k2

def pairN (R : List (Nat × Nat)) (a b : Nat) : List (Nat × Nat) := if R.any fun x => Nat.beq x.1 a then R else (a, b) :: R
def pairA (R : List (Nat × Nat)) : Option Addr → Option Addr → List (Nat × Nat)
  | some ⟨a, _, _⟩, some ⟨b, _, _⟩ => pairN R a b
  | _, _ => R
def pairL (f : List (Nat × Nat) → Value → Value → List (Nat × Nat)) : List (Nat × Nat) → List Value → List Value → List (Nat × Nat)
  | R, a :: xs, b :: bs => pairL f (f R a b) xs bs
  | R, _, _ => R
def pairV : Nat → List (Nat × Nat) → Value → Value → List (Nat × Nat)
  | _, R, .pointer a, .pointer b => pairA R a b
  | _, R, .slice a _ _, .slice b _ _ => pairA R a b
  | _, R, .map (some a), .map (some b) => pairN R a b
  | n + 1, R, .agg ⟨a⟩, .agg ⟨b⟩ => pairL (pairV n) R a b
  | n + 1, R, .func _ ⟨a⟩ ⟨a'⟩, .func _ ⟨b⟩ ⟨b'⟩ => pairL (pairV n) (pairL (pairV n) R a b) a' b'
  | _, R, _, _ => R
def pairO (R : List (Nat × Nat)) : AObj → Option AObj → List (Nat × Nat)
  | .cells c _ _, some (.cells c' _ _) => pairL (pairV 20) R c c'
  | .map es _, some (.map es' _) => pairL (pairV 20) R (es.map (·.val)) (es'.map (·.val))
  | _, _ => R
noncomputable def pairE (t : HT) : List (Nat × Nat) → Ent → List (Nat × Nat)
  | R, [] => R
  | R, (l, o) :: r => pairE t (match R.find? fun x => Nat.beq x.1 l with | some x => pairO R o ((fHeap t 0).get x.2) | none => R) r
noncomputable def namesOf (m : Memo) (dom : List Nat) (vs : List Value) (t : HT) : List Nat :=
  dom.map fun l => match (pairE t (pairL (pairV 20) [] m.args.toList vs) m.pre).find? fun x => Nat.beq x.1 l with | some x => x.2 | none => 0

noncomputable def forceN (l : List Nat) (k : List Nat → Bool) : Bool := List.rec (motive := fun _ => (List Nat → Bool) → Bool) (fun k => k []) (fun a _ ih k => natK a fun a => ih fun r => k (a :: r)) l k
theorem forceN_eq : ∀ (l : List Nat) (k : List Nat → Bool), forceN l k = k l
  | [], k => rfl
  | a :: r, k => by
    show natK a (fun a => forceN r fun r => k (a :: r)) = k (a :: r)
    rw [natK_eq, forceN_eq r]

noncomputable def fitB (m : Memo) (r : Nat → Nat) (vs : List Value) (t : HT) : Bool :=
  eqVL (eqV 20) vs (m.args.toList.map (renV 20 r)) && (m.pre.map fun x => (r x.1, renO r x.2)).all fun x => eqO ((fHeap t 0).get x.1) (some x.2)

noncomputable def relocK (m : Memo) (dom : List Nat) : CK := fun f vs t n k z =>
  Bool.rec z (forceN (namesOf m dom vs t) fun R => Bool.rec z
    (clearsK (m.pre.map fun x => (turn m dom R n x.1, renO (turn m dom R n) x.2)) t fun t => putsK (m.post.map fun x => (turn m dom R n x.1, renO (turn m dom R n) x.2)) t fun t =>
      natK (Nat.add n (Nat.sub m.n1 m.n0)) fun n' => k (renV 20 (turn m dom R n) m.val) t n')
    (sameLen dom R && nodN R && R.all (fun l => Nat.blt l n) && fitB m (turn m dom R n) vs t)) (Nat.beq f m.f)

theorem relocK_ok {E : Env} {m : Memo} {dom : List Nat} (hm : m.Ok E) (hs : statB m dom = true) : CkOk E (relocK m dom) := by
  intro f vs t n k z h
  unfold relocK at h
  rcases brec_true h with ⟨hf, h⟩ | ⟨_, h⟩
  case inr => exact .inr h
  rw [forceN_eq] at h
  generalize namesOf m dom vs t = R at h
  rcases brec_true h with ⟨hc, h⟩ | ⟨_, h⟩
  case inr => exact .inr h
  left
  have hf : f = m.f := Nat.eq_of_beq_eq_true hf
  simp only [Bool.and_eq_true, fitB] at hc
  obtain ⟨⟨⟨c1, c2⟩, c3⟩, c4, c5⟩ := hc
  have hren := stat_ren hs c1 c2 c3
  have hok := Memo.ren_ok hm hren
  generalize hr : turn m dom R n = r at h c4 c5 hok
  obtain ⟨t₁, h, h1⟩ := clearsK_true h
  obtain ⟨t₂, h, h2⟩ := putsK_true h
  rw [natK_eq] at h
  have hargs : (⟨vs⟩ : Array Value) = (m.ren r n (n + (m.n1 - m.n0))).args := Array.ext' (eqVL_sound (eqV_sound 20) _ _ c4)
  refine ⟨_, t₂, _, h, ?_⟩
  unfold CA
  rw [hf, hargs]
  rw [List.all_eq_true] at c5
  refine Memo.apply hok (σ := fHeap t n) (τ := fHeap t₂ (Nat.add n (Nat.sub m.n1 m.n0))) rfl (fun l o hl => ?_) rfl fun l => ?_
  · have := eqO_sound (c5 (l, o) (lk_mem hl))
    rw [fHeap_get t n 0]
    exact this
  · rw [h2 (Nat.add n (Nat.sub m.n1 m.n0)) l, h1 (Nat.add n (Nat.sub m.n1 m.n0)) l, fHeap_get t n (Nat.add n (Nat.sub m.n1 m.n0))]
    rfl

noncomputable def relocsK (L : List (Memo × List Nat)) : CK := List.rec (motive := fun _ => CK) noI (fun m _ ih f vs t n k z => relocK m.1 m.2 f vs t n k (ih f vs t n k z)) L

theorem relocsK_ok {E : Env} : ∀ {L : List (Memo × List Nat)}, (∀ m ∈ L, m.1.Ok E ∧ statB m.1 m.2 = true) → CkOk E (relocsK L)
  | [], _ => noI_ok E
  | m :: r, hM => by
    intro f vs t n k z h
    have h : relocK m.1 m.2 f vs t n k (relocsK r f vs t n k z) = true := h
    have hm := hM m (List.mem_cons_self ..)
    rcases relocK_ok hm.1 hm.2 _ _ _ _ _ _ h with h | h
    · exact .inl h
    · exact relocsK_ok (fun m hm => hM m (List.mem_cons_of_mem _ hm)) _ _ _ _ _ _ h

end Go.Proofs.YtfchjhfccnodpaaGreat
end

section
namespace Go.Proofs.YtfchjhfccnodpaaGreat
set_option linter.unusedSimpArgs false
set_option linter.unusedVariables false

section
variable {P : Program} {Q : AQ} {a : Act} {σ : Heap}

def AWPL (P : Program) (c : Code) (Q : AQ) (a : Act) (σ : Heap) : Prop :=
  ∀ ρ w ac, Rel ρ σ w → ARel ρ a ac → ∀ b k cs, ∃ e a' w', Fine ρ σ w (Q e) a' w' ∧ Arrives P (lone (b.at ac (.code c :: .inLoop c :: k)) cs w) b k cs e a' w'

theorem awpl_loop {c : Code} (h : AWPL P c Q a σ) : AWP P (.loop c) Q a σ := by
  intro ρ w ac hr ha b k cs
  obtain ⟨e, a', w', hq, harr⟩ := h ρ w ac hr ha b k cs
  exact ⟨e, a', w', hq, .of_steps (.one step_loop) harr⟩

theorem awpl_round {c : Code} (h : AWP P c (aThen (AWPL P c Q) Q) a σ) : AWPL P c Q a σ := by
  intro ρ w ac hr ha b k cs
  obtain ⟨e, a₁, w₁, hq, harr⟩ := h ρ w ac hr ha b (.inLoop c :: k) cs
  cases e with
  | normal =>
    obtain ⟨ρ', a', σ', k1, k2, k3, k4, k5⟩ := hq
    obtain ⟨e₂, a₂, w₂, hq₂, harr₂⟩ := k5 ρ' w₁ a₁ k1 k4 b k cs
    exact ⟨e₂, a₂, w₂, hq₂.trans k2 k3, .of_steps (Steps.trans harr (.one step_inLoop)) harr₂⟩
  | exit id => exact ⟨_, a₁, w₁, hq, .pass (x := .inLoop c) rfl (fun _ _ => .inl (by simp)) harr⟩
  | goto l => exact ⟨_, a₁, w₁, hq, .pass (x := .inLoop c) rfl (fun _ _ => .inl (by simp)) harr⟩
  | ret => exact ⟨_, a₁, w₁, hq, .pass (x := .inLoop c) rfl (fun _ _ => .inl (by simp)) harr⟩
  | panic ch => exact ⟨_, a₁, w₁, hq, .pass (x := .inLoop c) rfl (fun _ _ => .inl (by simp)) harr⟩
  | outgrown => exact ⟨_, a₁, w₁, hq, .pass (x := .inLoop c) rfl (fun _ _ => .inl (by simp)) harr⟩

def SubH (σ₀ σ : Heap) : Prop := σ₀.nxt = σ.nxt ∧ ∀ l o, σ₀.get l = some o → σ.get l = some o

theorem SubH.rel {ρ : LMap} {σ₀ σ : Heap} {w : World} (h : SubH σ₀ σ) (hr : Rel ρ σ w) : Rel ρ σ₀ w := rel_forget hr h.2 h.1

theorem Fine.forget {ρ : LMap} {σ₀ σ : Heap} {w w' : World} {K : Act → Heap → Prop} {ac' : Act} (h : SubH σ₀ σ) (hf : Fine ρ σ₀ w K ac' w') : Fine ρ σ w K ac' w' := by
  obtain ⟨ρ', a', σ', k1, k2, k3, k4, k5⟩ := hf
  have hocc : ∀ q b, Occ ρ σ₀ q b → Occ ρ σ q b := fun q b ⟨l, o, p, h1, h2, h3, h4⟩ => ⟨l, o, p, h.2 _ _ h1, h2, h3, h4⟩
  refine ⟨ρ', a', σ', k1, ⟨k2.le, k2.os, k2.tape, k2.output, k2.size, by rw [← h.1]; exact k2.nxt, fun b hb hn => k2.blk b hb fun ho => hn (hocc _ _ ho), fun q b hb ho => hocc q b (k2.own q b hb ho)⟩,
    ⟨fun l hl => k3.old l (by rw [h.1]; exact hl), fun l hl hg => k3.gone l (by rw [h.1]; exact hl) ?_⟩, k4, k5⟩
  cases hc : σ₀.get l with
  | none => rfl
  | some o => have := h.2 _ _ hc; rw [hg] at this; cases this

theorem AWPL.forget {c : Code} {σ₀ : Heap} (hs : SubH σ₀ σ) (h : AWPL P c Q a σ₀) : AWPL P c Q a σ := by
  intro ρ w ac hr ha b k cs
  obtain ⟨e, a', w', hq, harr⟩ := h ρ w ac (hs.rel hr) ha b k cs
  exact ⟨e, a', w', hq.forget hs, harr⟩

theorem AWP.forget {c : Code} {σ₀ : Heap} (hs : SubH σ₀ σ) (h : AWP P c Q a σ₀) : AWP P c Q a σ :=
  fun ρ w ac hr ha => wp_mono (h ρ w ac (hs.rel hr) ha) fun e _ _ hf => hf.forget hs
end

structure Stt where
  fr : List Value
  ents : Ent
  n : Nat

def Stt.act (S : Stt) : Act := ⟨⟨S.fr⟩, []⟩
def Stt.heap (S : Stt) : Heap := ⟨lk S.ents, S.n⟩

section
variable {d : Nat}
noncomputable def sttK (S : Stt) (k : KS d) : Bool := frEntry S.fr 0 (qrep undef d) fun fr => putsK S.ents h0 fun t => k fr [] t S.n

noncomputable def frEqB : Nat → List Value → FT d → Bool
  | _, [], _ => true
  | i, v :: r, fr => eqV 20 (pfun (ptN d i) fr) v && frEqB (i + 1) r fr
noncomputable def endB (N : Nat) (S : Stt) : KS d := fun fr ds t n => nilK ds (Nat.beq n S.n && Nat.beq S.fr.length N && frEqB 0 S.fr fr && S.ents.all fun x => eqO ((fHeap t 0).get x.1) (some x.2))

theorem frEqB_get {N : Nat} : ∀ {l : List Value} {i : Nat} {fr : FT d}, frEqB i l fr = true → ∀ j, j < l.length → pfun (ptN d (i + j)) fr = l.getD j undef
  | [], i, fr, _, j, hj => by simp at hj
  | v :: r, i, fr, h, 0, _ => by
    simp only [frEqB, Bool.and_eq_true] at h
    have := eqV_sound 20 _ _ h.1
    simpa using this
  | v :: r, i, fr, h, j + 1, hj => by
    simp only [frEqB, Bool.and_eq_true] at h
    have := frEqB_get (N := N) h.2 j (by simpa using hj)
    rw [show i + (j + 1) = i + 1 + j by omega, this]
    rfl

theorem sttK_true {N : Nat} {S : Stt} {k : KS d} (hd : N ≤ 4 ^ d) (hN : S.fr.length = N) (h : sttK S k = true) : ∃ fr t, k fr [] t S.n = true ∧ Rep N fr [] S.act ∧ fHeap t S.n = S.heap := by
  obtain ⟨fr, h, h2⟩ := frEntry_ok (N := N) hd S.fr 0 _ _ (by omega) h
  obtain ⟨t, h, ht⟩ := putsK_true h
  refine ⟨fr, t, h, ⟨hN, rfl, fun i hi => ?_⟩, ?_⟩
  · rw [h2 i hi, if_neg (by omega), if_pos (by omega)]
    simp [Stt.act, Array.getD_eq_getD_getElem?, List.getD_eq_getElem?_getD]
  · apply Heap.ext'
    · intro l
      rw [ht S.n l, h0_get]
      show _ = lk S.ents l
      cases lk S.ents l <;> rfl
    · rfl

theorem endB_true {N : Nat} {S : Stt} {fr : FT d} {ds : DS} {t : HT} {n : Nat} (h : endB N S fr ds t n = true) {a : Act} (hr : Rep N fr ds a) : S.fr.length = N ∧ a = S.act ∧ SubH S.heap (fHeap t n) := by
  obtain ⟨hds, h⟩ := nilK_true h
  simp only [Bool.and_eq_true, List.all_eq_true] at h
  obtain ⟨⟨⟨h1, h2⟩, h3⟩, h4⟩ := h
  have h1 : n = S.n := Nat.eq_of_beq_eq_true h1
  have h2 : S.fr.length = N := Nat.eq_of_beq_eq_true h2
  refine ⟨h2, ?_, h1.symm, fun l o hl => ?_⟩
  · obtain ⟨tm, df⟩ := a
    have e1 := hr.defers
    have e2 := hr.size
    simp only at e1 e2
    subst e1
    subst hds
    show Act.mk tm [] = ⟨⟨S.fr⟩, []⟩
    congr 1
    refine Array.ext (by simp; omega) fun i k1 k2 => ?_
    have g1 := hr.get i (by omega)
    have g2 := frEqB_get (N := N) h3 i (by simpa using k2)
    rw [Nat.zero_add] at g2
    rw [g2] at g1
    simp only [Array.getD_eq_getD_getElem?, List.getD_eq_getElem?_getD] at g1
    rw [Array.getElem?_eq_getElem k1, List.getElem?_eq_getElem (by simpa using k2)] at g1
    simpa using g1
  · have := eqO_sound (h4 (l, o) (lk_mem hl))
    rw [fHeap_get t n 0]
    exact this

noncomputable def roundsN (ix : Sc d) (E : Env) (cl : Cl) (k : KS d) (m : Nat) : KS d :=
  Nat.rec (motive := fun _ => KS d) k (fun _ ih fr ds t n => ix E cl fr ds t n fun x fr ds t n => FX.rec (motive := fun _ => Bool) (ih fr ds t n) (fun _ => false) false x) m
end

def Adv (E : Env) (c : Code) (S S' : Stt) : Prop := ∀ Q, AWPL E.P c Q S'.act S'.heap → AWPL E.P c Q S.act S.heap

theorem Adv.trans {E : Env} {c : Code} {S S' S'' : Stt} (h : Adv E c S S') (k : Adv E c S' S'') : Adv E c S S'' := fun Q hq => h Q (k Q hq)

noncomputable def pieceB (E : Env) (T : Tab) (cl : Cl) (f : FuncId) (d N : Nat) (c : Code) (m : Nat) (S S' : Stt) : Bool :=
  Nat.beq S.fr.length N && sttK S (roundsN (exC (cC E T f d N c)) E cl (endB N S') m)

section
variable {E : Env} {T : Tab} {cl : Cl} {d N : Nat} {f : FuncId}

theorem rounds_ok (hE : EnvOk E) (hm : E.P.follows .mixedOrders = true) (hd : N ≤ 4 ^ d) (hcl : ClIs (CA E) cl) {c : Code} (hc : codeOkB T f c = true) {k : KS d} : ∀ (m : Nat) (fr : FT d) (ds : DS) (t : HT) (n : Nat),
    roundsN (exC (cC E T f d N c)) E cl k m fr ds t n = true → ∃ fr' ds' t' n', k fr' ds' t' n' = true ∧
      ∀ Q, (∀ b, Rep N fr' ds' b → AWPL E.P c Q b (fHeap t' n')) → ∀ a, Rep N fr ds a → AWPL E.P c Q a (fHeap t n)
  | 0, fr, ds, t, n, h => ⟨fr, ds, t, n, h, fun Q hq => hq⟩
  | m + 1, fr, ds, t, n, h => by
    have h : exC (cC E T f d N c) E cl fr ds t n (fun x fr ds t n => FX.rec (motive := fun _ => Bool) (roundsN (exC (cC E T f d N c)) E cl k m fr ds t n) (fun _ => false) false x) = true := h
    obtain ⟨e, fr₁, ds₁, t₁, n₁, h1, h2⟩ := exC_ok hE hm hd hcl c hc fr ds t n _ h
    rcases fx_rec h1 with ⟨rfl, h1⟩ | ⟨i, rfl, h1⟩ | ⟨rfl, h1⟩
    · obtain ⟨fr₂, ds₂, t₂, n₂, h3, h4⟩ := rounds_ok hE hm hd hcl hc m fr₁ ds₁ t₁ n₁ h1
      refine ⟨fr₂, ds₂, t₂, n₂, h3, fun Q hq a hr => awpl_round ((h2 a hr).mono ?_)⟩
      rintro e' b τ ⟨rfl, hb, rfl⟩
      exact h4 Q hq b hb
    · cases h1
    · cases h1

theorem piece_ok (hE : EnvOk E) (hm : E.P.follows .mixedOrders = true) (hd : N ≤ 4 ^ d) (hcl : ClIs (CA E) cl) {c : Code} (hc : codeOkB T f c = true) {m : Nat} {S S' : Stt} (h : pieceB E T cl f d N c m S S' = true) : Adv E c S S' := by
  intro Q hq
  unfold pieceB at h
  rw [Bool.and_eq_true] at h
  have hN : S.fr.length = N := Nat.eq_of_beq_eq_true h.1
  obtain ⟨fr, t, h1, hr, ht⟩ := sttK_true hd hN h.2
  obtain ⟨fr', ds', t', n', h2, h3⟩ := rounds_ok hE hm hd hcl hc m _ _ _ _ h1
  have := h3 Q (fun b hb => by
    obtain ⟨_, e1, e2⟩ := endB_true h2 hb
    subst e1
    exact hq.forget e2) S.act hr
  rw [ht] at this
  exact this

theorem loopTo_in {c : Code} {x : FX} {fr' : FT d} {ds' : DS} {t' : HT} {n' : Nat} : ∀ (m : Nat) {fr : FT d} {ds : DS} {t : HT} {n : Nat}, LoopTo E d N c x fr' ds' t' n' m fr ds t n →
    ∀ a, Rep N fr ds a → AWPL E.P c (fun e b τ => e = x.ex' ∧ Rep N fr' ds' b ∧ τ = fHeap t' n') a (fHeap t n)
  | 0, fr, ds, t, n, h, _, _ => h.elim
  | m + 1, fr, ds, t, n, h, a, hr => by
    rcases h with ⟨fr₁, ds₁, t₁, n₁, h1, h2⟩ | ⟨hx, h1⟩
    · refine awpl_round ((h1 a hr).mono ?_)
      rintro e' b τ ⟨rfl, hb, rfl⟩
      exact loopTo_in m h2 b hb
    · refine awpl_round ((h1 a hr).mono ?_)
      rintro e' b τ ⟨rfl, hb, rfl⟩
      cases x with
      | nm => exact absurd rfl hx
      | ex i => exact ⟨rfl, hb, rfl⟩
      | rt => exact ⟨rfl, hb, rfl⟩

theorem loopN_to (hE : EnvOk E) (hm : E.P.follows .mixedOrders = true) (hd : N ≤ 4 ^ d) (hcl : ClIs (CA E) cl) {c : Code} (hc : codeOkB T f c = true) {k : KX d} : ∀ (m : Nat) (fr : FT d) (ds : DS) (t : HT) (n : Nat),
    loopN (exC (cC E T f d N c)) E cl k m fr ds t n = true → ∃ e fr' ds' t' n', k e fr' ds' t' n' = true ∧ LoopTo E d N c e fr' ds' t' n' m fr ds t n := by
  intro m
  induction m with
  | zero => intro fr ds t n h; cases h
  | succ m ih =>
    intro fr ds t n h
    have h : exC (cC E T f d N c) E cl fr ds t n (fun e fr ds t n => FX.rec (motive := fun _ => Bool) (loopN (exC (cC E T f d N c)) E cl k m fr ds t n) (fun i => k (.ex i) fr ds t n) (k .rt fr ds t n) e) = true := h
    obtain ⟨e, fr₁, ds₁, t₁, n₁, h1, h2⟩ := exC_ok hE hm hd hcl c hc fr ds t n _ h
    rcases fx_rec h1 with ⟨rfl, h1⟩ | ⟨i, rfl, h1⟩ | ⟨rfl, h1⟩
    · obtain ⟨e₂, fr₂, ds₂, t₂, n₂, h3, h4⟩ := ih fr₁ ds₁ t₁ n₁ h1
      exact ⟨e₂, fr₂, ds₂, t₂, n₂, h3, .inl ⟨fr₁, ds₁, t₁, n₁, h2, h4⟩⟩
    · exact ⟨.ex i, fr₁, ds₁, t₁, n₁, h1, .inr ⟨(fun h => nomatch h), h2⟩⟩
    · exact ⟨.rt, fr₁, ds₁, t₁, n₁, h1, .inr ⟨(fun h => nomatch h), h2⟩⟩

noncomputable def lastB (E : Env) (T : Tab) (cl : Cl) (f : FuncId) (d N : Nat) (c : Code) (m i : Nat) (S S' : Stt) : Bool :=
  Nat.beq S.fr.length N && sttK S (loopN (exC (cC E T f d N c)) E cl (fun x fr ds t n => FX.rec (motive := fun _ => Bool) false (fun j => Nat.beq j i && endB N S' fr ds t n) false x) m)

theorem last_ok (hE : EnvOk E) (hm : E.P.follows .mixedOrders = true) (hd : N ≤ 4 ^ d) (hcl : ClIs (CA E) cl) {c : Code} (hc : codeOkB T f c = true) {m i : Nat} {S S' : Stt} (h : lastB E T cl f d N c m i S S' = true) :
    ∃ τ', SubH S'.heap τ' ∧ AWPL E.P c (fun e b τ => e = .exit i ∧ b = S'.act ∧ τ = τ') S.act S.heap := by
  unfold lastB at h
  rw [Bool.and_eq_true] at h
  have hN : S.fr.length = N := Nat.eq_of_beq_eq_true h.1
  obtain ⟨fr, t, h1, hr, ht⟩ := sttK_true hd hN h.2
  obtain ⟨e, fr', ds', t', n', h2, h3⟩ := loopN_to hE hm hd hcl hc _ _ _ _ _ h1
  rcases fx_rec h2 with ⟨rfl, h2⟩ | ⟨j, rfl, h2⟩ | ⟨rfl, h2⟩
  · cases h2
  · rw [Bool.and_eq_true] at h2
    have hj : j = i := Nat.eq_of_beq_eq_true h2.1
    subst hj
    have h4 := loopTo_in _ h3 S.act hr
    rw [ht] at h4
    obtain ⟨b₀, hb₀⟩ := rep_ex (N := N) fr' ds'
    have hsub := (endB_true h2.2 hb₀).2.2
    refine ⟨fHeap t' n', hsub, ?_⟩
    intro ρ w ac hr ha b k cs
    obtain ⟨e, a', w', hq, harr⟩ := h4 ρ w ac hr ha b k cs
    exact ⟨e, a', w', hq.mono fun b τ ⟨q1, q2, q3⟩ => ⟨q1, (endB_true h2.2 q2).2.1, q3⟩, harr⟩
  · cases h2

noncomputable def seqsN (E : Env) (T : Tab) (cl : Cl) (f : FuncId) (d N : Nat) (k : KS d) : List Code → KS d
  | [], fr, ds, t, n => k fr ds t n
  | c :: r, fr, ds, t, n => exC (cC E T f d N c) E cl fr ds t n fun x fr ds t n => FX.rec (motive := fun _ => Bool) (seqsN E T cl f d N k r fr ds t n) (fun _ => false) false x

def AWPs (P : Program) (Q : AQ) : List Code → Act → Heap → Prop
  | [], a, σ => Q .normal a σ
  | c :: r, a, σ => AWP P c (aThen (AWPs P Q r) Q) a σ

theorem seqs_ok (hE : EnvOk E) (hm : E.P.follows .mixedOrders = true) (hd : N ≤ 4 ^ d) (hcl : ClIs (CA E) cl) {k : KS d} : ∀ (L : List Code), (∀ c ∈ L, codeOkB T f c = true) → ∀ (fr : FT d) (ds : DS) (t : HT) (n : Nat),
    seqsN E T cl f d N k L fr ds t n = true → ∃ fr' ds' t' n', k fr' ds' t' n' = true ∧
      ∀ Q : AQ, (∀ b, Rep N fr' ds' b → Q .normal b (fHeap t' n')) → ∀ a, Rep N fr ds a → AWPs E.P Q L a (fHeap t n)
  | [], _, fr, ds, t, n, h => ⟨fr, ds, t, n, h, fun Q hq => hq⟩
  | c :: r, hc, fr, ds, t, n, h => by
    have h : exC (cC E T f d N c) E cl fr ds t n (fun x fr ds t n => FX.rec (motive := fun _ => Bool) (seqsN E T cl f d N k r fr ds t n) (fun _ => false) false x) = true := h
    obtain ⟨e, fr₁, ds₁, t₁, n₁, h1, h2⟩ := exC_ok hE hm hd hcl c (hc c (List.mem_cons_self ..)) fr ds t n _ h
    rcases fx_rec h1 with ⟨rfl, h1⟩ | ⟨i, rfl, h1⟩ | ⟨rfl, h1⟩
    · obtain ⟨fr₂, ds₂, t₂, n₂, h3, h4⟩ := seqs_ok hE hm hd hcl r (fun c h => hc c (List.mem_cons_of_mem _ h)) fr₁ ds₁ t₁ n₁ h1
      refine ⟨fr₂, ds₂, t₂, n₂, h3, fun Q hq a hr => (h2 a hr).mono ?_⟩
      rintro e' b τ ⟨rfl, hb, rfl⟩
      exact h4 Q hq b hb
    · cases h1
    · cases h1

noncomputable def seqsB (E : Env) (T : Tab) (cl : Cl) (f : FuncId) (d N : Nat) (L : List Code) (S S' : Stt) : Bool :=
  Nat.beq S.fr.length N && sttK S (seqsN E T cl f d N (endB N S') L)

theorem seqsB_ok (hE : EnvOk E) (hm : E.P.follows .mixedOrders = true) (hd : N ≤ 4 ^ d) (hcl : ClIs (CA E) cl) {L : List Code} (hc : ∀ c ∈ L, codeOkB T f c = true) {S S' : Stt} (h : seqsB E T cl f d N L S S' = true) {Q : AQ}
    (hq : ∀ τ, SubH S'.heap τ → Q .normal S'.act τ) : AWPs E.P Q L S.act S.heap := by
  unfold seqsB at h
  rw [Bool.and_eq_true] at h
  have hN : S.fr.length = N := Nat.eq_of_beq_eq_true h.1
  obtain ⟨fr, t, h1, hr, ht⟩ := sttK_true hd hN h.2
  obtain ⟨fr', ds', t', n', h2, h3⟩ := seqs_ok hE hm hd hcl L hc _ _ _ _ h1
  have := h3 Q (fun b hb => by
    obtain ⟨_, e1, e2⟩ := endB_true h2 hb
    subst e1
    exact hq _ e2) S.act hr
  rw [ht] at this
  exact this

noncomputable def bodyB (E : Env) (T : Tab) (cl : Cl) (f : FuncId) (d N : Nat) (c : Code) (rs : List (QR d)) (S : Stt) (v : Value) (post : Ent) (n1 : Nat) : Bool :=
  Nat.beq S.fr.length N && sttK S fun fr ds t n => exC (cC E T f d N c) E cl fr ds t n fun x fr ds t n => FX.rec (motive := fun _ => Bool)
    (nilK ds (resK fr t rs fun vs => oneK vs fun u => eqV 20 u v && Nat.beq n n1 && post.all fun x => eqO ((fHeap t 0).get x.1) (some x.2))) (fun _ => false)
    (nilK ds (resK fr t rs fun vs => oneK vs fun u => eqV 20 u v && Nat.beq n n1 && post.all fun x => eqO ((fHeap t 0).get x.1) (some x.2))) x

theorem body_ok (hE : EnvOk E) (hm : E.P.follows .mixedOrders = true) (hd : N ≤ 4 ^ d) (hcl : ClIs (CA E) cl) {c : Code} (hc : codeOkB T f c = true) {fn : Func} {rs : List (QR d)} (hrs : cRs E d N fn.results.toList = some rs)
    {S : Stt} {v : Value} {post : Ent} {n1 : Nat} (h : bodyB E T cl f d N c rs S v post n1 = true) :
    AWP E.P c (aBodyE E fn fun u τ => u = v ∧ τ.nxt = n1 ∧ ∀ l o, lk post l = some o → τ.get l = some o) S.act S.heap := by
  unfold bodyB at h
  rw [Bool.and_eq_true] at h
  have hN : S.fr.length = N := Nat.eq_of_beq_eq_true h.1
  obtain ⟨fr, t, h1, hr, ht⟩ := sttK_true hd hN h.2
  obtain ⟨e, fr', ds', t', n', h2, h3⟩ := exC_ok hE hm hd hcl c hc _ _ _ _ _ h1
  have h3 := h3 S.act hr
  rw [ht] at h3
  have fin : nilK ds' (resK fr' t' rs fun vs => oneK vs fun u => eqV 20 u v && Nat.beq n' n1 && post.all fun x => eqO ((fHeap t' 0).get x.1) (some x.2)) = true → ∀ b, Rep N fr' ds' b →
      (∀ d ∈ b.defers, ∀ g cap, d.target = .fn (.func g) cap → E.B g = true) ∧ aLeaves E.P fn b (fun u τ => u = v ∧ τ.nxt = n1 ∧ ∀ l o, lk post l = some o → τ.get l = some o) b.defers (fHeap t' n') := by
    intro h b hb
    obtain ⟨hds, h⟩ := nilK_true h
    subst hds
    rw [hb.defers]
    obtain ⟨vs, k1, k2⟩ := resK_true (n := n') hb hrs h
    have k2 := oneK_true k2
    simp only [Bool.and_eq_true, List.all_eq_true] at k2
    obtain ⟨⟨q1, q2⟩, q3⟩ := k2
    refine ⟨fun d hd => (by cases hd), aOne vs, by unfold aRes; rw [k1]; rfl, eqV_sound 20 _ _ q1, Nat.eq_of_beq_eq_true q2, fun l o hl => ?_⟩
    have := eqO_sound (q3 (l, o) (lk_mem hl))
    rw [fHeap_get t' n' 0]
    exact this
  rcases fx_rec h2 with ⟨rfl, h2⟩ | ⟨j, rfl, h2⟩ | ⟨rfl, h2⟩
  · refine h3.mono ?_
    rintro e b τ ⟨rfl, hb, rfl⟩
    exact fin h2 b hb
  · cases h2
  · refine h3.mono ?_
    rintro e b τ ⟨rfl, hb, rfl⟩
    exact fin h2 b hb
end

end Go.Proofs.YtfchjhfccnodpaaGreat
end

section
namespace Go.Proofs.YtfchjhfccnodpaaGreat
set_option linter.unusedSimpArgs false
set_option linter.unusedVariables false

structure LParts where
  A : Code
  B : Code
  C : Code
  i : Nat
  c : Code
  D : Code

def LParts.code (p : LParts) : Code := .seq p.A (.seq p.B (.seq (.seq p.C (.block p.i (.loop p.c))) p.D))

def loopParts : Code → Option LParts
  | .seq A (.seq B (.seq (.seq C (.block i (.loop c))) D)) => some ⟨A, B, C, i, c, D⟩
  | _ => none

theorem loopParts_eq {c : Code} {p : LParts} (h : loopParts c = some p) : c = p.code := by
  unfold loopParts at h
  split at h
  · cases h; rfl
  · cases h

def partsO (P : Program) (f : FuncId) : Option LParts := ((P.funcs[f]?).bind (·.body)).bind loopParts
def parts (P : Program) (f : FuncId) : LParts := (partsO P f).getD ⟨.skip, .skip, .skip, 0, .skip, .skip⟩
def resOf (P : Program) (f : FuncId) : List ResultVar := ((P.funcs[f]?).map (·.results.toList)).getD []
noncomputable def resK' (E : Env) (f : FuncId) (d N : Nat) : List (QR d) := (cRs E d N (resOf E.P f)).getD []

theorem parts_ok {P : Program} {f : FuncId} (h : (partsO P f).isSome = true) : ∃ fn, P.funcs[f]? = some fn ∧ fn.body = some (parts P f).code := by
  obtain ⟨p, hp⟩ := Option.isSome_iff_exists.1 h
  have hp' := hp
  unfold partsO at hp'
  rw [Option.bind_eq_some_iff] at hp'
  obtain ⟨c, h1, h2⟩ := hp'
  rw [Option.bind_eq_some_iff] at h1
  obtain ⟨fn, h3, h4⟩ := h1
  refine ⟨fn, h3, ?_⟩
  have : parts P f = p := by unfold parts; rw [hp]; rfl
  rw [this, ← loopParts_eq h2]
  exact h4

theorem awps_shape {P : Program} {p : LParts} {Q : AQ} {a : Act} {σ : Heap} (h : AWPs P (fun e => match e with | .normal => fun a σ => AWP P (.block p.i (.loop p.c)) (aThen (AWP P p.D Q) Q) a σ | e => Q e) [p.A, p.B, p.C] a σ) : AWP P p.code Q a σ := by
  have hq : ∀ (K K' : Act → Heap → Prop) (e : Exit) (a : Act) (σ : Heap), (∀ a σ, K a σ → K' a σ) →
      aThen K (fun e => match e with | .normal => fun a σ => AWP P (.block p.i (.loop p.c)) (aThen (AWP P p.D Q) Q) a σ | e => Q e) e a σ → aThen K' Q e a σ := by
    intro K K' e a σ hK h
    cases e with
    | normal => exact hK _ _ h
    | _ => exact h
  refine awp_seq (AWP.mono h fun e a σ => hq _ _ e a σ fun a σ h => ?_)
  refine awp_seq (AWP.mono h fun e a σ => hq _ _ e a σ fun a σ h => ?_)
  refine awp_seq (awp_seq (AWP.mono h fun e a σ he => ?_))
  cases e with
  | normal =>
    refine AWP.mono (show AWP P (.block p.i (.loop p.c)) (aThen (AWP P p.D Q) Q) a σ from he) fun e a σ h => ?_
    cases e with
    | normal => exact h
    | _ => exact h
  | _ => exact he

section
variable {E : Env} {T : Tab} {cl : Cl}

theorem memo_loop (hE : EnvOk E) (hA : AllOk E T) (hm : E.P.follows .mixedOrders = true) (hcl : ClIs (CA E) cl) {m : Memo} {d N k : Nat} (hd : N ≤ 4 ^ d) (hp : (partsO E.P m.f).isSome = true)
    (hN : ((E.P.funcs[m.f]?).map (·.ntmps)) = some N) (hr : (cRs E d N (resOf E.P m.f)).isSome = true) {S₁ S₂ S₃ : Stt}
    (h1 : seqsB E T cl m.f d N [(parts E.P m.f).A, (parts E.P m.f).B, (parts E.P m.f).C] ⟨m.args.toList ++ List.replicate (N - m.args.toList.length) undef, m.pre, m.n0⟩ S₁ = true)
    (h2 : Adv E (parts E.P m.f).c S₁ S₂) (h3 : lastB E T cl m.f d N (parts E.P m.f).c k (parts E.P m.f).i S₂ S₃ = true)
    (h4 : bodyB E T cl m.f d N (parts E.P m.f).D (resK' E m.f d N) S₃ m.val m.post m.n1 = true) : m.Ok E := by
  obtain ⟨fn, hf, hb⟩ := parts_ok hp
  have hco := hA m.f fn _ hf hb
  generalize hpp : parts E.P m.f = p at *
  simp only [LParts.code, codeOkB, Bool.and_eq_true] at hco
  obtain ⟨c1, c2, ⟨c3, c4⟩, c5⟩ := hco
  have hNf : fn.ntmps = N := by rw [hf] at hN; simpa using hN
  have hrs : cRs E d N fn.results.toList = some (resK' E m.f d N) := by
    have e : resOf E.P m.f = fn.results.toList := by unfold resOf; rw [hf]; rfl
    obtain ⟨x, hx⟩ := Option.isSome_iff_exists.1 hr
    unfold resK'
    rw [hx, ← e, hx]; rfl
  have hent : aEntry fn m.args = Stt.act ⟨m.args.toList ++ List.replicate (N - m.args.toList.length) undef, m.pre, m.n0⟩ := by
    unfold aEntry Stt.act
    rw [hNf]
    congr 1
    apply Array.ext'
    simp
  refine acallD hE hf hb ?_
  rw [hent]
  have hheap : (⟨lk m.pre, m.n0⟩ : Heap) = Stt.heap ⟨m.args.toList ++ List.replicate (N - m.args.toList.length) undef, m.pre, m.n0⟩ := rfl
  rw [hheap]
  refine awps_shape (seqsB_ok hE hm hd hcl (fun c hc => ?_) h1 fun τ hsub => ?_)
  · simp only [List.mem_cons, List.not_mem_nil, or_false] at hc
    rcases hc with rfl | rfl | rfl
    · exact c1
    · exact c2
    · exact c3
  · obtain ⟨τ', hs', hl⟩ := last_ok hE hm hd hcl c4 h3
    refine AWP.forget hsub (awp_block (awpl_loop (h2 _ ?_)))
    intro ρ w ac hrel ha b k cs
    obtain ⟨e, a', w', hq, harr⟩ := hl ρ w ac hrel ha b k cs
    refine ⟨e, a', w', hq.mono fun b τ ⟨e1, e2, e3⟩ => ?_, harr⟩
    subst e1 e2 e3
    simp only [aBlock, if_true]
    exact AWP.forget hs' (body_ok hE hm hd hcl c5 hrs h4)
end

noncomputable def bL (l : List Nat) : List Value := List.rec [] (fun n _ ih => .int .u8 (.ofNat n) :: ih) l
noncomputable def B (l : List Nat) : AObj := .cells (bL l) 1 false

def leL : List UInt8 → List UInt8 → Bool
  | [], _ => true
  | _ :: _, [] => false
  | a :: xs, b :: bs => Nat.blt a.toNat b.toNat || (Nat.beq a.toNat b.toNat && leL xs bs)
def insL (x : List UInt8) : List (List UInt8) → List (List UInt8)
  | [] => [x]
  | y :: r => if leL x y then x :: y :: r else y :: insL x r
def sortL : List (List UInt8) → List (List UInt8)
  | [] => []
  | x :: r => insL x (sortL r)
def keyL : Value → Option (List UInt8)
  | .string s => some s.data.toList
  | _ => none
def keysL : List MapEntry → Option (List (List UInt8))
  | [] => some []
  | e :: r => match keyL e.key, keysL r with
    | some k, some ks => some (k :: ks)
    | _, _ => none
def stampB (clock : Nat) : Nat → List MapEntry → Bool
  | _, [] => true
  | b, e :: r => Nat.ble b e.born && Nat.blt e.born clock && stampB clock (e.born + 1) r
def eqU : List UInt8 → List UInt8 → Bool
  | [], [] => true
  | a :: xs, b :: bs => Nat.beq a.toNat b.toNat && eqU xs bs
  | _, _ => false
def memU (k : List UInt8) : List (List UInt8) → Bool
  | [] => false
  | x :: r => eqU k x || memU k r
def nodU : List (List UInt8) → Bool
  | [] => true
  | x :: r => !memU x r && nodU r
def strLq (k : List UInt8) : Value := .string ⟨⟨k⟩⟩

noncomputable def sortedK (f g : FuncId) : CK := fun f' vs t n k z => Bool.rec z
  (match vs with
    | [.func (.func g') ⟨[]⟩ ⟨[.pointer (some ⟨r, 0, none⟩)]⟩] => Bool.rec z
      (match (fHeap t 0).get r with
        | some (.cells [.map (some m)] 0 _) => match (fHeap t 0).get m with
          | some (.map es clock) => match keysL es with
            | some ks => Bool.rec z
              (match ks with
                | [] => k (.slice none 0 0) t n
                | _ :: _ => hset n (some (.cells ((sortL ks).map strLq) 1 false)) t fun t => natK (Nat.succ n) fun n' => natK ks.length fun m => k (.slice (some ⟨n, 0, none⟩) m m) t n')
              (stampB clock 0 es && nodU ks && ks.all (fun x => Nat.ble x.length 65536) && Nat.ble ks.length 65536)
            | none => z
          | _ => z
        | _ => z) (Nat.beq g g')
    | _ => z) (Nat.beq f f')

end Go.Proofs.YtfchjhfccnodpaaGreat
end

section
namespace Go.Proofs.YtfchjhfccnodpaaGreat

abbrev TRow := List (Nat × List Nat × List (List Nat))

def tab3 : TRow := [(31, [0, 1, 2, 3, 4, 5, 6, 7, 8, 9, 10, 11], [[], [0], [0, 1], [0, 1, 2], [0, 1, 2, 3], [0, 1, 2, 3, 4], [0, 1, 2, 3], [0, 1, 2, 3, 6], [0, 1, 2, 3, 6, 7], [0, 1, 2, 3, 4, 5, 6, 7, 8], [0, 1, 2, 3, 4, 5, 6, 7, 8, 9], [0, 1, 2, 3, 4, 5, 6, 7, 8, 9, 10]])]
def tab7 : TRow := [(6, [0, 1, 2, 3, 4, 5, 6, 7, 8, 9, 10, 11, 12, 13], [[], [], [1], [1, 2], [1, 2, 3], [], [], [5, 6], [5, 6, 7], [5, 6, 7, 8], [1, 2, 3, 4, 5, 6, 7, 8, 9], [0, 1, 2, 3, 4, 5, 6, 7, 8, 9, 10], [0, 1, 2, 3, 4, 5, 6, 7, 8, 9, 10, 11], [0, 1, 2, 3, 4, 5, 6, 7, 8, 9, 10, 11, 12]])]
def tab9 : TRow := [(4, [0, 1, 2, 3, 4, 5, 6, 7, 8, 9, 10, 11, 12, 13, 14, 15, 16, 17, 18, 19, 20, 21, 22, 23, 24, 25, 26, 27, 28, 29, 30, 31], [[], [0], [], [0, 1, 2], [0, 1, 2, 3], [0, 1, 2, 3, 4], [0, 1, 2, 3, 4, 5], [0, 1, 2, 3, 4, 5, 6], [0, 1, 2, 3, 4, 5, 6, 7], [0, 1, 2, 3, 4, 5, 6], [0, 1, 2, 3, 4, 5, 6, 7, 8, 9], [0, 1, 2, 3, 4, 5, 6, 7, 8, 9, 10], [0, 1, 2, 3, 4, 5, 6, 7, 8, 9, 10, 11], [0, 1, 2, 3, 4, 5, 6, 7, 8, 9, 10, 11, 12], [0, 1, 2, 3, 4, 5, 6, 7, 8, 9, 10, 11, 12, 13], [0, 1, 2, 3, 4, 5, 6, 7, 8, 9, 10, 11, 12, 13, 14], [0, 1, 2, 3, 4, 5, 6, 7, 8, 9, 10, 11, 12, 13, 14, 15], [0, 1, 2, 3, 4, 5, 6, 7, 8, 9, 10, 11, 12, 13, 14, 15, 16], [0, 1, 2, 3, 4, 5, 6, 7, 8, 9, 10, 11, 12, 13, 14, 15, 16, 17], [0, 1, 2, 3, 4, 5, 6, 7, 8, 9, 10, 11, 12, 13, 14, 15, 16, 17, 18], [0, 1, 2, 3, 4, 5, 6, 7, 8, 9, 10, 11, 12, 13, 14, 15, 16, 17], [0, 1, 2, 3, 4, 5, 6, 7, 8, 9, 10, 11, 12, 13, 14, 15, 16, 17, 20], [0, 1, 2, 3, 4, 5, 6, 7, 8, 9, 10, 11, 12, 13, 14, 15, 16, 17, 18, 19, 20, 21], [0, 1, 2, 3, 4, 5, 6, 7, 8, 9, 10, 11, 12, 13, 14, 15, 16, 17, 18, 19, 20, 21, 22], [0, 1, 2, 3, 4, 5, 6, 7, 8, 9, 10, 11, 12, 13, 14, 15, 16, 17], [0, 1, 2, 3, 4, 5, 6, 7, 8, 9, 10, 11, 12, 13, 14, 15, 16, 17, 24], [0, 1, 2, 3, 4, 5, 6, 7, 8, 9, 10, 11, 12, 13, 14, 15, 16, 17], [0, 1, 2, 3, 4, 5, 6, 7, 8, 9, 10, 11, 12, 13, 14, 15, 16, 17, 24, 25, 26], [0, 1, 2, 3, 4, 5, 6, 7, 8, 9, 10, 11, 12, 13, 14, 15, 16, 17, 24, 25, 26, 27], [0, 1, 2, 3, 4, 5, 6, 7, 8, 9, 10, 11, 12, 13, 14, 15, 16, 17, 18, 19, 20, 21, 22, 23, 24, 25, 26, 27, 28], [0, 1, 2, 3, 4, 5, 6, 7, 8, 9, 10, 11, 12, 13, 14, 15, 16, 17, 18, 19, 20, 21, 22, 23, 24, 25, 26, 27, 28, 29], [0, 1, 2, 3, 4, 5, 6, 7, 8, 9, 10, 11, 12, 13, 14, 15, 16, 17, 18, 19, 20, 21, 22, 23, 24, 25, 26, 27, 28, 29, 30]])]
def tab10 : TRow := [(7, [0, 1, 2, 3, 4, 5, 6, 7, 8], [[], [0], [], [0, 1, 2], [0, 1, 2, 3], [0, 1, 2, 3, 4], [], [6], [0, 1, 2, 3, 4, 5, 6, 7]]), (10, [0, 1, 2, 3, 4, 5, 6, 7, 8, 9, 10, 11, 12, 13, 14, 15, 16], [[], [0], [0, 1], [0, 1, 2], [0, 1, 2, 3], [0, 1, 2, 3, 4], [0, 1, 2, 3, 4, 5], [0, 1, 2, 3, 4, 5, 6], [0, 1, 2, 3, 4, 5, 6, 7], [0, 1, 2, 3, 4, 5, 6], [0, 1, 2, 3, 4, 5, 6, 7, 8, 9], [0, 1, 2, 3, 4, 5, 6, 7, 8, 9, 10], [0, 1, 2, 3, 4, 5, 6, 7, 8, 9, 10, 11], [0, 1, 2, 3, 4, 5, 6], [0, 1, 2, 3, 4, 5, 6, 13], [0, 1, 2, 3, 4, 5, 6, 7, 8, 9, 10, 11, 12, 13, 14], [0, 1, 2, 3, 4, 5, 6, 7, 8, 9, 10, 11, 12, 13, 14, 15]]), (12, [0, 1, 2, 3, 4, 5, 6, 7, 8, 9, 10], [[], [0], [], [2], [], [2, 3, 4], [2, 3, 4, 5], [2, 3, 4, 5, 6], [0, 1, 2, 3, 4, 5, 6, 7], [0, 1, 2, 3, 4, 5, 6, 7, 8], [0, 1, 2, 3, 4, 5, 6, 7, 8, 9]])]
def tab11 : TRow := [(12, [0, 1, 2, 3, 4, 5, 6, 7, 8, 9, 10], [[], [0], [], [2], [], [2, 3, 4], [2, 3, 4, 5], [2, 3, 4, 5, 6], [0, 1, 2, 3, 4, 5, 6, 7], [0, 1, 2, 3, 4, 5, 6, 7, 8], [0, 1, 2, 3, 4, 5, 6, 7, 8, 9]])]
def tab14 : TRow := [(3, [0, 1, 2, 3, 4, 5, 6, 7, 8, 9, 10, 11, 12, 13, 14, 15], [[], [], [1], [1, 2], [0, 1, 2, 3], [0, 1, 2, 3, 4], [0, 1, 2, 3, 4, 5], [0, 1, 2, 3, 4, 5, 6], [0, 1, 2, 3, 4, 5], [0, 1, 2, 3, 4, 5, 6, 7, 8], [0, 1, 2, 3, 4, 5, 6, 7, 8, 9], [0, 1, 2, 3, 4, 5, 6, 7, 8, 9, 10], [0, 1, 2, 3, 4, 5], [0, 1, 2, 3, 4, 5, 12], [0, 1, 2, 3, 4, 5, 6, 7, 8, 9, 10, 11, 12, 13], [0, 1, 2, 3, 4, 5, 6, 7, 8, 9, 10, 11, 12, 13, 14]]), (5, [0, 1, 2, 3, 4, 5, 8, 9, 10, 11, 6, 7, 12, 13, 14], [[], [0], [], [0, 1, 2], [0, 1, 2, 3], [], [5], [0, 1, 2, 3, 4, 5, 6], [], [8], [], [8, 9, 10], [0, 1, 2, 3, 4, 5, 6, 7, 8, 9, 10, 11], [0, 1, 2, 3, 4, 5, 6, 7, 8, 9, 10, 11, 12], [0, 1, 2, 3, 4, 5, 6, 7, 8, 9, 10, 11, 12, 13]])]
def tab15 : TRow := [(6, [0, 1, 2, 3, 4, 5, 6, 7, 8, 9, 10], [[], [0], [], [2], [], [2, 3, 4], [2, 3, 4, 5], [2, 3, 4, 5, 6], [0, 1, 2, 3, 4, 5, 6, 7], [0, 1, 2, 3, 4, 5, 6, 7, 8], [0, 1, 2, 3, 4, 5, 6, 7, 8, 9]])]
def tab18 : TRow := [(7, [0, 1, 2, 3, 4, 5, 6, 7], [[], [0], [0, 1], [0, 1, 2], [], [4], [0, 1, 2, 3, 4, 5], [0, 1, 2, 3, 4, 5, 6]]), (25, [0, 1, 2, 3, 4, 5, 6, 7, 8, 9, 10, 11, 12], [[], [0], [0, 1], [0, 1, 2], [0, 1, 2, 3], [0, 1, 2, 3, 4], [0, 1, 2, 3], [0, 1, 2, 3, 6], [0, 1, 2, 3, 6, 7], [0, 1, 2, 3, 6, 7, 8], [0, 1, 2, 3, 6, 7, 8, 9], [0, 1, 2, 3, 4, 5, 6, 7, 8, 9, 10], [0, 1, 2, 3, 4, 5, 6, 7, 8, 9, 10, 11]]), (26, [0, 1, 2, 3, 4, 5, 6], [[], [0], [0, 1], [0, 1, 2], [], [4], [0, 1, 2, 3, 4, 5]])]
def tab19 : TRow := [(10, [0, 1, 2, 3, 5, 6, 4, 7, 8, 9], [[], [0], [0, 1], [0, 1, 2], [0, 1, 2, 3], [0, 1], [0, 1, 5], [0, 1, 2, 3, 4, 5, 6], [0, 1, 2, 3, 4, 5, 6, 7], [0, 1, 2, 3, 4, 5, 6, 7, 8]]), (15, [0, 1, 2, 3, 5, 6, 4, 7, 8, 9], [[], [0], [0, 1], [0, 1, 2], [0, 1, 2, 3], [0, 1], [0, 1, 5], [0, 1, 2, 3, 4, 5, 6], [0, 1, 2, 3, 4, 5, 6, 7], [0, 1, 2, 3, 4, 5, 6, 7, 8]]), (25, [0, 1, 2, 3, 4, 5, 6, 7, 8, 9, 10, 11, 12, 13], [[], [0], [], [0, 1, 2], [0, 1, 2, 3], [0, 1, 2, 3, 4], [], [6], [], [8], [6, 7, 8, 9], [6, 7, 8, 9, 10], [6, 7, 8, 9, 10, 11], [0, 1, 2, 3, 4, 5, 6, 7, 8, 9, 10, 11, 12]]), (30, [0, 1, 2, 3, 4, 5, 6, 7, 8, 9, 10, 11, 12, 13], [[], [0], [], [0, 1, 2], [0, 1, 2, 3], [0, 1, 2, 3, 4], [], [6], [], [8], [6, 7, 8, 9], [6, 7, 8, 9, 10], [6, 7, 8, 9, 10, 11], [0, 1, 2, 3, 4, 5, 6, 7, 8, 9, 10, 11, 12]])]
def tab21 : TRow := [(6, [0, 1, 2, 3, 4, 5, 6, 7, 8, 9, 10, 11], [[], [0], [], [0, 1, 2], [0, 1, 2, 3], [], [5], [], [5, 6, 7], [5, 6, 7, 8], [0, 1, 2, 3, 4, 5, 6, 7, 8, 9], [0, 1, 2, 3, 4, 5, 6, 7, 8, 9, 10]])]
def tab23 : TRow := [(3, [0, 1, 2, 3, 4, 5, 6, 7, 9, 10, 11, 12, 13, 8, 14, 15], [[], [0], [0, 1], [0, 1, 2], [], [4], [4, 5], [4, 5, 6], [4, 5, 6, 7], [], [], [10], [10, 11], [10, 11, 12], [4, 5, 6, 7, 8, 10, 11, 12, 13], [0, 1, 2, 3, 4, 5, 6, 7, 8, 9, 10, 11, 12, 13, 14]]), (8, [0, 1, 2, 3, 4, 5, 6, 7, 8, 9, 10, 11], [[], [], [], [2], [], [4], [0, 2, 3], [0, 2, 3, 6], [0, 2, 3, 6, 7], [0, 1, 2, 3, 4, 5, 6, 7, 8], [0, 1, 2, 3, 4, 5, 6, 7, 8, 9], [0, 1, 2, 3, 4, 5, 6, 7, 8, 9, 10]]), (9, [0, 1, 2, 3, 4, 5, 6, 7, 8, 9, 10], [[], [0], [0, 1], [0, 1, 2], [], [4], [4, 5], [0, 1, 2, 3, 4, 5, 6], [0, 1, 2, 3, 4, 5, 6, 7], [0, 1, 2, 3, 4, 5, 6, 7, 8], [0, 1, 2, 3, 4, 5, 6, 7, 8, 9]])]
def tab24 : TRow := [(5, [0, 1, 2, 3, 5, 7, 4, 6, 8, 9, 10, 11, 12, 13, 14], [[], [0], [0, 1], [], [3], [], [3, 4, 5], [], [3, 4, 5, 6, 7], [3, 4, 5, 6, 7, 8], [3, 4, 5, 6, 7, 8, 9], [0, 1, 2, 3, 4, 5, 6, 7, 8, 9, 10], [0, 1, 2, 3, 4, 5, 6, 7, 8, 9, 10, 11], [0, 1, 2, 3, 4, 5, 6, 7, 8, 9, 10, 11, 12], [0, 1, 2, 3, 4, 5, 6, 7, 8, 9, 10, 11, 12, 13]]), (9, [0, 1, 2, 3, 5, 8, 4, 6, 9, 7, 10, 11, 12, 13, 14, 15], [[], [0], [0, 1], [], [3], [], [3, 4, 5], [3, 4, 5, 6], [], [3, 4, 5, 6, 8], [3, 4, 5, 6, 7, 8, 9], [3, 4, 5, 6, 7, 8, 9, 10], [0, 1, 2, 3, 4, 5, 6, 7, 8, 9, 10, 11], [0, 1, 2, 3, 4, 5, 6, 7, 8, 9, 10, 11, 12], [0, 1, 2, 3, 4, 5, 6, 7, 8, 9, 10, 11, 12, 13], [0, 1, 2, 3, 4, 5, 6, 7, 8, 9, 10, 11, 12, 13, 14]])]
def tab34 : TRow := [(2, [0, 1, 2, 3, 4, 5, 6, 7, 8, 9, 10, 11, 12, 13, 14], [[], [0], [0, 1], [0, 1, 2], [0, 1, 2, 3], [0, 1, 2, 3, 4], [0, 1, 2, 3, 4, 5], [0, 1, 2, 3, 4, 5, 6], [0, 1, 2, 3, 4, 5, 6, 7], [0, 1, 2, 3, 4, 5, 6], [0, 1, 2, 3, 4, 5, 6, 9], [0, 1, 2, 3, 4, 5, 6, 9, 10], [0, 1, 2, 3, 4, 5, 6, 9, 10, 11], [0, 1, 2, 3, 4, 5, 6, 7, 8, 9, 10, 11, 12], [0, 1, 2, 3, 4, 5, 6, 7, 8, 9, 10, 11, 12, 13]]), (5, [0, 1, 2, 3, 4, 5, 6, 7, 8, 9, 10, 11, 12, 13, 14, 15, 16, 17, 18, 19, 20, 21, 22, 23, 24, 25, 26, 27, 28, 29, 30], [[], [0], [0, 1], [0, 1, 2], [0, 1, 2, 3], [0, 1, 2, 3, 4], [0, 1, 2, 3, 4, 5], [0, 1, 2, 3, 4, 5, 6], [0, 1, 2, 3, 4, 5], [0, 1, 2, 3, 4, 5, 8], [0, 1, 2, 3, 4, 5, 8, 9], [0, 1, 2, 3, 4, 5, 8, 9, 10], [0, 1, 2, 3, 4, 5], [0, 1, 2, 3, 4, 5, 12], [0, 1, 2, 3, 4, 5, 12, 13], [0, 1, 2, 3, 4, 5, 12, 13, 14], [0, 1, 2, 3, 4, 5, 12, 13, 14, 15], [0, 1, 2, 3, 4, 5, 8, 9, 10, 11, 12, 13, 14, 15, 16], [0, 1, 2, 3, 4, 5, 8, 9, 10, 11, 12, 13, 14, 15, 16, 17], [0, 1, 2, 3, 4, 5, 6, 7, 8, 9, 10, 11, 12, 13, 14, 15, 16, 17, 18], [0, 1, 2, 3, 4, 5, 6, 7, 8, 9, 10, 11, 12, 13, 14, 15, 16, 17, 18, 19], [0, 1, 2, 3, 4, 5, 6, 7, 8, 9, 10, 11, 12, 13, 14, 15, 16, 17, 18, 19, 20], [0, 1, 2, 3, 4, 5, 6, 7, 8, 9, 10, 11, 12, 13, 14, 15, 16, 17, 18, 19, 20, 21], [0, 1, 2, 3, 4, 5, 6, 7, 8, 9, 10, 11, 12, 13, 14, 15, 16, 17, 18, 19, 20, 21, 22], [0, 1, 2, 3, 4, 5, 6, 7, 8, 9, 10, 11, 12, 13, 14, 15, 16, 17, 18, 19, 20, 21], [0, 1, 2, 3, 4, 5, 6, 7, 8, 9, 10, 11, 12, 13, 14, 15, 16, 17, 18, 19, 20, 21, 24], [0, 1, 2, 3, 4, 5, 6, 7, 8, 9, 10, 11, 12, 13, 14, 15, 16, 17, 18, 19, 20, 21, 24, 25], [0, 1, 2, 3, 4, 5, 6, 7, 8, 9, 10, 11, 12, 13, 14, 15, 16, 17, 18, 19, 20, 21, 24, 25, 26], [0, 1, 2, 3, 4, 5, 6, 7, 8, 9, 10, 11, 12, 13, 14, 15, 16, 17, 18, 19, 20, 21, 22, 23, 24, 25, 26, 27], [0, 1, 2, 3, 4, 5, 6, 7, 8, 9, 10, 11, 12, 13, 14, 15, 16, 17, 18, 19, 20, 21, 22, 23, 24, 25, 26, 27, 28], [0, 1, 2, 3, 4, 5, 6, 7, 8, 9, 10, 11, 12, 13, 14, 15, 16, 17, 18, 19, 20, 21, 22, 23, 24, 25, 26, 27, 28, 29]]), (8, [0, 1, 2, 3, 4, 5], [[], [0], [0, 1], [0, 1, 2], [], [0, 1, 2, 3, 4]]), (12, [0, 1, 2, 3, 4, 5, 6, 7], [[], [0], [], [2], [2, 3], [2, 3, 4], [0, 1, 2, 3, 4, 5], [0, 1, 2, 3, 4, 5, 6]]), (14, [0, 1, 2, 3, 4, 5, 6, 7, 8, 9], [[], [0], [0, 1], [0, 1, 2], [], [], [5], [], [7], [0, 1, 2, 3, 4, 5, 6, 7, 8]]), (15, [0, 1, 2, 3, 4, 5, 6, 7], [[], [0], [], [2], [2, 3], [2, 3, 4], [0, 1, 2, 3, 4, 5], [0, 1, 2, 3, 4, 5, 6]])]
def tab48 : TRow := [(4, [0, 1, 2, 3, 4, 5, 6, 7, 8, 9, 10, 11, 12, 13, 14, 15, 16, 17, 18, 19, 20, 21, 22, 23, 24, 25, 26, 27, 28, 29, 30, 31, 32, 33], [[], [], [0, 1], [0, 1, 2], [0, 1, 2, 3], [0, 1, 2, 3, 4], [0, 1, 2, 3, 4, 5], [0, 1, 2, 3, 4, 5, 6], [0, 1, 2, 3, 4, 5, 6, 7], [0, 1, 2, 3, 4, 5, 6, 7], [0, 1, 2, 3, 4, 5, 6, 7, 8, 9], [0, 1, 2, 3, 4, 5, 6, 7, 8, 9, 10], [0, 1, 2, 3, 4, 5, 6, 7, 8, 9, 10, 11], [0, 1, 2, 3, 4, 5, 6, 7, 8, 9, 10, 11, 12], [0, 1, 2, 3, 4, 5, 6, 7, 8, 9, 10, 11, 12, 13], [0, 1, 2, 3, 4, 5, 6, 7, 8, 9, 10, 11, 12, 13, 14], [0, 1, 2, 3, 4, 5, 6, 7, 8, 9, 10, 11, 12, 13, 14, 15], [0, 1, 2, 3, 4, 5, 6, 7, 8, 9, 10, 11, 12, 13, 14, 15, 16], [0, 1, 2, 3, 4, 5, 6, 7, 8, 9, 10, 11, 12, 13, 14, 15, 16, 17], [0, 1, 2, 3, 4, 5, 6, 7, 8, 9, 10, 11, 12, 13, 14, 15, 16, 17, 18], [0, 1, 2, 3, 4, 5, 6, 7, 8, 9, 10, 11, 12, 13, 14, 15, 16, 17, 18, 19], [0, 1, 2, 3, 4, 5, 6, 7, 8, 9, 10, 11, 12, 13, 14, 15, 16, 17, 18, 19], [0, 1, 2, 3, 4, 5, 6, 7, 8, 9, 10, 11, 12, 13, 14, 15, 16, 17, 18, 19, 21], [0, 1, 2, 3, 4, 5, 6, 7, 8, 9, 10, 11, 12, 13, 14, 15, 16, 17, 18, 19, 20, 21, 22], [0, 1, 2, 3, 4, 5, 6, 7, 8, 9, 10, 11, 12, 13, 14, 15, 16, 17, 18, 19, 20, 21, 22, 23], [0, 1, 2, 3, 4, 5, 6, 7, 8, 9, 10, 11, 12, 13, 14, 15, 16, 17, 18, 19, 20, 21, 22, 23, 24], [0, 1, 2, 3, 4, 5, 6, 7, 8, 9, 10, 11, 12, 13, 14, 15, 16, 17, 18, 19], [0, 1, 2, 3, 4, 5, 6, 7, 8, 9, 10, 11, 12, 13, 14, 15, 16, 17, 18, 19], [0, 1, 2, 3, 4, 5, 6, 7, 8, 9, 10, 11, 12, 13, 14, 15, 16, 17, 18, 19, 26, 27], [0, 1, 2, 3, 4, 5, 6, 7, 8, 9, 10, 11, 12, 13, 14, 15, 16, 17, 18, 19, 26, 27, 28], [0, 1, 2, 3, 4, 5, 6, 7, 8, 9, 10, 11, 12, 13, 14, 15, 16, 17, 18, 19, 26, 27, 28, 29], [0, 1, 2, 3, 4, 5, 6, 7, 8, 9, 10, 11, 12, 13, 14, 15, 16, 17, 18, 19, 20, 21, 22, 23, 24, 25, 26, 27, 28, 29, 30], [0, 1, 2, 3, 4, 5, 6, 7, 8, 9, 10, 11, 12, 13, 14, 15, 16, 17, 18, 19, 20, 21, 22, 23, 24, 25, 26, 27, 28, 29, 30, 31], [0, 1, 2, 3, 4, 5, 6, 7, 8, 9, 10, 11, 12, 13, 14, 15, 16, 17, 18, 19, 20, 21, 22, 23, 24, 25, 26, 27, 28, 29, 30, 31, 32]])]
def tab51 : TRow := [(4, [0, 1, 2, 3, 4, 5, 6, 7, 8, 9, 10, 11, 12, 13, 14, 15, 16, 17, 18, 19, 20, 21, 22, 23, 24, 25, 26, 27, 28, 29, 30, 31, 32, 33], [[], [], [0, 1], [0, 1, 2], [0, 1, 2, 3], [0, 1, 2, 3, 4], [0, 1, 2, 3, 4, 5], [0, 1, 2, 3, 4, 5, 6], [0, 1, 2, 3, 4, 5, 6, 7], [0, 1, 2, 3, 4, 5, 6, 7], [0, 1, 2, 3, 4, 5, 6, 7, 8, 9], [0, 1, 2, 3, 4, 5, 6, 7, 8, 9, 10], [0, 1, 2, 3, 4, 5, 6, 7, 8, 9, 10, 11], [0, 1, 2, 3, 4, 5, 6, 7, 8, 9, 10, 11, 12], [0, 1, 2, 3, 4, 5, 6, 7, 8, 9, 10, 11, 12, 13], [0, 1, 2, 3, 4, 5, 6, 7, 8, 9, 10, 11, 12, 13, 14], [0, 1, 2, 3, 4, 5, 6, 7, 8, 9, 10, 11, 12, 13, 14, 15], [0, 1, 2, 3, 4, 5, 6, 7, 8, 9, 10, 11, 12, 13, 14, 15, 16], [0, 1, 2, 3, 4, 5, 6, 7, 8, 9, 10, 11, 12, 13, 14, 15, 16, 17], [0, 1, 2, 3, 4, 5, 6, 7, 8, 9, 10, 11, 12, 13, 14, 15, 16, 17, 18], [0, 1, 2, 3, 4, 5, 6, 7, 8, 9, 10, 11, 12, 13, 14, 15, 16, 17, 18, 19], [0, 1, 2, 3, 4, 5, 6, 7, 8, 9, 10, 11, 12, 13, 14, 15, 16, 17, 18, 19], [0, 1, 2, 3, 4, 5, 6, 7, 8, 9, 10, 11, 12, 13, 14, 15, 16, 17, 18, 19, 21], [0, 1, 2, 3, 4, 5, 6, 7, 8, 9, 10, 11, 12, 13, 14, 15, 16, 17, 18, 19, 20, 21, 22], [0, 1, 2, 3, 4, 5, 6, 7, 8, 9, 10, 11, 12, 13, 14, 15, 16, 17, 18, 19, 20, 21, 22, 23], [0, 1, 2, 3, 4, 5, 6, 7, 8, 9, 10, 11, 12, 13, 14, 15, 16, 17, 18, 19, 20, 21, 22, 23, 24], [0, 1, 2, 3, 4, 5, 6, 7, 8, 9, 10, 11, 12, 13, 14, 15, 16, 17, 18, 19], [0, 1, 2, 3, 4, 5, 6, 7, 8, 9, 10, 11, 12, 13, 14, 15, 16, 17, 18, 19], [0, 1, 2, 3, 4, 5, 6, 7, 8, 9, 10, 11, 12, 13, 14, 15, 16, 17, 18, 19, 26, 27], [0, 1, 2, 3, 4, 5, 6, 7, 8, 9, 10, 11, 12, 13, 14, 15, 16, 17, 18, 19, 26, 27, 28], [0, 1, 2, 3, 4, 5, 6, 7, 8, 9, 10, 11, 12, 13, 14, 15, 16, 17, 18, 19, 26, 27, 28, 29], [0, 1, 2, 3, 4, 5, 6, 7, 8, 9, 10, 11, 12, 13, 14, 15, 16, 17, 18, 19, 20, 21, 22, 23, 24, 25, 26, 27, 28, 29, 30], [0, 1, 2, 3, 4, 5, 6, 7, 8, 9, 10, 11, 12, 13, 14, 15, 16, 17, 18, 19, 20, 21, 22, 23, 24, 25, 26, 27, 28, 29, 30, 31], [0, 1, 2, 3, 4, 5, 6, 7, 8, 9, 10, 11, 12, 13, 14, 15, 16, 17, 18, 19, 20, 21, 22, 23, 24, 25, 26, 27, 28, 29, 30, 31, 32]])]
def tab52 : TRow := [(3, [0, 1, 2, 3, 4, 5, 6, 7, 8, 9, 10, 11, 12, 16, 13, 14, 15], [[], [0], [0, 1], [0, 1, 2], [], [0, 1, 2, 3, 4], [0, 1, 2, 3, 4, 5], [0, 1, 2, 3, 4, 5, 6], [], [8], [8, 9], [8, 9, 10], [], [8, 9, 10, 11, 12], [0, 1, 2, 3, 4, 5, 6, 7, 8, 9, 10, 11, 12, 13], [0, 1, 2, 3, 4, 5, 6, 7, 8, 9, 10, 11, 12, 13, 14], []])]
def tab53 : TRow := [(21, [0, 1, 2, 3, 4, 5, 6, 7, 8, 9, 10, 11, 12, 13, 14, 15, 16, 17, 18, 19, 20, 21, 22, 23, 24, 25, 26, 27, 28, 29, 30, 31, 32, 33, 34, 35, 36, 37, 38, 39], [[], [], [], [], [], [], [], [], [], [6], [6, 9], [6, 7, 9, 10], [6, 7, 8, 9, 10, 11], [6, 7, 8, 9, 10, 11, 12], [], [], [14, 15], [6, 7, 8, 9, 10, 11, 12, 13, 14, 15, 16], [], [], [], [18], [18, 21], [18, 19, 21, 22], [18, 19, 20, 21, 22, 23], [18, 19, 20, 21, 22, 23, 24], [], [], [26, 27], [18, 19, 20, 21, 22, 23, 24, 25, 26, 27, 28], [0], [0, 30], [0, 1, 30, 31], [0, 1, 2, 6, 7, 8, 9, 10, 11, 12, 13, 14, 15, 16, 17, 18, 19, 20, 21, 22, 23, 24, 25, 30, 31, 32], [0, 1, 2, 6, 7, 8, 9, 10, 11, 12, 13, 14, 15, 16, 17, 18, 19, 20, 21, 22, 23, 24, 25, 30, 31, 32, 33], [3], [3, 35], [3, 4, 35, 36], [0, 1, 2, 3, 4, 5, 6, 7, 8, 9, 10, 11, 12, 13, 14, 15, 16, 17, 18, 19, 20, 21, 22, 23, 24, 25, 26, 27, 28, 29, 30, 31, 32, 33, 34, 35, 36, 37], [0, 1, 2, 3, 4, 5, 6, 7, 8, 9, 10, 11, 12, 13, 14, 15, 16, 17, 18, 19, 20, 21, 22, 23, 24, 25, 26, 27, 28, 29, 30, 31, 32, 33, 34, 35, 36, 37, 38]])]
def tab54 : TRow := [(1, [0, 1, 2, 3, 4, 5, 6, 7, 8, 9, 10, 11, 12, 13, 14, 15], [[], [0], [0, 1], [0, 1, 2], [], [4], [], [6], [6, 7], [0, 1, 2, 3, 4, 5, 6, 7, 8], [0, 1, 2, 3, 4, 5, 6, 7, 8, 9], [0, 1, 2, 3, 4, 5, 6, 7, 8, 9, 10], [0, 1, 2, 3, 4, 5, 6, 7, 8, 9, 10], [], [0, 1, 2, 3, 4, 5, 6, 7, 8, 9, 10, 11, 13], [0, 1, 2, 3, 4, 5, 6, 7, 8, 9, 10, 11, 12, 13, 14]])]
def tab55 : TRow := [(3, [0, 1, 2, 3, 4, 5, 6, 7], [[], [0], [0, 1], [0, 1, 2], [], [4], [0, 1, 2, 3, 4, 5], [0, 1, 2, 3, 4, 5, 6]]), (5, [0, 1, 2, 3, 4, 5, 6, 7, 8, 9, 10, 11, 13, 14, 15, 16, 17, 12, 18, 19, 20], [[], [], [1], [], [3], [3, 4], [3, 4, 5], [], [7], [7, 8], [7, 8, 9], [7, 8, 9, 10], [1, 2, 3, 4, 5, 6, 7, 8, 9, 10, 11], [], [13], [13, 14], [13, 14, 15], [13, 14, 15, 16], [1, 2, 3, 4, 5, 6, 7, 8, 9, 10, 11, 12, 13, 14, 15, 16, 17], [0, 1, 2, 3, 4, 5, 6, 7, 8, 9, 10, 11, 12, 13, 14, 15, 16, 17, 18], [0, 1, 2, 3, 4, 5, 6, 7, 8, 9, 10, 11, 12, 13, 14, 15, 16, 17, 18, 19]])]
def tab56 : TRow := [(3, [0, 1, 2, 3, 4, 5, 6, 7, 8, 9, 10, 11, 12, 13, 14, 15, 16, 17, 18, 19, 20, 21, 22, 23, 24, 25, 26, 27], [[], [0], [0, 1], [0, 1, 2], [0, 1, 2, 3], [0, 1, 2, 3, 4], [0, 1, 2, 3, 4, 5], [0, 1, 2, 3, 4, 5, 6], [0, 1, 2, 3, 4, 5, 6, 7], [0, 1, 2, 3, 4, 5, 6, 7, 8], [0, 1, 2, 3, 4, 5, 6, 7, 8, 9], [0, 1, 2, 3, 4, 5, 6, 7, 8, 9, 10], [0, 1, 2, 3, 4, 5, 6, 7, 8, 9, 10, 11], [0, 1, 2, 3, 4, 5, 6, 7, 8, 9, 10, 11, 12], [0, 1, 2, 3, 4, 5, 6, 7, 8, 9, 10, 11, 12, 13], [0, 1, 2, 3, 4, 5, 6, 7, 8, 9, 10, 11, 12, 13, 14], [0, 1, 2, 3, 4, 5, 6, 7, 8, 9, 10, 11], [0, 1, 2, 3, 4, 5, 6, 7, 8, 9, 10, 11, 16], [0, 1, 2, 3, 4, 5, 6, 7, 8, 9, 10, 11, 12, 13, 14, 15, 16, 17], [0, 1, 2, 3, 4, 5, 6, 7, 8, 9, 10, 11, 12, 13, 14, 15, 16, 17, 18], [0, 1, 2, 3, 4, 5, 6, 7, 8, 9, 10, 11, 12, 13, 14, 15, 16, 17, 18, 19], [0, 1, 2, 3, 4, 5, 6, 7, 8, 9, 10, 11, 12, 13, 14, 15, 16, 17, 18, 19, 20], [0, 1, 2, 3, 4, 5, 6, 7, 8, 9, 10, 11, 12, 13, 14, 15, 16, 17, 18, 19, 20, 21], [0, 1, 2, 3, 4, 5, 6, 7, 8, 9, 10, 11, 12, 13, 14, 15, 16, 17, 18, 19, 20, 21, 22], [0, 1, 2, 3, 4, 5, 6, 7, 8, 9, 10, 11, 12, 13, 14, 15, 16, 17, 18, 19, 20, 21, 22, 23], [0, 1, 2, 3, 4, 5, 6, 7, 8, 9, 10, 11, 12, 13, 14, 15, 16, 17, 18, 19, 20, 21, 22, 23, 24], [0, 1, 2, 3, 4, 5, 6, 7, 8, 9, 10, 11, 12, 13, 14, 15, 16, 17, 18, 19, 20, 21, 22, 23, 24, 25], [0, 1, 2, 3, 4, 5, 6, 7, 8, 9, 10, 11, 12, 13, 14, 15, 16, 17, 18, 19, 20, 21, 22, 23, 24, 25, 26]])]
def tab61 : TRow := [(5, [0, 1, 2, 3, 4, 5, 6, 7, 8, 9, 10, 11, 12, 13, 14, 15], [[], [0], [0, 1], [0, 1, 2], [], [4], [], [6], [6, 7], [6, 7, 8], [6, 7, 8, 9], [], [11], [4, 5, 6, 7, 8, 9, 10, 11, 12], [0, 1, 2, 3, 4, 5, 6, 7, 8, 9, 10, 11, 12, 13], [0, 1, 2, 3, 4, 5, 6, 7, 8, 9, 10, 11, 12, 13, 14]])]
def tab63 : TRow := [(6, [0, 1, 2, 3, 4, 5, 6, 7], [[], [0], [], [2], [2, 3], [0, 1, 2, 3, 4], [0, 1, 2, 3, 4, 5], [0, 1, 2, 3, 4, 5, 6]]), (12, [0, 1, 2, 4, 6, 3, 5, 7, 8, 9, 10, 11, 12], [[], [0], [], [2], [], [2, 3, 4], [], [2, 3, 4, 5, 6], [2, 3, 4, 5, 6, 7], [2, 3, 4, 5, 6, 7, 8], [0, 1, 2, 3, 4, 5, 6, 7, 8, 9], [0, 1, 2, 3, 4, 5, 6, 7, 8, 9, 10], [0, 1, 2, 3, 4, 5, 6, 7, 8, 9, 10, 11]])]
def tab75 : TRow := [(6, [0, 1, 2, 3, 4, 5, 6, 7, 8, 9, 10], [[], [0], [], [0, 1, 2], [0, 1, 2, 3], [], [5], [], [5, 6, 7], [5, 6, 7, 8], [0, 1, 2, 3, 4, 5, 6, 7, 8, 9]])]
def tab76 : TRow := [(6, [0, 1, 2, 3, 4, 5, 6, 7, 8, 9], [[], [], [0, 1], [0, 1, 2], [], [], [4, 5], [4, 5, 6], [0, 1, 2, 3, 4, 5, 6, 7], [0, 1, 2, 3, 4, 5, 6, 7, 8]])]
def tab84 : TRow := [(9, [0, 1, 2, 3, 4, 5, 6, 7, 8], [[], [0], [0, 1], [0, 1, 2], [], [], [], [], [0, 1, 2, 3, 4, 5, 6, 7]])]
def tab85 : TRow := [(4, [0, 1, 2, 3, 4, 5, 6, 7, 8, 9, 10, 11, 12], [[], [], [1], [1, 2], [1, 2, 3], [], [5], [5, 6], [5, 6, 7], [1, 2, 3, 4, 5, 6, 7, 8], [0, 1, 2, 3, 4, 5, 6, 7, 8, 9], [0, 1, 2, 3, 4, 5, 6, 7, 8, 9, 10], [0, 1, 2, 3, 4, 5, 6, 7, 8, 9, 10, 11]])]
def tab89 : TRow := [(2, [0, 1, 2, 3, 4, 5, 6, 7, 8, 9], [[], [0], [0, 1], [0, 1, 2], [], [4], [4, 5], [4, 5, 6], [0, 1, 2, 3, 4, 5, 6, 7], [0, 1, 2, 3, 4, 5, 6, 7, 8]]), (3, [0, 1, 2, 3, 4, 5, 6, 7, 8, 9, 10], [[], [], [1], [1, 2], [1, 2, 3], [], [], [1, 2, 3, 4, 5, 6], [1, 2, 3, 4, 5, 6, 7], [0, 1, 2, 3, 4, 5, 6, 7, 8], [0, 1, 2, 3, 4, 5, 6, 7, 8, 9]])]
def tab90 : TRow := [(1, [0, 1, 2, 3, 5, 6, 7, 8, 4, 9, 10, 11], [[], [0], [0, 1], [0, 1, 2], [0, 1, 2, 3], [], [5], [5, 6], [5, 6, 7], [0, 1, 2, 3, 4, 5, 6, 7, 8], [0, 1, 2, 3, 4, 5, 6, 7, 8, 9], [0, 1, 2, 3, 4, 5, 6, 7, 8, 9, 10]]), (8, [0, 1, 2, 3, 4, 5, 6, 7], [[], [], [1], [1, 2], [1, 2, 3], [1, 2, 3, 4], [0, 1, 2, 3, 4, 5], [0, 1, 2, 3, 4, 5, 6]]), (9, [0, 1, 2, 3, 4, 5], [[], [0], [0, 1], [0, 1, 2], [], [0, 1, 2, 3, 4]]), (13, [0, 1, 2, 3, 4, 5, 6, 7, 8, 9, 10, 11, 12], [[], [], [], [2], [2, 3], [2, 3, 4], [0, 1, 2, 3, 4, 5], [0, 1, 2, 3, 4, 5, 6], [0, 1, 2, 3, 4, 5, 6, 7], [0, 1, 2, 3, 4, 5, 6, 7], [], [0, 1, 2, 3, 4, 5, 6, 7, 8, 10], [0, 1, 2, 3, 4, 5, 6, 7, 8, 9, 10, 11]]), (15, [0, 1, 3, 4, 2, 5, 6, 7, 8, 9, 10, 11], [[], [], [1], [], [], [0, 1, 2, 3, 4], [0, 1, 2, 3, 4, 5], [0, 1, 2, 3, 4, 5, 6], [0, 1, 2, 3, 4, 5, 6], [], [0, 1, 2, 3, 4, 5, 6, 7, 9], [0, 1, 2, 3, 4, 5, 6, 7, 8, 9, 10]]), (19, [0, 1, 2, 3, 4, 5, 6, 7, 8, 9, 10, 11, 12, 13, 14, 15], [[], [], [], [], [], [], [5], [0, 3], [0, 3, 7], [0, 3, 7, 8], [0, 1, 3, 4, 7, 8, 9], [0, 1, 3, 4, 7, 8, 9, 10], [0, 1, 3, 4, 7, 8, 9, 10, 11], [0, 1, 2, 3, 4, 5, 6, 7, 8, 9, 10, 11, 12], [0, 1, 2, 3, 4, 5, 6, 7, 8, 9, 10, 11, 12, 13], [0, 1, 2, 3, 4, 5, 6, 7, 8, 9, 10, 11, 12, 13, 14]]), (22, [0, 1, 2, 3, 4, 5, 6, 7], [[], [0], [0, 1], [0, 1, 2], [], [4], [], [0, 1, 2, 3, 4, 5, 6]])]
def tab102 : TRow := [(1, [0, 1, 3, 4, 2, 6, 5, 7, 8, 9], [[], [0], [0, 1], [], [3], [0, 1, 2, 3, 4], [0, 1, 2, 3, 4], [0, 1, 2, 3, 4, 5, 6], [0, 1, 2, 3, 4, 5, 6, 7], [0, 1, 2, 3, 4, 5, 6, 7, 8]]), (5, [0, 1, 2, 3, 4, 5, 6, 7, 8, 9, 10, 11, 12], [[], [0], [], [], [3], [], [3, 4, 5], [3, 4, 5, 6], [3, 4, 5, 6, 7], [3, 4, 5, 6, 7, 8], [0, 1, 2, 3, 4, 5, 6, 7, 8, 9], [0, 1, 2, 3, 4, 5, 6, 7, 8, 9, 10], [0, 1, 2, 3, 4, 5, 6, 7, 8, 9, 10, 11]])]
def tab103 : TRow := [(5, [0, 1, 2, 4, 6, 3, 5, 7, 8, 9, 10, 11, 12, 13], [[], [0], [], [2], [], [2, 3, 4], [], [2, 3, 4, 5, 6], [2, 3, 4, 5, 6, 7], [2, 3, 4, 5, 6, 7, 8], [2, 3, 4, 5, 6, 7, 8, 9], [0, 1, 2, 3, 4, 5, 6, 7, 8, 9, 10], [0, 1, 2, 3, 4, 5, 6, 7, 8, 9, 10, 11], [0, 1, 2, 3, 4, 5, 6, 7, 8, 9, 10, 11, 12]]), (9, [0, 1, 2, 4, 6, 9, 3, 5, 7, 10, 8, 11, 12, 13, 14, 15], [[], [0], [], [2], [], [2, 3, 4], [], [2, 3, 4, 5, 6], [2, 3, 4, 5, 6, 7], [], [2, 3, 4, 5, 6, 7, 9], [2, 3, 4, 5, 6, 7, 8, 9, 10], [2, 3, 4, 5, 6, 7, 8, 9, 10, 11], [0, 1, 2, 3, 4, 5, 6, 7, 8, 9, 10, 11, 12], [0, 1, 2, 3, 4, 5, 6, 7, 8, 9, 10, 11, 12, 13], [0, 1, 2, 3, 4, 5, 6, 7, 8, 9, 10, 11, 12, 13, 14]])]
def tab104 : TRow := [(1, [0, 1, 2, 3, 4, 5, 6, 7, 8, 9, 10, 11, 12, 13, 14, 15, 16, 17, 18, 19, 20, 21, 22, 23, 24, 25, 26, 27, 28, 29, 30, 31, 32, 33, 34, 35, 36, 37], [[], [0], [0, 1], [0, 1, 2], [0, 1, 2, 3], [0, 1, 2, 3, 4], [0, 1, 2, 3, 4, 5], [0, 1, 2, 3, 4, 5, 6], [0, 1, 2, 3, 4, 5, 6, 7], [0, 1, 2, 3, 4, 5, 6, 7, 8], [0, 1, 2, 3, 4, 5, 6, 7, 8, 9], [0, 1, 2, 3, 4, 5, 6, 7, 8, 9, 10], [0, 1, 2, 3, 4, 5, 6, 7, 8, 9], [0, 1, 2, 3, 4, 5, 6, 7, 8, 9, 12], [0, 1, 2, 3, 4, 5, 6, 7, 8, 9, 12, 13], [0, 1, 2, 3, 4, 5, 6, 7, 8, 9, 12, 13, 14], [0, 1, 2, 3, 4, 5, 6, 7, 8, 9, 10, 11, 12, 13, 14, 15], [0, 1, 2, 3, 4, 5, 6, 7, 8, 9, 10, 11, 12, 13, 14, 15, 16], [0, 1, 2, 3, 4, 5, 6, 7, 8, 9, 10, 11, 12, 13, 14, 15, 16, 17], [0, 1, 2, 3, 4, 5, 6, 7, 8, 9, 10, 11, 12, 13, 14, 15, 16, 17, 18], [0, 1, 2, 3, 4, 5, 6, 7, 8, 9, 10, 11, 12, 13, 14, 15, 16, 17, 18, 19], [0, 1, 2, 3, 4, 5, 6, 7, 8, 9, 10, 11, 12, 13, 14, 15, 16, 17, 18], [0, 1, 2, 3, 4, 5, 6, 7, 8, 9, 10, 11, 12, 13, 14, 15, 16, 17, 18, 21], [0, 1, 2, 3, 4, 5, 6, 7, 8, 9, 10, 11, 12, 13, 14, 15, 16, 17, 18, 21, 22], [0, 1, 2, 3, 4, 5, 6, 7, 8, 9, 10, 11, 12, 13, 14, 15, 16, 17, 18, 21, 22, 23], [0, 1, 2, 3, 4, 5, 6, 7, 8, 9, 10, 11, 12, 13, 14, 15, 16, 17, 18, 21, 22, 23, 24], [0, 1, 2, 3, 4, 5, 6, 7, 8, 9, 10, 11, 12, 13, 14, 15, 16, 17, 18, 19, 20, 21, 22, 23, 24, 25], [0, 1, 2, 3, 4, 5, 6, 7, 8, 9, 10, 11, 12, 13, 14, 15, 16, 17, 18, 19, 20, 21, 22, 23, 24, 25, 26], [0, 1, 2, 3, 4, 5, 6, 7, 8, 9, 10, 11, 12, 13, 14, 15, 16, 17, 18, 19, 20, 21, 22, 23, 24, 25, 26, 27], [0, 1, 2, 3, 4, 5, 6, 7, 8, 9, 10, 11, 12, 13, 14, 15, 16, 17, 18, 19, 20, 21, 22, 23, 24, 25, 26, 27, 28], [0, 1, 2, 3, 4, 5, 6, 7, 8, 9, 10, 11, 12, 13, 14, 15, 16, 17, 18, 19, 20, 21, 22, 23, 24, 25, 26, 27, 28, 29], [0, 1, 2, 3, 4, 5, 6, 7, 8, 9, 10, 11, 12, 13, 14, 15, 16, 17, 18, 19, 20, 21, 22, 23, 24, 25, 26, 27, 28], [0, 1, 2, 3, 4, 5, 6, 7, 8, 9, 10, 11, 12, 13, 14, 15, 16, 17, 18, 19, 20, 21, 22, 23, 24, 25, 26, 27, 28, 31], [0, 1, 2, 3, 4, 5, 6, 7, 8, 9, 10, 11, 12, 13, 14, 15, 16, 17, 18, 19, 20, 21, 22, 23, 24, 25, 26, 27, 28, 31, 32], [0, 1, 2, 3, 4, 5, 6, 7, 8, 9, 10, 11, 12, 13, 14, 15, 16, 17, 18, 19, 20, 21, 22, 23, 24, 25, 26, 27, 28, 31, 32, 33], [0, 1, 2, 3, 4, 5, 6, 7, 8, 9, 10, 11, 12, 13, 14, 15, 16, 17, 18, 19, 20, 21, 22, 23, 24, 25, 26, 27, 28, 31, 32, 33, 34], [0, 1, 2, 3, 4, 5, 6, 7, 8, 9, 10, 11, 12, 13, 14, 15, 16, 17, 18, 19, 20, 21, 22, 23, 24, 25, 26, 27, 28, 29, 30, 31, 32, 33, 34, 35], [0, 1, 2, 3, 4, 5, 6, 7, 8, 9, 10, 11, 12, 13, 14, 15, 16, 17, 18, 19, 20, 21, 22, 23, 24, 25, 26, 27, 28, 29, 30, 31, 32, 33, 34, 35, 36]]), (5, [0, 1, 2, 3, 4, 5, 6, 7, 8, 9], [[], [0], [0, 1], [0, 1, 2], [], [4], [], [6], [0, 1, 2, 3, 4, 5, 6, 7], [0, 1, 2, 3, 4, 5, 6, 7, 8]]), (10, [0, 1, 2, 3, 4, 5, 6, 7, 8, 9, 10, 11, 12, 13, 14, 15, 16, 17, 18], [[], [0], [0, 1], [0, 1, 2], [0, 1, 2, 3], [0, 1, 2, 3, 4], [0, 1, 2, 3, 4, 5], [0, 1, 2, 3, 4, 5, 6], [0, 1, 2, 3], [0, 1, 2, 3, 8], [0, 1, 2, 3, 8, 9], [0, 1, 2, 3, 8, 9, 10], [0, 1, 2, 3, 8, 9, 10, 11], [0, 1, 2, 3], [0, 1, 2, 3, 13], [0, 1, 2, 3], [0, 1, 2, 3, 15], [0, 1, 2, 3, 4, 5, 6, 7, 8, 9, 10, 11, 12, 13, 14, 15, 16], [0, 1, 2, 3, 4, 5, 6, 7, 8, 9, 10, 11, 12, 13, 14, 15, 16, 17]])]
def tab108 : TRow := [(3, [0, 1, 2, 3, 4, 5, 6, 7, 8, 9, 10, 11, 12, 13, 14, 15, 16], [[], [0], [0, 1], [0, 1, 2], [0, 1, 2, 3], [0, 1, 2], [0, 1, 2, 5], [0, 1, 2, 5, 6], [0, 1, 2, 5, 6, 7], [0, 1, 2, 5, 6, 7, 8], [0, 1, 2, 3, 4, 5, 6, 7, 8, 9], [0, 1, 2, 3, 4, 5, 6, 7, 8, 9, 10], [0, 1, 2, 3, 4, 5, 6, 7, 8, 9, 10, 11], [0, 1, 2, 3, 4, 5, 6, 7, 8, 9, 10, 11, 12], [0, 1, 2, 3, 4, 5, 6, 7, 8, 9, 10, 11, 12, 13], [0, 1, 2, 3, 4, 5, 6, 7, 8, 9, 10, 11, 12, 13, 14], [0, 1, 2, 3, 4, 5, 6, 7, 8, 9, 10, 11, 12, 13, 14, 15]]), (10, [0, 1, 2, 3, 4, 5, 6], [[], [], [], [2], [2, 3], [0, 1, 2, 3, 4], [0, 1, 2, 3, 4, 5]])]
def tab109 : TRow := [(6, [0, 1, 2, 3, 4, 5, 6], [[], [0], [0, 1], [0, 1, 2], [], [4], [0, 1, 2, 3, 4, 5]]), (7, [0, 1, 2, 3, 4, 5, 6, 7, 8, 9, 10, 11, 12, 13, 14], [[], [0], [0, 1], [0, 1, 2], [], [4], [], [6], [], [8], [], [10], [10, 11], [6, 7, 8, 9, 10, 11, 12], [0, 1, 2, 3, 4, 5, 6, 7, 8, 9, 10, 11, 12, 13]])]
def tab112 : TRow := [(9, [0, 1, 2, 3, 4, 5, 6, 7, 8, 9], [[], [], [], [1, 2], [], [], [4, 5], [1, 2, 3, 4, 5, 6], [0, 1, 2, 3, 4, 5, 6, 7], [0, 1, 2, 3, 4, 5, 6, 7, 8]])]
def tab115 : TRow := [(1, [0, 1, 3, 4, 6, 7, 2, 9, 5, 8, 10, 11, 12, 13, 14], [[], [0], [0, 1], [], [3], [0, 1, 2, 3, 4], [], [6], [0, 1, 2, 3, 4, 5, 6, 7], [0, 1, 2, 3, 4, 6, 7], [0, 1, 2, 3, 4, 5, 6, 7, 8, 9], [0, 1, 2, 3, 4, 5, 6, 7, 8, 9, 10], [0, 1, 2, 3, 4, 5, 6, 7, 8, 9, 10, 11], [0, 1, 2, 3, 4, 5, 6, 7, 8, 9, 10, 11, 12], [0, 1, 2, 3, 4, 5, 6, 7, 8, 9, 10, 11, 12, 13]]), (2, [0, 1, 3, 4, 6, 7, 2, 9, 5, 8, 10, 11, 12, 13, 14], [[], [0], [0, 1], [], [3], [0, 1, 2, 3, 4], [], [6], [0, 1, 2, 3, 4, 5, 6, 7], [0, 1, 2, 3, 4, 6, 7], [0, 1, 2, 3, 4, 5, 6, 7, 8, 9], [0, 1, 2, 3, 4, 5, 6, 7, 8, 9, 10], [0, 1, 2, 3, 4, 5, 6, 7, 8, 9, 10, 11], [0, 1, 2, 3, 4, 5, 6, 7, 8, 9, 10, 11, 12], [0, 1, 2, 3, 4, 5, 6, 7, 8, 9, 10, 11, 12, 13]])]
def tab116 : TRow := [(11, [0, 1, 2, 3, 4, 5, 6, 7, 8, 9, 10, 11, 12, 13, 14, 15, 16, 17, 18, 19, 20, 21, 22, 23, 24, 25, 26, 27, 28, 29, 30, 31, 32, 33, 34, 35, 36, 37, 38, 39, 40, 41, 42, 43, 44, 45, 46, 47, 48, 49, 50, 51, 52, 53, 54, 55, 56, 57, 58, 59, 60, 61, 62, 63, 64, 65, 66, 67, 68, 69, 70, 71, 72, 73, 74, 75, 76, 77, 78, 79], [[], [0], [0, 1], [0, 1], [0, 1, 2, 3], [0, 1, 2, 3, 4], [0, 1, 2, 3, 4, 5], [0, 1, 2, 3, 4, 5, 6], [0, 1, 2, 3, 4, 5, 6, 7], [0, 1, 2, 3, 4, 5, 6, 7], [0, 1, 2, 3, 4, 5, 6, 7, 8, 9], [0, 1, 2, 3, 4, 5, 6, 7, 8, 9, 10], [0, 1, 2, 3, 4, 5, 6, 7, 8, 9, 10, 11], [0, 1, 2, 3, 4, 5, 6, 7, 8, 9, 10, 11, 12], [0, 1, 2, 3, 4, 5, 6, 7, 8, 9, 10, 11, 12, 13], [0, 1, 2, 3, 4, 5, 6, 7, 8, 9, 10, 11, 12, 13, 14], [0, 1, 2, 3, 4, 5, 6, 7, 8, 9, 10, 11, 12, 13, 14, 15], [0, 1, 2, 3, 4, 5, 6, 7, 8, 9, 10, 11, 12, 13, 14, 15, 16], [0, 1, 2, 3, 4, 5, 6, 7, 8, 9, 10, 11, 12, 13, 14, 15, 16, 17], [0, 1, 2, 3, 4, 5, 6, 7, 8, 9, 10, 11, 12, 13, 14, 15, 16, 17, 18], [0, 1, 2, 3, 4, 5, 6, 7, 8, 9, 10, 11, 12, 13, 14, 15, 16, 17, 18, 19], [0, 1, 2, 3, 4, 5, 6, 7, 8, 9, 10, 11, 12, 13, 14, 15, 16, 17, 18, 19, 20], [0, 1, 2, 3, 4, 5, 6, 7, 8, 9, 10, 11, 12, 13, 14, 15, 16, 17, 18, 19, 20, 21], [0, 1, 2, 3, 4, 5, 6, 7, 8, 9, 10, 11, 12, 13, 14, 15, 16, 17, 18, 19, 20, 21, 22], [0, 1, 2, 3, 4, 5, 6, 7, 8, 9, 10, 11, 12, 13, 14, 15, 16, 17, 18, 19, 20, 21, 22, 23], [0, 1, 2, 3, 4, 5, 6, 7, 8, 9, 10, 11, 12, 13, 14, 15, 16, 17, 18, 19, 20, 21, 22, 23, 24], [0, 1, 2, 3, 4, 5, 6, 7, 8, 9, 10, 11, 12, 13, 14, 15, 16, 17, 18, 19, 20, 21, 22, 23, 24, 25], [0, 1, 2, 3, 4, 5, 6, 7, 8, 9, 10, 11, 12, 13, 14, 15, 16, 17, 18, 19, 20, 21, 22, 23, 24, 25, 26], [0, 1, 2, 3, 4, 5, 6, 7, 8, 9, 10, 11, 12, 13, 14, 15, 16, 17, 18, 19, 20, 21, 22, 23, 24, 25, 26, 27], [0, 1, 2, 3, 4, 5, 6, 7, 8, 9, 10, 11, 12, 13, 14, 15, 16, 17, 18, 19, 20, 21, 22, 23, 24, 25, 26, 27, 28], [0, 1, 2, 3, 4, 5, 6, 7, 8, 9, 10, 11, 12, 13, 14, 15, 16, 17, 18, 19, 20, 21, 22, 23, 24, 25, 26, 27, 28, 29], [0, 1, 2, 3, 4, 5, 6, 7, 8, 9, 10, 11, 12, 13, 14, 15, 16, 17, 18, 19, 20, 21, 22, 23, 24, 25, 26, 27, 28, 29, 30], [0, 1, 2, 3, 4, 5, 6, 7, 8, 9, 10, 11, 12, 13, 14, 15, 16, 17, 18, 19, 20, 21, 22, 23, 24, 25, 26, 27, 28, 29, 30, 31], [0, 1, 2, 3, 4, 5, 6, 7, 8, 9, 10, 11, 12, 13, 14, 15, 16, 17, 18, 19, 20, 21, 22, 23, 24, 25, 26, 27, 28, 29, 30, 31, 32], [0, 1, 2, 3, 4, 5, 6, 7, 8, 9, 10, 11, 12, 13, 14, 15, 16, 17, 18, 19, 20, 21, 22, 23, 24, 25, 26, 27, 28, 29, 30, 31, 32, 33], [0, 1, 2, 3, 4, 5, 6, 7, 8, 9, 10, 11, 12, 13, 14, 15, 16, 17, 18, 19, 20, 21, 22, 23, 24, 25, 26, 27, 28, 29, 30, 31, 32, 33, 34], [0, 1, 2, 3, 4, 5, 6, 7, 8, 9, 10, 11, 12, 13, 14, 15, 16, 17, 18, 19, 20, 21, 22, 23, 24, 25, 26, 27, 28, 29, 30, 31, 32, 33, 34, 35], [0, 1, 2, 3, 4, 5, 6, 7, 8, 9, 10, 11, 12, 13, 14, 15, 16, 17, 18, 19, 20, 21, 22, 23, 24, 25, 26, 27, 28, 29, 30, 31, 32, 33, 34, 35, 36], [0, 1, 2, 3, 4, 5, 6, 7, 8, 9, 10, 11, 12, 13, 14, 15, 16, 17, 18, 19, 20, 21, 22, 23, 24, 25, 26, 27, 28, 29, 30, 31, 32, 33, 34, 35, 36, 37], [0, 1, 2, 3, 4, 5, 6, 7, 8, 9, 10, 11, 12, 13, 14, 15, 16, 17, 18, 19, 20, 21, 22, 23, 24, 25, 26, 27, 28, 29, 30, 31, 32, 33, 34, 35, 36, 37, 38], [0, 1, 2, 3, 4, 5, 6, 7, 8, 9, 10, 11, 12, 13, 14, 15, 16, 17, 18, 19, 20, 21, 22, 23, 24, 25, 26, 27, 28, 29, 30, 31, 32, 33, 34, 35, 36, 37, 38, 39], [0, 1, 2, 3, 4, 5, 6, 7, 8, 9, 10, 11, 12, 13, 14, 15, 16, 17, 18, 19, 20, 21, 22, 23, 24, 25, 26, 27, 28, 29, 30, 31, 32, 33, 34, 35, 36, 37, 38, 39, 40], [0, 1, 2, 3, 4, 5, 6, 7, 8, 9, 10, 11, 12, 13, 14, 15, 16, 17, 18, 19, 20, 21, 22, 23, 24, 25, 26, 27, 28, 29, 30, 31, 32, 33, 34, 35, 36, 37, 38, 39, 40, 41], [0, 1, 2, 3, 4, 5, 6, 7, 8, 9, 10, 11, 12, 13, 14, 15, 16, 17, 18, 19, 20, 21, 22, 23, 24, 25, 26, 27, 28, 29, 30, 31, 32, 33, 34, 35, 36, 37, 38, 39, 40, 41, 42], [0, 1, 2, 3, 4, 5, 6, 7, 8, 9, 10, 11, 12, 13, 14, 15, 16, 17, 18, 19, 20, 21, 22, 23, 24, 25, 26, 27, 28, 29, 30, 31, 32, 33, 34, 35, 36, 37, 38, 39, 40, 41, 42, 43], [0, 1, 2, 3, 4, 5, 6, 7, 8, 9, 10, 11, 12, 13, 14, 15, 16, 17, 18, 19, 20, 21, 22, 23, 24, 25, 26, 27, 28, 29, 30, 31, 32, 33, 34, 35, 36, 37, 38, 39, 40, 41, 42, 43, 44], [0, 1, 2, 3, 4, 5, 6, 7, 8, 9, 10, 11, 12, 13, 14, 15, 16, 17, 18, 19, 20, 21, 22, 23, 24, 25, 26, 27, 28, 29, 30, 31, 32, 33, 34, 35, 36, 37, 38, 39, 40, 41, 42, 43, 44, 45], [0, 1, 2, 3, 4, 5, 6, 7, 8, 9, 10, 11, 12, 13, 14, 15, 16, 17, 18, 19, 20, 21, 22, 23, 24, 25, 26, 27, 28, 29, 30, 31, 32, 33, 34, 35, 36, 37, 38, 39, 40, 41, 42, 43, 44, 45, 46], [0, 1, 2, 3, 4, 5, 6, 7, 8, 9, 10, 11, 12, 13, 14, 15, 16, 17, 18, 19, 20, 21, 22, 23, 24, 25, 26, 27, 28, 29, 30, 31, 32, 33, 34, 35, 36, 37, 38, 39, 40, 41, 42, 43, 44, 45, 46, 47], [0, 1, 2, 3, 4, 5, 6, 7, 8, 9, 10, 11, 12, 13, 14, 15, 16, 17, 18, 19, 20, 21, 22, 23, 24, 25, 26, 27, 28, 29, 30, 31, 32, 33, 34, 35, 36, 37, 38, 39, 40, 41, 42, 43, 44, 45, 46, 47, 48], [0, 1, 2, 3, 4, 5, 6, 7, 8, 9, 10, 11, 12, 13, 14, 15, 16, 17, 18, 19, 20, 21, 22, 23, 24, 25, 26, 27, 28, 29, 30, 31, 32, 33, 34, 35, 36, 37, 38, 39, 40, 41, 42, 43, 44, 45, 46, 47, 48, 49], [0, 1, 2, 3, 4, 5, 6, 7, 8, 9, 10, 11, 12, 13, 14, 15, 16, 17, 18, 19, 20, 21, 22, 23, 24, 25, 26, 27, 28, 29, 30, 31, 32, 33, 34, 35, 36, 37, 38, 39, 40, 41, 42, 43, 44, 45, 46, 47, 48, 49, 50], [0, 1, 2, 3, 4, 5, 6, 7, 8, 9, 10, 11, 12, 13, 14, 15, 16, 17, 18, 19, 20, 21, 22, 23, 24, 25, 26, 27, 28, 29, 30, 31, 32, 33, 34, 35, 36, 37, 38, 39, 40, 41, 42, 43, 44, 45, 46, 47, 48, 49, 50, 51], [0, 1, 2, 3, 4, 5, 6, 7, 8, 9, 10, 11, 12, 13, 14, 15, 16, 17, 18, 19, 20, 21, 22, 23, 24, 25, 26, 27, 28, 29, 30, 31, 32, 33, 34, 35, 36, 37, 38, 39, 40, 41, 42, 43, 44, 45, 46, 47, 48, 49, 50, 51, 52], [0, 1, 2, 3, 4, 5, 6, 7, 8, 9, 10, 11, 12, 13, 14, 15, 16, 17, 18, 19, 20, 21, 22, 23, 24, 25, 26, 27, 28, 29, 30, 31, 32, 33, 34, 35, 36, 37, 38, 39, 40, 41, 42, 43, 44, 45, 46, 47, 48, 49, 50, 51, 52, 53], [0, 1, 2, 3, 4, 5, 6, 7, 8, 9, 10, 11, 12, 13, 14, 15, 16, 17, 18, 19, 20, 21, 22, 23, 24, 25, 26, 27, 28, 29, 30, 31, 32, 33, 34, 35, 36, 37, 38, 39, 40, 41, 42, 43, 44, 45, 46, 47, 48, 49, 50, 51, 52, 53, 54], [0, 1, 2, 3, 4, 5, 6, 7, 8, 9, 10, 11, 12, 13, 14, 15, 16, 17, 18, 19, 20, 21, 22, 23, 24, 25, 26, 27, 28, 29, 30, 31, 32, 33, 34, 35, 36, 37, 38, 39, 40, 41, 42, 43, 44, 45, 46, 47, 48, 49, 50, 51, 52, 53, 54, 55], [0, 1, 2, 3, 4, 5, 6, 7, 8, 9, 10, 11, 12, 13, 14, 15, 16, 17, 18, 19, 20, 21, 22, 23, 24, 25, 26, 27, 28, 29, 30, 31, 32, 33, 34, 35, 36, 37, 38, 39, 40, 41, 42, 43, 44, 45, 46, 47, 48, 49, 50, 51, 52, 53, 54, 55, 56], [0, 1, 2, 3, 4, 5, 6, 7, 8, 9, 10, 11, 12, 13, 14, 15, 16, 17, 18, 19, 20, 21, 22, 23, 24, 25, 26, 27, 28, 29, 30, 31, 32, 33, 34, 35, 36, 37, 38, 39, 40, 41, 42, 43, 44, 45, 46, 47, 48, 49, 50, 51, 52, 53, 54, 55, 56, 57], [0, 1, 2, 3, 4, 5, 6, 7, 8, 9, 10, 11, 12, 13, 14, 15, 16, 17, 18, 19, 20, 21, 22, 23, 24, 25, 26, 27, 28, 29, 30, 31, 32, 33, 34, 35, 36, 37, 38, 39, 40, 41, 42, 43, 44, 45, 46, 47, 48, 49, 50, 51, 52, 53, 54, 55, 56, 57, 58], [0, 1, 2, 3, 4, 5, 6, 7, 8, 9, 10, 11, 12, 13, 14, 15, 16, 17, 18, 19, 20, 21, 22, 23, 24, 25, 26, 27, 28, 29, 30, 31, 32, 33, 34, 35, 36, 37, 38, 39, 40, 41, 42, 43, 44, 45, 46, 47, 48, 49, 50, 51, 52, 53, 54, 55, 56, 57, 58, 59], [0, 1, 2, 3, 4, 5, 6, 7, 8, 9, 10, 11, 12, 13, 14, 15, 16, 17, 18, 19, 20, 21, 22, 23, 24, 25, 26, 27, 28, 29, 30, 31, 32, 33, 34, 35, 36, 37, 38, 39, 40, 41, 42, 43, 44, 45, 46, 47, 48, 49, 50, 51, 52, 53, 54, 55, 56, 57, 58, 59, 60], [0, 1, 2, 3, 4, 5, 6, 7, 8, 9, 10, 11, 12, 13, 14, 15, 16, 17, 18, 19, 20, 21, 22, 23, 24, 25, 26, 27, 28, 29, 30, 31, 32, 33, 34, 35, 36, 37, 38, 39, 40, 41, 42, 43, 44, 45, 46, 47, 48, 49, 50, 51, 52, 53, 54, 55, 56, 57, 58, 59, 60], [0, 1, 2, 3, 4, 5, 6, 7, 8, 9, 10, 11, 12, 13, 14, 15, 16, 17, 18, 19, 20, 21, 22, 23, 24, 25, 26, 27, 28, 29, 30, 31, 32, 33, 34, 35, 36, 37, 38, 39, 40, 41, 42, 43, 44, 45, 46, 47, 48, 49, 50, 51, 52, 53, 54, 55, 56, 57, 58, 59, 60], [0, 1, 2, 3, 4, 5, 6, 7, 8, 9, 10, 11, 12, 13, 14, 15, 16, 17, 18, 19, 20, 21, 22, 23, 24, 25, 26, 27, 28, 29, 30, 31, 32, 33, 34, 35, 36, 37, 38, 39, 40, 41, 42, 43, 44, 45, 46, 47, 48, 49, 50, 51, 52, 53, 54, 55, 56, 57, 58, 59, 60, 63], [0, 1, 2, 3, 4, 5, 6, 7, 8, 9, 10, 11, 12, 13, 14, 15, 16, 17, 18, 19, 20, 21, 22, 23, 24, 25, 26, 27, 28, 29, 30, 31, 32, 33, 34, 35, 36, 37, 38, 39, 40, 41, 42, 43, 44, 45, 46, 47, 48, 49, 50, 51, 52, 53, 54, 55, 56, 57, 58, 59, 60, 63, 64], [0, 1, 2, 3, 4, 5, 6, 7, 8, 9, 10, 11, 12, 13, 14, 15, 16, 17, 18, 19, 20, 21, 22, 23, 24, 25, 26, 27, 28, 29, 30, 31, 32, 33, 34, 35, 36, 37, 38, 39, 40, 41, 42, 43, 44, 45, 46, 47, 48, 49, 50, 51, 52, 53, 54, 55, 56, 57, 58, 59, 60, 63, 64, 65], [0, 1, 2, 3, 4, 5, 6, 7, 8, 9, 10, 11, 12, 13, 14, 15, 16, 17, 18, 19, 20, 21, 22, 23, 24, 25, 26, 27, 28, 29, 30, 31, 32, 33, 34, 35, 36, 37, 38, 39, 40, 41, 42, 43, 44, 45, 46, 47, 48, 49, 50, 51, 52, 53, 54, 55, 56, 57, 58, 59, 60, 61, 62, 63, 64, 65, 66], [0, 1, 2, 3, 4, 5, 6, 7, 8, 9, 10, 11, 12, 13, 14, 15, 16, 17, 18, 19, 20, 21, 22, 23, 24, 25, 26, 27, 28, 29, 30, 31, 32, 33, 34, 35, 36, 37, 38, 39, 40, 41, 42, 43, 44, 45, 46, 47, 48, 49, 50, 51, 52, 53, 54, 55, 56, 57, 58, 59, 60, 61, 62, 63, 64, 65, 66, 67], [0, 1, 2, 3, 4, 5, 6, 7, 8, 9, 10, 11, 12, 13, 14, 15, 16, 17, 18, 19, 20, 21, 22, 23, 24, 25, 26, 27, 28, 29, 30, 31, 32, 33, 34, 35, 36, 37, 38, 39, 40, 41, 42, 43, 44, 45, 46, 47, 48, 49, 50, 51, 52, 53, 54, 55, 56, 57, 58, 59, 60, 61, 62, 63, 64, 65, 66, 67, 68], [0, 1, 2, 3, 4, 5, 6, 7, 8, 9, 10, 11, 12, 13, 14, 15, 16, 17, 18, 19, 20, 21, 22, 23, 24, 25, 26, 27, 28, 29, 30, 31, 32, 33, 34, 35, 36, 37, 38, 39, 40, 41, 42, 43, 44, 45, 46, 47, 48, 49, 50, 51, 52, 53, 54, 55, 56, 57, 58, 59, 60, 61, 62, 63, 64, 65, 66, 67, 68, 69], [0, 1, 2, 3, 4, 5, 6, 7, 8, 9, 10, 11, 12, 13, 14, 15, 16, 17, 18, 19, 20, 21, 22, 23, 24, 25, 26, 27, 28, 29, 30, 31, 32, 33, 34, 35, 36, 37, 38, 39, 40, 41, 42, 43, 44, 45, 46, 47, 48, 49, 50, 51, 52, 53, 54, 55, 56, 57, 58, 59, 60, 61, 62, 63, 64, 65, 66, 67, 68, 69, 70], [0, 1, 2, 3, 4, 5, 6, 7, 8, 9, 10, 11, 12, 13, 14, 15, 16, 17, 18, 19, 20, 21, 22, 23, 24, 25, 26, 27, 28, 29, 30, 31, 32, 33, 34, 35, 36, 37, 38, 39, 40, 41, 42, 43, 44, 45, 46, 47, 48, 49, 50, 51, 52, 53, 54, 55, 56, 57, 58, 59, 60, 61, 62, 63, 64, 65, 66, 67, 68, 69, 70, 71], [0, 1, 2, 3, 4, 5, 6, 7, 8, 9, 10, 11, 12, 13, 14, 15, 16, 17, 18, 19, 20, 21, 22, 23, 24, 25, 26, 27, 28, 29, 30, 31, 32, 33, 34, 35, 36, 37, 38, 39, 40, 41, 42, 43, 44, 45, 46, 47, 48, 49, 50, 51, 52, 53, 54, 55, 56, 57, 58, 59, 60, 61, 62, 63, 64, 65, 66, 67, 68, 69, 70, 71, 72], [0, 1, 2, 3, 4, 5, 6, 7, 8, 9, 10, 11, 12, 13, 14, 15, 16, 17, 18, 19, 20, 21, 22, 23, 24, 25, 26, 27, 28, 29, 30, 31, 32, 33, 34, 35, 36, 37, 38, 39, 40, 41, 42, 43, 44, 45, 46, 47, 48, 49, 50, 51, 52, 53, 54, 55, 56, 57, 58, 59, 60, 61, 62, 63, 64, 65, 66, 67, 68, 69, 70, 71, 72, 73], [0, 1, 2, 3, 4, 5, 6, 7, 8, 9, 10, 11, 12, 13, 14, 15, 16, 17, 18, 19, 20, 21, 22, 23, 24, 25, 26, 27, 28, 29, 30, 31, 32, 33, 34, 35, 36, 37, 38, 39, 40, 41, 42, 43, 44, 45, 46, 47, 48, 49, 50, 51, 52, 53, 54, 55, 56, 57, 58, 59, 60, 61, 62, 63, 64, 65, 66, 67, 68, 69, 70, 71, 72, 73, 74], [0, 1, 2, 3, 4, 5, 6, 7, 8, 9, 10, 11, 12, 13, 14, 15, 16, 17, 18, 19, 20, 21, 22, 23, 24, 25, 26, 27, 28, 29, 30, 31, 32, 33, 34, 35, 36, 37, 38, 39, 40, 41, 42, 43, 44, 45, 46, 47, 48, 49, 50, 51, 52, 53, 54, 55, 56, 57, 58, 59, 60, 61, 62, 63, 64, 65, 66, 67, 68, 69, 70, 71, 72, 73, 74, 75], [0, 1, 2, 3, 4, 5, 6, 7, 8, 9, 10, 11, 12, 13, 14, 15, 16, 17, 18, 19, 20, 21, 22, 23, 24, 25, 26, 27, 28, 29, 30, 31, 32, 33, 34, 35, 36, 37, 38, 39, 40, 41, 42, 43, 44, 45, 46, 47, 48, 49, 50, 51, 52, 53, 54, 55, 56, 57, 58, 59, 60, 61, 62, 63, 64, 65, 66, 67, 68, 69, 70, 71, 72, 73, 74, 75, 76], [0, 1, 2, 3, 4, 5, 6, 7, 8, 9, 10, 11, 12, 13, 14, 15, 16, 17, 18, 19, 20, 21, 22, 23, 24, 25, 26, 27, 28, 29, 30, 31, 32, 33, 34, 35, 36, 37, 38, 39, 40, 41, 42, 43, 44, 45, 46, 47, 48, 49, 50, 51, 52, 53, 54, 55, 56, 57, 58, 59, 60, 61, 62, 63, 64, 65, 66, 67, 68, 69, 70, 71, 72, 73, 74, 75, 76, 77], [0, 1, 2, 3, 4, 5, 6, 7, 8, 9, 10, 11, 12, 13, 14, 15, 16, 17, 18, 19, 20, 21, 22, 23, 24, 25, 26, 27, 28, 29, 30, 31, 32, 33, 34, 35, 36, 37, 38, 39, 40, 41, 42, 43, 44, 45, 46, 47, 48, 49, 50, 51, 52, 53, 54, 55, 56, 57, 58, 59, 60, 61, 62, 63, 64, 65, 66, 67, 68, 69, 70, 71, 72, 73, 74, 75, 76, 77, 78]])]
def tab118 : TRow := [(1, [0, 1, 2, 3, 4, 5, 6, 7, 8, 9, 10, 11, 12, 13], [[], [0], [0, 1], [0, 1, 2], [0, 1, 2, 3], [0, 1, 2, 3, 4], [0, 1, 2, 3, 4, 5], [0, 1, 2, 3, 4, 5, 6], [0, 1, 2], [0, 1, 2, 8], [0, 1, 2, 8, 9], [0, 1, 2, 8, 9, 10], [0, 1, 2, 3, 4, 5, 6, 7, 8, 9, 10, 11], [0, 1, 2, 3, 4, 5, 6, 7, 8, 9, 10, 11, 12]]), (3, [0, 1, 2, 3, 4, 5, 6, 7, 8, 9, 10, 11], [[], [], [1], [1, 2], [1, 2, 3], [], [5], [5, 6], [1, 2, 3, 4, 5, 6, 7], [0, 1, 2, 3, 4, 5, 6, 7, 8], [0, 1, 2, 3, 4, 5, 6, 7, 8, 9], [0, 1, 2, 3, 4, 5, 6, 7, 8, 9, 10]])]
def tab120 : TRow := [(2, [0, 1, 2, 3, 4, 5, 6, 7, 8, 9, 10, 11, 12, 13, 14, 15], [[], [], [1], [0, 1, 2], [0, 1, 2, 3], [0, 1, 2, 3, 4], [0, 1, 2, 3, 4, 5], [0, 1, 2, 3, 4, 5, 6], [0, 1, 2, 3, 4, 5, 6, 7], [0, 1, 2, 3, 4], [0, 1, 2, 3, 4, 9], [0, 1, 2, 3, 4, 5, 6, 7, 8, 9, 10], [0, 1, 2, 3, 4, 5, 6, 7, 8, 9, 10, 11], [0, 1, 2, 3, 4, 5, 6, 7, 8, 9, 10, 11, 12], [0, 1, 2, 3, 4, 5, 6, 7, 8, 9, 10, 11, 12, 13], [0, 1, 2, 3, 4, 5, 6, 7, 8, 9, 10, 11, 12, 13, 14]]), (3, [0, 1, 2, 3, 4, 5, 6, 7, 8, 9, 10, 11, 12, 13, 14, 16, 17, 15, 18], [[], [0], [0, 1], [0, 1, 2], [], [4], [0, 1, 2, 3, 4, 5], [0, 1, 2, 3, 4, 5, 6], [0, 1, 2, 3, 4, 5, 6, 7], [], [9], [9, 10], [9, 10, 11], [], [13], [9, 10, 11, 12, 13, 14], [], [16], [0, 1, 2, 3, 4, 5, 6, 7, 8, 9, 10, 11, 12, 13, 14, 15, 16, 17]]), (6, [0, 1, 2, 3, 4, 5, 6, 7], [[], [0], [0, 1], [0, 1, 2], [], [0, 1, 2, 3, 4], [], [0, 1, 2, 3, 4, 5, 6]]), (11, [0, 1, 2, 3, 4, 5, 6, 7, 8], [[], [0], [0, 1], [0, 1, 2], [], [4], [], [4, 5, 6], [0, 1, 2, 3, 4, 5, 6, 7]])]
def tab122 : TRow := [(2, [0, 1, 2, 3, 4, 5, 6, 7, 8, 9, 10], [[], [0], [0, 1], [0, 1, 2], [], [0, 1, 2, 3, 4], [0, 1, 2, 3, 4, 5], [0, 1, 2, 3, 4, 5, 6], [0, 1, 2, 3, 4, 5, 6], [0, 1, 2, 3, 4, 5, 6, 7], [0, 1, 2, 3, 4, 5, 6, 7, 8, 9]])]
def tab126 : TRow := [(3, [0, 1, 2, 3, 4, 5, 6, 7, 8, 9, 10, 11, 12, 13, 14], [[], [], [1], [1, 2], [1, 2, 3], [], [], [6], [6, 7], [6, 7, 8], [5, 6, 7, 8, 9], [1, 2, 3, 4, 5, 6, 7, 8, 9, 10], [0, 1, 2, 3, 4, 5, 6, 7, 8, 9, 10, 11], [0, 1, 2, 3, 4, 5, 6, 7, 8, 9, 10, 11, 12], [0, 1, 2, 3, 4, 5, 6, 7, 8, 9, 10, 11, 12, 13]])]
def tab132 : TRow := [(7, [0, 1, 2, 3, 4, 5, 6, 7], [[], [0], [], [2], [2, 3], [0, 1, 2, 3, 4], [0, 1, 2, 3, 4, 5], [0, 1, 2, 3, 4, 5, 6]])]
def tab135 : TRow := [(17, [0, 1, 2, 3, 4, 5, 6, 7, 8, 9, 10, 11, 12, 13, 14, 15, 16], [[], [0], [0, 1], [0, 1, 2], [0, 1, 2], [0, 1, 2], [0, 1, 2, 5], [0, 1, 2, 4, 5, 6], [0, 1, 2, 4, 5, 6, 7], [0, 1, 2], [0, 1, 2], [0, 1, 2, 9, 10], [0, 1, 2, 9, 10, 11], [0, 1, 2, 3, 4, 5, 6, 7, 8, 9, 10, 11, 12], [0, 1, 2, 3, 4, 5, 6, 7, 8, 9, 10, 11, 12, 13], [0, 1, 2, 3, 4, 5, 6, 7, 8, 9, 10, 11, 12, 13, 14], [0, 1, 2, 3, 4, 5, 6, 7, 8, 9, 10, 11, 12, 13, 14, 15]])]
def tab138 : TRow := [(17, [0, 1, 2, 3, 4, 5, 6, 7, 8, 9, 10, 11, 12, 13, 14, 15, 16], [[], [0], [0, 1], [0, 1, 2], [0, 1, 2], [0, 1, 2], [0, 1, 2, 5], [0, 1, 2, 4, 5, 6], [0, 1, 2, 4, 5, 6, 7], [0, 1, 2], [0, 1, 2], [0, 1, 2, 9, 10], [0, 1, 2, 9, 10, 11], [0, 1, 2, 3, 4, 5, 6, 7, 8, 9, 10, 11, 12], [0, 1, 2, 3, 4, 5, 6, 7, 8, 9, 10, 11, 12, 13], [0, 1, 2, 3, 4, 5, 6, 7, 8, 9, 10, 11, 12, 13, 14], [0, 1, 2, 3, 4, 5, 6, 7, 8, 9, 10, 11, 12, 13, 14, 15]])]
def tab144 : TRow := [(6, [0, 1, 2, 3, 4, 5, 6, 7, 8], [[], [], [0, 1], [0, 1, 2], [], [], [4, 5], [4, 5, 6], [0, 1, 2, 3, 4, 5, 6, 7]])]
def tab145 : TRow := [(6, [0, 1, 2, 3, 4, 5, 6, 7, 8, 9, 10], [[], [0], [], [0, 1, 2], [0, 1, 2, 3], [], [5], [], [5, 6, 7], [5, 6, 7, 8], [0, 1, 2, 3, 4, 5, 6, 7, 8, 9]]), (12, [0, 1, 2, 3, 4, 5, 6, 7, 8, 9, 10], [[], [0], [], [0, 1, 2], [0, 1, 2, 3], [], [5], [], [5, 6, 7], [5, 6, 7, 8], [0, 1, 2, 3, 4, 5, 6, 7, 8, 9]])]
def tab152 : TRow := [(7, [0, 1, 2, 3, 4, 5, 6, 7, 8, 9, 10, 11, 12, 13, 14, 15, 16, 17, 18], [[], [], [], [], [], [], [], [0], [0, 7], [0, 7, 8], [0, 1, 4, 7, 8, 9], [0, 1, 4, 7, 8, 9, 10], [0, 1, 4, 7, 8, 9, 10, 11], [0, 1, 2, 4, 5, 7, 8, 9, 10, 11, 12], [0, 1, 2, 4, 5, 7, 8, 9, 10, 11, 12, 13], [0, 1, 2, 4, 5, 7, 8, 9, 10, 11, 12, 13, 14], [0, 1, 2, 3, 4, 5, 6, 7, 8, 9, 10, 11, 12, 13, 14, 15], [0, 1, 2, 3, 4, 5, 6, 7, 8, 9, 10, 11, 12, 13, 14, 15, 16], [0, 1, 2, 3, 4, 5, 6, 7, 8, 9, 10, 11, 12, 13, 14, 15, 16, 17]]), (8, [0, 1, 2, 3, 4, 5, 6, 7, 8, 9, 10, 11, 12, 13, 14, 15, 16, 17, 18, 19, 20, 21, 22, 23, 24, 25], [[], [0], [0, 1], [0, 1, 2], [0, 1, 2, 3], [0, 1, 2, 3, 4], [0, 1, 2, 3, 4, 5], [0, 1, 2, 3, 4, 5, 6], [0, 1, 2, 3, 4, 5, 6, 7], [0, 1, 2, 3, 4, 5, 6, 7, 8], [0, 1, 2, 3, 4, 5], [0, 1, 2, 3, 4, 5, 6, 7, 8, 9, 10], [0, 1, 2, 3, 4, 5, 6, 7, 8, 9, 10, 11], [0, 1, 2, 3, 4, 5, 6, 7, 8, 9, 10, 11, 12], [0, 1, 2, 3, 4, 5, 6, 7, 8, 9, 10, 11, 12, 13], [0, 1, 2, 3, 4, 5, 6, 7, 8, 9, 10, 11, 12, 13, 14], [0, 1, 2, 3, 4, 5, 6, 7, 8, 9, 10, 11, 12, 13, 14, 15], [0, 1, 2, 3, 4, 5, 6, 7, 8, 9, 10, 11, 12, 13, 14, 15, 16], [0, 1, 2, 3, 4, 5, 6, 7, 8, 9, 10, 11, 12, 13, 14, 15, 16, 17], [0, 1, 2, 3, 4, 5, 6, 7, 8, 9, 10, 11, 12, 13, 14, 15, 16], [0, 1, 2, 3, 4, 5, 6, 7, 8, 9, 10, 11, 12, 13, 14, 15, 16, 19], [0, 1, 2, 3, 4, 5, 6, 7, 8, 9, 10, 11, 12, 13, 14, 15, 16, 19, 20], [0, 1, 2, 3, 4, 5, 6, 7, 8, 9, 10, 11, 12, 13, 14, 15, 16, 19, 20, 21], [0, 1, 2, 3, 4, 5, 6, 7, 8, 9, 10, 11, 12, 13, 14, 15, 16, 17, 18, 19, 20, 21, 22], [0, 1, 2, 3, 4, 5, 6, 7, 8, 9, 10, 11, 12, 13, 14, 15, 16, 17, 18, 19, 20, 21, 22, 23], [0, 1, 2, 3, 4, 5, 6, 7, 8, 9, 10, 11, 12, 13, 14, 15, 16, 17, 18, 19, 20, 21, 22, 23, 24]])]
def tab154 : TRow := [(1, [0, 1, 2, 3, 4, 5, 6, 7, 8, 9, 10, 11, 12, 13, 14, 15, 16, 17, 18, 19, 20, 21, 22, 23, 24], [[], [0], [0, 1], [0, 1, 2], [0, 1, 2, 3], [0, 1, 2, 3, 4], [0, 1, 2, 3, 4, 5], [0, 1, 2, 3, 4, 5, 6], [0, 1, 2, 3, 4, 5, 6, 7], [0, 1, 2, 3, 4, 5, 6, 7, 8], [0, 1, 2, 3, 4, 5, 6, 7, 8, 9], [0, 1, 2, 3, 4, 5, 6, 7, 8, 9, 10], [0, 1, 2, 3, 4, 5, 6, 7, 8, 9, 10, 11], [0, 1, 2, 3, 4, 5, 6, 7, 8, 9, 10, 11, 12], [0, 1, 2, 3, 4, 5, 6, 7, 8, 9, 10, 11, 12, 13], [0, 1, 2, 3, 4, 5, 6, 7, 8, 9, 10, 11, 12, 13, 14], [0, 1, 2, 3, 4, 5, 6, 7, 8, 9, 10, 11, 12, 13, 14, 15], [0, 1, 2, 3, 4, 5, 6, 7, 8, 9, 10, 11, 12, 13, 14, 15, 16], [0, 1, 2, 3, 4, 5, 6, 7, 8, 9, 10, 11, 12, 13, 14, 15, 16, 17], [0, 1, 2, 3, 4, 5, 6, 7, 8, 9, 10, 11, 12, 13, 14, 15, 16, 17, 18], [0, 1, 2, 3, 4, 5, 6, 7, 8, 9, 10, 11, 12, 13, 14, 15, 16, 17, 18], [0, 1, 2, 3, 4, 5, 6, 7, 8, 9, 10, 11, 12, 13, 14, 15, 16, 17, 18, 20], [0, 1, 2, 3, 4, 5, 6, 7, 8, 9, 10, 11, 12, 13, 14, 15, 16, 17, 18, 19, 20, 21], [0, 1, 2, 3, 4, 5, 6, 7, 8, 9, 10, 11, 12, 13, 14, 15, 16, 17, 18, 19, 20, 21, 22], [0, 1, 2, 3, 4, 5, 6, 7, 8, 9, 10, 11, 12, 13, 14, 15, 16, 17, 18, 19, 20, 21, 22, 23]])]
def tab155 : TRow := [(3, [0, 1, 2, 3, 4, 5, 6, 7, 8, 9, 10, 11, 12, 13, 14, 15, 16, 17], [[], [], [1], [1, 2], [1, 2, 3], [], [], [6], [], [6, 7, 8], [6, 7, 8, 9], [5, 6, 7, 8, 9, 10], [5, 6, 7, 8, 9, 10, 11], [5, 6, 7, 8, 9, 10, 11, 12], [1, 2, 3, 4, 5, 6, 7, 8, 9, 10, 11, 12, 13], [0, 1, 2, 3, 4, 5, 6, 7, 8, 9, 10, 11, 12, 13, 14], [0, 1, 2, 3, 4, 5, 6, 7, 8, 9, 10, 11, 12, 13, 14, 15], [0, 1, 2, 3, 4, 5, 6, 7, 8, 9, 10, 11, 12, 13, 14, 15, 16]])]
def tab160 : TRow := [(5, [0, 1, 2, 3, 4, 5, 6, 7, 8, 9, 10, 11, 12, 13, 14, 15, 16, 17, 18, 19, 20, 21, 22, 23, 24, 25, 26, 27, 28, 29, 30], [[], [0], [0, 1], [0, 1, 2], [0, 1, 2, 3], [0, 1, 2, 3, 4], [0, 1, 2, 3, 4, 5], [0, 1, 2, 3, 4, 5, 6], [0, 1, 2, 3, 4, 5, 6, 7], [0, 1, 2, 3, 4, 5, 6, 7, 8], [0, 1, 2, 3, 4, 5, 6, 7, 8, 9], [0, 1, 2, 3, 4, 5], [0, 1, 2, 3, 4, 5, 11], [0, 1, 2, 3, 4, 5, 11, 12], [0, 1, 2, 3, 4, 5, 11, 12, 13], [0, 1, 2, 3, 4, 5, 6, 7, 8, 9, 10, 11, 12, 13, 14], [0, 1, 2, 3, 4, 5, 6, 7, 8, 9, 10, 11, 12, 13, 14, 15], [0, 1, 2, 3, 4, 5, 6, 7, 8, 9, 10, 11, 12, 13, 14, 15, 16], [0, 1, 2, 3, 4, 5, 6, 7, 8, 9, 10, 11, 12, 13, 14, 15, 16, 17], [0, 1, 2, 3, 4, 5, 6, 7, 8, 9, 10, 11, 12, 13, 14, 15, 16, 17], [0, 1, 2, 3, 4, 5, 6, 7, 8, 9, 10, 11, 12, 13, 14, 15, 16, 17, 19], [0, 1, 2, 3, 4, 5, 6, 7, 8, 9, 10, 11, 12, 13, 14, 15, 16, 17, 19, 20], [0, 1, 2, 3, 4, 5, 6, 7, 8, 9, 10, 11, 12, 13, 14, 15, 16, 17, 19, 20, 21], [0, 1, 2, 3, 4, 5, 6, 7, 8, 9, 10, 11, 12, 13, 14, 15, 16, 17], [0, 1, 2, 3, 4, 5, 6, 7, 8, 9, 10, 11, 12, 13, 14, 15, 16, 17, 23], [0, 1, 2, 3, 4, 5, 6, 7, 8, 9, 10, 11, 12, 13, 14, 15, 16, 17, 23, 24], [0, 1, 2, 3, 4, 5, 6, 7, 8, 9, 10, 11, 12, 13, 14, 15, 16, 17, 23, 24, 25], [0, 1, 2, 3, 4, 5, 6, 7, 8, 9, 10, 11, 12, 13, 14, 15, 16, 17, 23, 24, 25, 26], [0, 1, 2, 3, 4, 5, 6, 7, 8, 9, 10, 11, 12, 13, 14, 15, 16, 17, 18, 19, 20, 21, 22, 23, 24, 25, 26, 27], [0, 1, 2, 3, 4, 5, 6, 7, 8, 9, 10, 11, 12, 13, 14, 15, 16, 17, 18, 19, 20, 21, 22, 23, 24, 25, 26, 27, 28], [0, 1, 2, 3, 4, 5, 6, 7, 8, 9, 10, 11, 12, 13, 14, 15, 16, 17, 18, 19, 20, 21, 22, 23, 24, 25, 26, 27, 28, 29]])]
def tab164 : TRow := [(2, [0, 1, 2, 3, 4, 5, 6, 7, 8, 9, 10, 11, 12, 13, 14], [[], [0], [0, 1], [0, 1, 2], [0, 1, 2, 3], [0, 1, 2, 3, 4], [0, 1, 2, 3, 4, 5], [0, 1, 2, 3, 4, 5], [0, 1, 2, 3, 4, 5, 7], [0, 1, 2, 3, 4, 5, 7, 8], [0, 1, 2, 3, 4, 5, 7, 8, 9], [0, 1, 2, 3, 4, 5, 6, 7, 8, 9, 10], [0, 1, 2, 3, 4, 5, 6, 7, 8, 9, 10, 11], [0, 1, 2, 3, 4, 5, 6, 7, 8, 9, 10, 11, 12], [0, 1, 2, 3, 4, 5, 6, 7, 8, 9, 10, 11, 12, 13]]), (12, [0, 1, 2, 3, 4, 5, 6, 7, 8, 9, 10, 11, 12, 13, 14, 15, 16, 17], [[], [0], [0, 1], [0, 1, 2], [0, 1, 2, 3], [], [5], [0, 1, 2, 3, 4, 5, 6], [0, 1, 2, 3, 4, 5, 6, 7], [0, 1, 2, 3, 4, 5, 6, 7, 8], [0, 1, 2, 3, 4, 5, 6, 7, 8, 9], [0, 1, 2, 3, 4, 5, 6, 7, 8, 9, 10], [0, 1, 2, 3, 4, 5, 6, 7, 8, 9, 10, 11], [0, 1, 2, 3, 4, 5, 6, 7, 8, 9, 10, 11, 12], [0, 1, 2, 3, 4, 5, 6, 7, 8], [0, 1, 2, 3, 4, 5, 6, 7, 8, 14], [0, 1, 2, 3, 4, 5, 6, 7, 8, 9, 10, 11, 12, 13, 14, 15], [0, 1, 2, 3, 4, 5, 6, 7, 8, 9, 10, 11, 12, 13, 14, 15, 16]]), (13, [0, 1, 2, 3, 4, 5, 6, 7, 8, 9, 10, 11, 12, 13, 14, 15, 16, 17, 18, 19, 20, 21, 22, 23, 24, 25, 26, 27], [[], [], [], [], [3], [3, 4], [3, 4, 5], [3, 4, 5, 6], [3, 4, 5, 6, 7], [3, 4, 5, 6, 7, 8], [3, 4, 5, 6, 7, 8, 9], [], [11], [11, 12], [11, 12, 13], [], [15], [15, 16], [15, 16, 17], [0, 3, 4, 5, 6, 7, 8, 9, 10, 11, 12, 13, 14, 15, 16, 17, 18], [0, 3, 4, 5, 6, 7, 8, 9, 10, 11, 12, 13, 14, 15, 16, 17, 18, 19], [0, 3, 4, 5, 6, 7, 8, 9, 10, 11, 12, 13, 14, 15, 16, 17, 18, 19, 20], [0, 1, 3, 4, 5, 6, 7, 8, 9, 10, 11, 12, 13, 14, 15, 16, 17, 18, 19, 20, 21], [0, 1, 3, 4, 5, 6, 7, 8, 9, 10, 11, 12, 13, 14, 15, 16, 17, 18, 19, 20, 21, 22], [0, 1, 3, 4, 5, 6, 7, 8, 9, 10, 11, 12, 13, 14, 15, 16, 17, 18, 19, 20, 21, 22, 23], [0, 1, 2, 3, 4, 5, 6, 7, 8, 9, 10, 11, 12, 13, 14, 15, 16, 17, 18, 19, 20, 21, 22, 23, 24], [0, 1, 2, 3, 4, 5, 6, 7, 8, 9, 10, 11, 12, 13, 14, 15, 16, 17, 18, 19, 20, 21, 22, 23, 24, 25], [0, 1, 2, 3, 4, 5, 6, 7, 8, 9, 10, 11, 12, 13, 14, 15, 16, 17, 18, 19, 20, 21, 22, 23, 24, 25, 26]])]
def tab166 : TRow := [(7, [0, 1, 2, 3, 4, 5, 6, 7, 8], [[], [0], [], [2], [0, 1, 2, 3], [0, 1, 2, 3, 4], [0, 1, 2, 3, 4, 5], [], [0, 1, 2, 3, 4, 5, 6, 7]]), (8, [1, 3, 4, 5, 6, 7, 8, 9, 10, 11, 12, 13, 14, 15, 16, 0, 2, 17, 18, 19], [[], [], [0, 1], [], [3], [], [5], [3, 4, 5, 6], [], [8], [], [10], [8, 9, 10, 11], [], [13], [], [15], [0, 1, 2, 3, 4, 5, 6, 7, 8, 9, 10, 11, 12, 13, 14, 15, 16], [0, 1, 2, 3, 4, 5, 6, 7, 8, 9, 10, 11, 12, 13, 14, 15, 16, 17], [0, 1, 2, 3, 4, 5, 6, 7, 8, 9, 10, 11, 12, 13, 14, 15, 16, 17, 18]])]
def tab167 : TRow := [(1, [0, 1, 2, 3, 4, 5, 6, 7, 8, 9, 10, 11, 12], [[], [0], [0, 1], [0, 1, 2], [], [4], [], [6], [], [8], [], [10], [0, 1, 2, 3, 4, 5, 6, 7, 8, 9, 10, 11]]), (2, [0, 1, 2, 3, 4, 5, 6, 7, 8, 9, 10], [[], [], [1], [1, 2], [1, 2, 3], [], [5], [1, 2, 3, 4, 5, 6], [0, 1, 2, 3, 4, 5, 6, 7], [0, 1, 2, 3, 4, 5, 6, 7, 8], [0, 1, 2, 3, 4, 5, 6, 7, 8, 9]])]
def tab176 : TRow := [(10, [0, 1, 2, 3, 4, 5], [[], [], [1], [], [3], [0, 1, 2, 3, 4]])]
def tab177 : TRow := [(15, [0, 1, 2, 3, 4, 5, 6], [[], [0], [0, 1], [0, 1, 2], [], [4], [0, 1, 2, 3, 4, 5]]), (16, [0, 1, 2, 3, 4, 5, 6, 7, 8, 9, 10, 11, 12, 13, 14], [[], [0], [0, 1], [0, 1, 2], [], [4], [], [6], [], [8], [], [10], [6, 7, 8, 9, 10, 11], [6, 7, 8, 9, 10, 11, 12], [0, 1, 2, 3, 4, 5, 6, 7, 8, 9, 10, 11, 12, 13]])]
def tab182 : TRow := [(1, [0, 1, 2, 3, 4, 5, 6, 7, 8, 9, 10, 11, 12], [[], [0], [0, 1], [0, 1, 2], [], [4], [0, 1, 2, 3, 4, 5], [0, 1, 2, 3, 4, 5, 6], [0, 1, 2, 3, 4, 5, 6, 7], [0, 1, 2, 3, 4, 5, 6, 7], [], [0, 1, 2, 3, 4, 5, 6, 7, 8, 10], [0, 1, 2, 3, 4, 5, 6, 7, 8, 9, 10, 11]]), (6, [0, 1, 2, 3, 5, 6, 4, 7, 8, 9, 10, 11, 12, 13, 14, 15, 16, 17, 18, 19, 20], [[], [0], [0, 1], [0, 1, 2], [0, 1, 2, 3], [0, 1], [0, 1, 5], [0, 1, 2, 3, 4, 5, 6], [0, 1, 2, 3, 4, 5, 6, 7], [0, 1, 2, 3, 4, 5, 6, 7, 8], [0, 1, 2, 3, 4, 5, 6, 7, 8, 9], [0, 1, 2, 3, 4, 5, 6, 7, 8, 9, 10], [0, 1, 2, 3, 4, 5, 6, 7, 8, 9, 10, 11], [0, 1, 2, 3, 4, 5, 6, 7, 8, 9, 10, 11, 12], [0, 1, 2, 3, 4, 5, 6, 7, 8, 9, 10, 11, 12, 13], [0, 1, 2, 3, 4, 5, 6, 7, 8, 9, 10, 11, 12], [0, 1, 2, 3, 4, 5, 6, 7, 8, 9, 10, 11, 12, 15], [0, 1, 2, 3, 4, 5, 6, 7, 8, 9, 10, 11, 12, 13, 14, 15, 16], [0, 1, 2, 3, 4, 5, 6, 7, 8, 9, 10, 11, 12, 13, 14, 15, 16, 17], [0, 1, 2, 3, 4, 5, 6, 7, 8, 9, 10, 11, 12, 13, 14, 15, 16, 17, 18], [0, 1, 2, 3, 4, 5, 6, 7, 8, 9, 10, 11, 12, 13, 14, 15, 16, 17, 18, 19]])]
def tab183 : TRow := [(1, [0, 1, 2, 3, 4, 5, 6, 7, 8, 9, 10, 11, 12], [[], [0], [0, 1], [0, 1, 2], [], [4], [0, 1, 2, 3, 4, 5], [0, 1, 2, 3, 4, 5, 6], [0, 1, 2, 3, 4, 5, 6, 7], [0, 1, 2, 3, 4, 5, 6, 7], [], [0, 1, 2, 3, 4, 5, 6, 7, 8, 10], [0, 1, 2, 3, 4, 5, 6, 7, 8, 9, 10, 11]]), (5, [0, 1, 2, 3, 4, 6, 7, 5, 8, 9, 10, 11, 12, 13, 14, 15, 16, 17, 18, 19, 20, 21, 22, 23, 24, 25, 26], [[], [0], [0, 1], [0, 1, 2], [0, 1, 2, 3], [0, 1, 2, 3, 4], [0, 1, 2], [0, 1, 2, 6], [0, 1, 2, 3, 4, 5, 6, 7], [0, 1, 2, 3, 4, 5, 6, 7, 8], [0, 1, 2, 3, 4, 5, 6, 7, 8, 9], [0, 1, 2, 3, 4, 5, 6, 7, 8, 9, 10], [0, 1, 2, 3, 4, 5, 6, 7, 8, 9, 10, 11], [0, 1, 2, 3, 4, 5, 6, 7, 8, 9, 10, 11, 12], [0, 1, 2, 3, 4, 5, 6, 7, 8, 9, 10, 11, 12, 13], [0, 1, 2, 3, 4, 5, 6, 7, 8, 9, 10, 11, 12, 13, 14], [0, 1, 2, 3, 4, 5, 6, 7, 8, 9, 10, 11, 12, 13, 14, 15], [0, 1, 2, 3, 4, 5, 6, 7, 8, 9, 10, 11, 12, 13, 14, 15, 16], [0, 1, 2, 3, 4, 5, 6, 7, 8, 9, 10, 11, 12, 13, 14, 15, 16, 17], [0, 1, 2, 3, 4, 5, 6, 7, 8, 9, 10, 11, 12, 13, 14, 15, 16, 17, 18], [0, 1, 2, 3, 4, 5, 6, 7, 8, 9, 10, 11, 12, 13, 14, 15, 16, 17, 18, 19], [0, 1, 2, 3, 4, 5, 6, 7, 8, 9, 10, 11, 12, 13, 14, 15, 16, 17, 18, 19, 20], [0, 1, 2, 3, 4, 5, 6, 7, 8, 9, 10, 11, 12, 13, 14, 15, 16, 17, 18, 19, 20, 21], [0, 1, 2, 3, 4, 5, 6, 7, 8, 9, 10, 11, 12, 13, 14, 15, 16, 17, 18], [0, 1, 2, 3, 4, 5, 6, 7, 8, 9, 10, 11, 12, 13, 14, 15, 16, 17, 18, 23], [0, 1, 2, 3, 4, 5, 6, 7, 8, 9, 10, 11, 12, 13, 14, 15, 16, 17, 18, 19, 20, 21, 22, 23, 24], [0, 1, 2, 3, 4, 5, 6, 7, 8, 9, 10, 11, 12, 13, 14, 15, 16, 17, 18, 19, 20, 21, 22, 23, 24, 25]]), (7, [0, 1, 2, 3, 4, 5, 6], [[], [0], [0, 1], [0, 1, 2], [], [4], [0, 1, 2, 3, 4, 5]])]
def tab184 : TRow := [(5, [0, 1, 2, 3, 4, 5, 6, 7, 8, 9, 10, 11, 12, 13, 14, 15], [[], [0], [0, 1], [0, 1, 2], [], [], [4, 5], [4, 5, 6], [4, 5, 6, 7], [0, 1, 2, 3, 4, 5, 6, 7, 8], [0, 1, 2, 3, 4, 5, 6, 7, 8, 9], [0, 1, 2, 3, 4, 5, 6, 7, 8, 9, 10], [0, 1, 2, 3, 4, 5, 6, 7, 8, 9, 10], [], [0, 1, 2, 3, 4, 5, 6, 7, 8, 9, 10, 11, 13], [0, 1, 2, 3, 4, 5, 6, 7, 8, 9, 10, 11, 12, 13, 14]]), (9, [0, 1, 2, 3, 4, 5, 6, 7, 8, 9, 10, 11, 12, 13, 14, 15, 16, 17, 18, 19, 20, 21, 22, 23, 24, 25, 26, 27, 28], [[], [0], [0, 1], [0, 1, 2], [0, 1, 2, 3], [0, 1, 2, 3, 4], [0, 1, 2, 3, 4, 5], [0, 1, 2, 3, 4, 5, 6], [0, 1, 2, 3, 4, 5, 6, 7], [0, 1, 2, 3, 4, 5, 6, 7, 8], [0, 1, 2, 3, 4, 5, 6, 7, 8, 9], [0, 1, 2, 3, 4, 5, 6, 7, 8, 9, 10], [0, 1, 2, 3, 4, 5, 6, 7, 8, 9, 10, 11], [0, 1, 2, 3, 4, 5, 6, 7, 8, 9, 10, 11], [0, 1, 2, 3, 4, 5, 6, 7, 8, 9, 10, 11, 12, 13], [0, 1, 2, 3, 4, 5, 6, 7, 8, 9, 10, 11, 12, 13, 14], [0, 1, 2, 3, 4, 5, 6, 7, 8, 9, 10, 11, 12, 13, 14, 15], [0, 1, 2, 3, 4, 5, 6, 7, 8, 9, 10, 11, 12, 13, 14, 15, 16], [0, 1, 2, 3, 4, 5, 6, 7, 8, 9, 10, 11, 12, 13, 14, 15, 16, 17], [0, 1, 2, 3, 4, 5, 6, 7, 8, 9, 10, 11, 12, 13, 14, 15, 16, 17, 18], [0, 1, 2, 3, 4, 5, 6, 7, 8, 9, 10, 11, 12, 13, 14, 15, 16, 17], [0, 1, 2, 3, 4, 5, 6, 7, 8, 9, 10, 11, 12, 13, 14, 15, 16, 17, 20], [0, 1, 2, 3, 4, 5, 6, 7, 8, 9, 10, 11, 12, 13, 14, 15, 16, 17, 20, 21], [0, 1, 2, 3, 4, 5, 6, 7, 8, 9, 10, 11, 12, 13, 14, 15, 16, 17, 20, 21, 22], [0, 1, 2, 3, 4, 5, 6, 7, 8, 9, 10, 11, 12, 13, 14, 15, 16, 17], [0, 1, 2, 3, 4, 5, 6, 7, 8, 9, 10, 11, 12, 13, 14, 15, 16, 17, 20, 21, 22, 23, 24], [0, 1, 2, 3, 4, 5, 6, 7, 8, 9, 10, 11, 12, 13, 14, 15, 16, 17, 20, 21, 22, 23, 24, 25], [0, 1, 2, 3, 4, 5, 6, 7, 8, 9, 10, 11, 12, 13, 14, 15, 16, 17, 18, 19, 20, 21, 22, 23, 24, 25, 26], [0, 1, 2, 3, 4, 5, 6, 7, 8, 9, 10, 11, 12, 13, 14, 15, 16, 17, 18, 19, 20, 21, 22, 23, 24, 25, 26, 27]]), (11, [0, 1, 2, 4, 5, 6, 3, 7, 8, 9, 10, 11, 12, 13], [[], [], [], [2], [], [], [5], [2, 3, 4, 5, 6], [0, 1, 2, 3, 4, 5, 6, 7], [0, 1, 2, 3, 4, 5, 6, 7, 8], [0, 1, 2, 3, 4, 5, 6, 7, 8, 9], [0, 1, 2, 3, 4, 5, 6, 7, 8, 9], [0, 1, 2, 3, 4, 5, 6, 7, 8, 9, 10], [0, 1, 2, 3, 4, 5, 6, 7, 8, 9, 10, 11, 12]]), (12, [0, 1, 2, 3, 5, 6, 7, 4, 8, 9, 10], [[], [0], [0, 1], [0, 1], [0, 1, 2, 3], [0, 1], [0, 1], [0, 1, 6], [0, 1, 2, 3, 4, 5, 6, 7], [0, 1, 2, 3, 4, 5, 6, 7, 8], [0, 1, 2, 3, 4, 5, 6, 7, 8, 9]])]
def tab186 : TRow := [(4, [0, 1, 2, 3, 4, 5, 6], [[], [0], [0, 1], [], [3], [3, 4], [0, 1, 2, 3, 4, 5]])]
def tab196 : TRow := [(13, [0, 1, 2, 3, 4, 5, 6, 7, 8, 9], [[], [0], [], [2], [], [0, 1, 2, 3, 4], [], [0, 1, 2, 3, 4, 5], [0, 1, 2, 3, 4, 5, 6, 7], [0, 1, 2, 3, 4, 5, 6, 7, 8]])]
def tab202 : TRow := [(9, [0, 1, 3, 4, 2, 5, 6], [[], [], [0, 1], [], [], [0, 1, 2, 3, 4], [0, 1, 2, 3, 4, 5]]), (15, [0, 1, 3, 4, 2, 5], [[], [], [0, 1], [], [], [0, 1, 2, 3, 4]])]
def tab203 : TRow := [(8, [0, 1, 2, 3, 4, 5, 6, 7, 8, 9, 10, 11, 12, 13, 14, 15], [[], [], [1], [1, 2], [0, 1, 2, 3], [0, 1, 2, 3, 4], [0, 1, 2, 3, 4, 5], [0, 1, 2, 3, 4, 5, 6], [0, 1, 2, 3, 4, 5], [0, 1, 2, 3, 4, 5, 6, 7, 8], [0, 1, 2, 3, 4, 5, 6, 7, 8, 9], [0, 1, 2, 3, 4, 5, 6, 7, 8, 9, 10], [0, 1, 2, 3, 4, 5], [0, 1, 2, 3, 4, 5, 12], [0, 1, 2, 3, 4, 5, 6, 7, 8, 9, 10, 11, 12, 13], [0, 1, 2, 3, 4, 5, 6, 7, 8, 9, 10, 11, 12, 13, 14]])]
def tab208 : TRow := [(5, [0, 1, 2, 3, 4, 5, 6, 7], [[], [], [0, 1], [], [], [3, 4], [0, 1, 2, 3, 4, 5], [0, 1, 2, 3, 4, 5, 6]])]
def tab210 : TRow := [(1, [0, 1, 2, 3, 4, 5, 6, 7, 8, 9, 10, 11, 12, 13, 14], [[], [], [1], [1, 2], [1, 2, 3], [], [], [], [7], [5, 6, 7, 8], [5, 6, 7, 8, 9], [1, 2, 3, 4, 5, 6, 7, 8, 9, 10], [0, 1, 2, 3, 4, 5, 6, 7, 8, 9, 10, 11], [0, 1, 2, 3, 4, 5, 6, 7, 8, 9, 10, 11, 12], [0, 1, 2, 3, 4, 5, 6, 7, 8, 9, 10, 11, 12, 13]]), (9, [0, 1, 2, 3, 4, 5, 6], [[], [0], [0, 1], [0, 1, 2], [], [4], [0, 1, 2, 3, 4, 5]]), (11, [0, 1, 2, 3, 4, 5, 6, 7, 8, 9, 10, 11, 12, 13, 14, 15, 16, 17, 18], [[], [0], [0, 1], [0, 1, 2], [], [4], [], [6], [6, 7], [6, 7, 8], [], [10], [], [0, 1, 2, 3, 4, 5, 6, 7, 8, 9], [0, 1, 2, 3, 4, 5, 6, 7, 8, 9, 13], [0, 1, 2, 3, 4, 5, 6, 7, 8, 9, 12, 13, 14], [0, 1, 2, 3, 4, 5, 6, 7, 8, 9, 10, 11, 12, 13, 14, 15], [0, 1, 2, 3, 4, 5, 6, 7, 8, 9, 10, 11, 12, 13, 14, 15, 16], [0, 1, 2, 3, 4, 5, 6, 7, 8, 9, 10, 11, 12, 13, 14, 15, 16, 17]]), (13, [0, 1, 2, 3, 4, 5, 6], [[], [0], [0, 1], [0, 1, 2], [], [4], [0, 1, 2, 3, 4, 5]]), (15, [0, 1, 2, 3, 4, 5, 6, 7], [[], [0], [0, 1], [0, 1, 2], [], [4], [], [0, 1, 2, 3, 4, 5, 6]])]
def tab213 : TRow := [(4, [0, 1, 2, 3, 4, 5, 6, 7, 8, 9, 10, 11, 12, 13, 14, 15, 16, 17, 18, 19, 20, 21, 22, 23, 24], [[], [0], [0, 1], [0, 1, 2], [0, 1, 2, 3], [0, 1, 2, 3, 4], [0, 1, 2, 3, 4, 5], [0, 1, 2, 3, 4, 5, 6], [0, 1, 2, 3, 4, 5, 6, 7], [0, 1, 2, 3, 4, 5, 6, 7, 8], [0, 1, 2, 3, 4, 5, 6, 7, 8, 9], [0, 1, 2, 3, 4, 5, 6, 7, 8, 9, 10], [0, 1, 2, 3, 4, 5, 6, 7, 8, 9, 10, 11], [0, 1, 2, 3, 4, 5, 6, 7, 8, 9, 10, 11, 12], [0, 1, 2, 3, 4, 5, 6, 7, 8, 9, 10, 11, 12, 13], [0, 1, 2, 3, 4, 5, 6, 7, 8, 9, 10, 11, 12, 13], [0, 1, 2, 3, 4, 5, 6, 7, 8, 9, 10, 11, 12, 13, 15], [0, 1, 2, 3, 4, 5, 6, 7, 8, 9, 10, 11, 12, 13, 14, 15, 16], [0, 1, 2, 3, 4, 5, 6, 7, 8, 9, 10, 11, 12, 13, 14, 15, 16, 17], [0, 1, 2, 3, 4, 5, 6, 7, 8, 9, 10, 11, 12, 13, 14, 15, 16, 17, 18], [0, 1, 2, 3, 4, 5, 6, 7, 8, 9, 10, 11, 12, 13], [0, 1, 2, 3, 4, 5, 6, 7, 8, 9, 10, 11, 12, 13, 20], [0, 1, 2, 3, 4, 5, 6, 7, 8, 9, 10, 11, 12, 13, 14, 15, 16, 17, 18, 19, 20, 21], [0, 1, 2, 3, 4, 5, 6, 7, 8, 9, 10, 11, 12, 13, 14, 15, 16, 17, 18, 19, 20, 21, 22], [0, 1, 2, 3, 4, 5, 6, 7, 8, 9, 10, 11, 12, 13, 14, 15, 16, 17, 18, 19, 20, 21, 22, 23]])]
def tab217 : TRow := [(12, [0, 1, 2, 3, 4, 5, 6, 7, 8, 9, 10], [[], [0], [0, 1], [0, 1, 2], [], [4], [], [6], [6, 7], [6, 7, 8], [0, 1, 2, 3, 4, 5, 6, 7, 8, 9]]), (14, [0, 1, 2, 3, 4, 5, 6], [[], [0], [0, 1], [0, 1, 2], [], [4], [0, 1, 2, 3, 4, 5]]), (15, [0, 1, 2, 3, 4, 5, 6, 7, 8, 9, 10, 11, 12, 13, 14, 15, 16], [[], [0], [0, 1], [0, 1, 2], [], [4], [], [6], [], [8], [8, 9], [8, 9, 10], [], [12], [6, 7, 8, 9, 10, 11, 12, 13], [6, 7, 8, 9, 10, 11, 12, 13, 14], [0, 1, 2, 3, 4, 5, 6, 7, 8, 9, 10, 11, 12, 13, 14, 15]]), (16, [0, 1, 2, 3, 4, 5, 6, 7, 8, 9, 10, 11, 12, 13, 14], [[], [], [1], [1, 2], [1, 2, 3], [], [5], [], [7], [], [9], [1, 2, 3, 4, 5, 6, 7, 8, 9, 10], [1, 2, 3, 4, 5, 6, 7, 8, 9, 10, 11], [0, 1, 2, 3, 4, 5, 6, 7, 8, 9, 10, 11, 12], [0, 1, 2, 3, 4, 5, 6, 7, 8, 9, 10, 11, 12, 13]])]
def tab218 : TRow := [(7, [0, 1, 2, 3, 4, 5, 6, 7, 8, 9, 10, 11], [[], [], [], [], [2, 3], [1], [1, 5], [1, 5, 6], [1, 2, 3, 4, 5, 6, 7], [1, 2, 3, 4, 5, 6, 7, 8], [0, 1, 2, 3, 4, 5, 6, 7, 8, 9], [0, 1, 2, 3, 4, 5, 6, 7, 8, 9, 10]])]
def tab221 : TRow := [(1, [0, 1, 2, 3, 4, 5], [[], [0], [], [2], [0, 1], [0, 1, 2, 3, 4]])]
def tab223 : TRow := [(4, [0, 1, 2, 3, 4, 5, 6, 7, 8, 9, 10, 11, 12, 13, 14, 15, 16, 17, 18, 19, 20, 21, 22, 23, 24], [[], [0], [0, 1], [0, 1, 2], [0, 1, 2, 3], [0, 1, 2, 3, 4], [0, 1, 2, 3, 4, 5], [0, 1, 2, 3, 4, 5, 6], [0, 1, 2, 3, 4, 5, 6, 7], [0, 1, 2, 3, 4, 5, 6, 7, 8], [0, 1, 2, 3, 4, 5, 6, 7, 8, 9], [0, 1, 2, 3, 4, 5, 6, 7, 8, 9, 10], [0, 1, 2, 3, 4, 5, 6, 7, 8, 9, 10, 11], [0, 1, 2, 3, 4, 5, 6, 7, 8, 9, 10, 11, 12], [0, 1, 2, 3, 4, 5, 6, 7, 8, 9, 10, 11, 12, 13], [0, 1, 2, 3, 4, 5, 6, 7, 8, 9, 10, 11, 12, 13], [0, 1, 2, 3, 4, 5, 6, 7, 8, 9, 10, 11, 12, 13, 15], [0, 1, 2, 3, 4, 5, 6, 7, 8, 9, 10, 11, 12, 13, 14, 15, 16], [0, 1, 2, 3, 4, 5, 6, 7, 8, 9, 10, 11, 12, 13, 14, 15, 16, 17], [0, 1, 2, 3, 4, 5, 6, 7, 8, 9, 10, 11, 12, 13, 14, 15, 16, 17, 18], [0, 1, 2, 3, 4, 5, 6, 7, 8, 9, 10, 11, 12, 13], [0, 1, 2, 3, 4, 5, 6, 7, 8, 9, 10, 11, 12, 13, 20], [0, 1, 2, 3, 4, 5, 6, 7, 8, 9, 10, 11, 12, 13, 14, 15, 16, 17, 18, 19, 20, 21], [0, 1, 2, 3, 4, 5, 6, 7, 8, 9, 10, 11, 12, 13, 14, 15, 16, 17, 18, 19, 20, 21, 22], [0, 1, 2, 3, 4, 5, 6, 7, 8, 9, 10, 11, 12, 13, 14, 15, 16, 17, 18, 19, 20, 21, 22, 23]])]
def tab225 : TRow := [(1, [0, 1, 2, 3, 4, 5], [[], [0], [], [2], [0, 1], [0, 1, 2, 3, 4]])]
def tab230 : TRow := [(3, [0, 1, 2, 3, 4, 5, 6, 7, 8, 9, 10, 11, 12, 13, 14, 15], [[], [], [], [], [], [], [4, 5], [4, 5, 6], [], [], [8, 9], [8, 9, 10], [0, 1, 4, 5, 6, 7, 8, 9, 10, 11], [0, 1, 4, 5, 6, 7, 8, 9, 10, 11, 12], [0, 1, 2, 3, 4, 5, 6, 7, 8, 9, 10, 11, 12, 13], [0, 1, 2, 3, 4, 5, 6, 7, 8, 9, 10, 11, 12, 13, 14]])]
def tab231 : TRow := [(4, [0, 1, 2, 3, 4, 5, 6, 7, 8, 9, 10, 11, 12, 13, 14, 15, 16], [[], [], [0, 1], [0, 1, 2], [0, 1, 2, 3], [0, 1, 2, 3], [0, 1, 2, 3], [0, 1, 2, 3, 5, 6], [0, 1, 2, 3, 5, 6, 7], [0, 1, 2, 3], [0, 1, 2, 3], [0, 1, 2, 3, 10], [0, 1, 2, 3, 9, 10, 11], [0, 1, 2, 3, 9, 10, 11, 12], [0, 1, 2, 3, 4, 5, 6, 7, 8, 9, 10, 11, 12, 13], [0, 1, 2, 3, 4, 5, 6, 7, 8, 9, 10, 11, 12, 13, 14], [0, 1, 2, 3, 4, 5, 6, 7, 8, 9, 10, 11, 12, 13, 14, 15]]), (6, [0, 1, 2, 3, 4, 5, 6, 7, 8, 9, 10, 11, 12, 13, 14, 15, 16, 17], [[], [], [], [], [3], [], [], [6], [5, 6, 7], [5, 6, 7, 8], [], [], [10, 11], [10, 11, 12], [0, 1, 5, 6, 7, 8, 9, 10, 11, 12, 13], [0, 1, 5, 6, 7, 8, 9, 10, 11, 12, 13, 14], [0, 1, 2, 3, 4, 5, 6, 7, 8, 9, 10, 11, 12, 13, 14, 15], [0, 1, 2, 3, 4, 5, 6, 7, 8, 9, 10, 11, 12, 13, 14, 15, 16]])]
def tab232 : TRow := [(10, [0, 1, 2, 3, 4, 5, 6, 7, 8, 9, 10, 11, 12, 13, 14, 15, 16, 17, 18, 19], [[], [], [], [], [], [3, 4], [], [], [], [7, 8], [6, 7, 8, 9], [6, 7, 8, 9, 10], [], [], [12, 13], [12, 13, 14], [0, 1, 6, 7, 8, 9, 10, 11, 12, 13, 14, 15], [0, 1, 6, 7, 8, 9, 10, 11, 12, 13, 14, 15, 16], [0, 1, 2, 3, 4, 5, 6, 7, 8, 9, 10, 11, 12, 13, 14, 15, 16, 17], [0, 1, 2, 3, 4, 5, 6, 7, 8, 9, 10, 11, 12, 13, 14, 15, 16, 17, 18]])]
def tab233 : TRow := [(10, [0, 1, 2, 3, 4, 5, 6, 7, 8, 9, 10, 11, 12, 13, 14, 15, 16, 17, 18, 19], [[], [], [], [], [], [3, 4], [], [], [], [7, 8], [6, 7, 8, 9], [6, 7, 8, 9, 10], [], [], [12, 13], [12, 13, 14], [0, 1, 6, 7, 8, 9, 10, 11, 12, 13, 14, 15], [0, 1, 6, 7, 8, 9, 10, 11, 12, 13, 14, 15, 16], [0, 1, 2, 3, 4, 5, 6, 7, 8, 9, 10, 11, 12, 13, 14, 15, 16, 17], [0, 1, 2, 3, 4, 5, 6, 7, 8, 9, 10, 11, 12, 13, 14, 15, 16, 17, 18]])]
def tab235 : TRow := [(3, [0, 1, 2, 3, 4, 5, 6, 7, 8, 9, 10, 11, 12, 13, 14, 15], [[], [], [], [], [], [], [4, 5], [4, 5, 6], [], [], [8, 9], [8, 9, 10], [0, 1, 4, 5, 6, 7, 8, 9, 10, 11], [0, 1, 4, 5, 6, 7, 8, 9, 10, 11, 12], [0, 1, 2, 3, 4, 5, 6, 7, 8, 9, 10, 11, 12, 13], [0, 1, 2, 3, 4, 5, 6, 7, 8, 9, 10, 11, 12, 13, 14]])]
def tab236 : TRow := [(5, [0, 1, 2, 3, 4, 5, 6, 7, 8, 9, 10, 11, 12, 13, 14, 15, 16, 17], [[], [], [0, 1], [0, 1, 2], [0, 1, 2, 3], [0, 1, 2, 3], [0, 1, 2, 3], [0, 1, 2, 3, 5, 6], [0, 1, 2, 3, 5, 6, 7], [0, 1, 2, 3], [0, 1, 2, 3], [0, 1, 2, 3, 10], [0, 1, 2, 3, 9, 10, 11], [0, 1, 2, 3, 9, 10, 11, 12], [0, 1, 2, 3, 4, 5, 6, 7, 8, 9, 10, 11, 12, 13], [0, 1, 2, 3, 4, 5, 6, 7, 8, 9, 10, 11, 12, 13, 14], [0, 1, 2, 3, 4, 5, 6, 7, 8, 9, 10, 11, 12, 13, 14, 15], [0, 1, 2, 3, 4, 5, 6, 7, 8, 9, 10, 11, 12, 13, 14, 15, 16]]), (11, [0, 1, 2, 3, 4, 5, 6, 7, 8, 9, 10, 11, 12, 13, 14, 15, 16, 17], [[], [], [], [], [3], [], [], [6], [5, 6, 7], [5, 6, 7, 8], [], [], [10, 11], [10, 11, 12], [0, 1, 5, 6, 7, 8, 9, 10, 11, 12, 13], [0, 1, 5, 6, 7, 8, 9, 10, 11, 12, 13, 14], [0, 1, 2, 3, 4, 5, 6, 7, 8, 9, 10, 11, 12, 13, 14, 15], [0, 1, 2, 3, 4, 5, 6, 7, 8, 9, 10, 11, 12, 13, 14, 15, 16]]), (16, [0, 1, 2, 3, 4, 5, 6, 7, 8, 9, 10, 11, 12], [[], [], [], [1, 2], [1, 2, 3], [], [], [6], [5, 6, 7], [5, 6, 7, 8], [0, 1, 2, 3, 4, 5, 6, 7, 8, 9], [0, 1, 2, 3, 4, 5, 6, 7, 8, 9, 10], [0, 1, 2, 3, 4, 5, 6, 7, 8, 9, 10, 11]]), (17, [0, 1, 2, 3, 4, 5, 6, 7, 8, 9, 10, 11, 12, 13, 14, 15, 16, 17], [[], [], [], [], [3], [], [], [6], [5, 6, 7], [5, 6, 7, 8], [], [], [10, 11], [10, 11, 12], [0, 1, 5, 6, 7, 8, 9, 10, 11, 12, 13], [0, 1, 5, 6, 7, 8, 9, 10, 11, 12, 13, 14], [0, 1, 2, 3, 4, 5, 6, 7, 8, 9, 10, 11, 12, 13, 14, 15], [0, 1, 2, 3, 4, 5, 6, 7, 8, 9, 10, 11, 12, 13, 14, 15, 16]]), (22, [0, 1, 2, 3, 4, 5, 6, 7, 8, 9, 10, 11, 12], [[], [], [], [1, 2], [1, 2, 3], [], [], [6], [5, 6, 7], [5, 6, 7, 8], [0, 1, 2, 3, 4, 5, 6, 7, 8, 9], [0, 1, 2, 3, 4, 5, 6, 7, 8, 9, 10], [0, 1, 2, 3, 4, 5, 6, 7, 8, 9, 10, 11]]), (23, [0, 1, 2, 3, 4, 5, 6, 7, 8, 9, 10, 11, 12, 13, 14, 15, 16, 17], [[], [], [], [], [3], [], [], [6], [5, 6, 7], [5, 6, 7, 8], [], [], [10, 11], [10, 11, 12], [0, 1, 5, 6, 7, 8, 9, 10, 11, 12, 13], [0, 1, 5, 6, 7, 8, 9, 10, 11, 12, 13, 14], [0, 1, 2, 3, 4, 5, 6, 7, 8, 9, 10, 11, 12, 13, 14, 15], [0, 1, 2, 3, 4, 5, 6, 7, 8, 9, 10, 11, 12, 13, 14, 15, 16]])]
def tab237 : TRow := [(1, [0, 1, 2, 3, 4, 5, 6, 7, 8, 9, 10, 11, 12, 13, 14, 15], [[], [], [], [], [], [], [4, 5], [4, 5, 6], [], [], [8, 9], [8, 9, 10], [0, 1, 4, 5, 6, 7, 8, 9, 10, 11], [0, 1, 4, 5, 6, 7, 8, 9, 10, 11, 12], [0, 1, 2, 3, 4, 5, 6, 7, 8, 9, 10, 11, 12, 13], [0, 1, 2, 3, 4, 5, 6, 7, 8, 9, 10, 11, 12, 13, 14]]), (3, [0, 1, 2, 3, 4, 5, 6, 7, 8, 9, 10, 11, 12, 13, 14, 15, 16], [[], [], [0, 1], [0, 1, 2], [0, 1, 2, 3], [0, 1, 2, 3], [0, 1, 2, 3], [0, 1, 2, 3, 5, 6], [0, 1, 2, 3, 5, 6, 7], [0, 1, 2, 3], [0, 1, 2, 3], [0, 1, 2, 3, 9, 10], [0, 1, 2, 3, 9, 10, 11], [0, 1, 2, 3, 4, 5, 6, 7, 8, 9, 10, 11, 12], [0, 1, 2, 3, 4, 5, 6, 7, 8, 9, 10, 11, 12, 13], [0, 1, 2, 3, 4, 5, 6, 7, 8, 9, 10, 11, 12, 13, 14], [0, 1, 2, 3, 4, 5, 6, 7, 8, 9, 10, 11, 12, 13, 14, 15]]), (5, [0, 1, 2, 3, 4, 5, 6, 7, 8, 9, 10, 11, 12, 13, 14, 15], [[], [], [0, 1], [0, 1, 2], [0, 1, 2, 3], [0, 1, 2, 3], [0, 1, 2, 3], [0, 1, 2, 3, 5, 6], [0, 1, 2, 3, 5, 6, 7], [0, 1, 2, 3], [0, 1, 2, 3], [0, 1, 2, 3, 9, 10], [0, 1, 2, 3, 9, 10, 11], [0, 1, 2, 3, 4, 5, 6, 7, 8, 9, 10, 11, 12], [0, 1, 2, 3, 4, 5, 6, 7, 8, 9, 10, 11, 12, 13], [0, 1, 2, 3, 4, 5, 6, 7, 8, 9, 10, 11, 12, 13, 14]]), (8, [0, 1, 2, 3, 4, 5, 6, 7, 8, 9, 10, 11, 12, 13, 14, 15], [[], [], [], [], [], [], [4, 5], [4, 5, 6], [], [], [8, 9], [8, 9, 10], [0, 1, 4, 5, 6, 7, 8, 9, 10, 11], [0, 1, 4, 5, 6, 7, 8, 9, 10, 11, 12], [0, 1, 2, 3, 4, 5, 6, 7, 8, 9, 10, 11, 12, 13], [0, 1, 2, 3, 4, 5, 6, 7, 8, 9, 10, 11, 12, 13, 14]])]
def tab238 : TRow := [(1, [0, 1, 2, 3, 4, 5, 6, 7, 8, 9, 10, 11, 12, 13, 14, 15], [[], [], [], [], [], [], [4, 5], [4, 5, 6], [], [], [8, 9], [8, 9, 10], [0, 1, 4, 5, 6, 7, 8, 9, 10, 11], [0, 1, 4, 5, 6, 7, 8, 9, 10, 11, 12], [0, 1, 2, 3, 4, 5, 6, 7, 8, 9, 10, 11, 12, 13], [0, 1, 2, 3, 4, 5, 6, 7, 8, 9, 10, 11, 12, 13, 14]]), (3, [0, 1, 2, 3, 4, 5, 6, 7, 8, 9, 10, 11, 12, 13, 14, 15], [[], [], [0, 1], [0, 1, 2], [0, 1, 2, 3], [0, 1, 2, 3], [0, 1, 2, 3], [0, 1, 2, 3, 5, 6], [0, 1, 2, 3, 5, 6, 7], [0, 1, 2, 3], [0, 1, 2, 3], [0, 1, 2, 3, 9, 10], [0, 1, 2, 3, 9, 10, 11], [0, 1, 2, 3, 4, 5, 6, 7, 8, 9, 10, 11, 12], [0, 1, 2, 3, 4, 5, 6, 7, 8, 9, 10, 11, 12, 13], [0, 1, 2, 3, 4, 5, 6, 7, 8, 9, 10, 11, 12, 13, 14]]), (5, [0, 1, 2, 3, 4, 5, 6, 7, 8, 9, 10, 11, 12, 13, 14, 15, 16], [[], [], [0, 1], [0, 1, 2], [0, 1, 2, 3], [0, 1, 2, 3], [0, 1, 2, 3], [0, 1, 2, 3, 5, 6], [0, 1, 2, 3, 5, 6, 7], [0, 1, 2, 3], [0, 1, 2, 3], [0, 1, 2, 3, 9, 10], [0, 1, 2, 3, 9, 10, 11], [0, 1, 2, 3, 4, 5, 6, 7, 8, 9, 10, 11, 12], [0, 1, 2, 3, 4, 5, 6, 7, 8, 9, 10, 11, 12, 13], [0, 1, 2, 3, 4, 5, 6, 7, 8, 9, 10, 11, 12, 13, 14], [0, 1, 2, 3, 4, 5, 6, 7, 8, 9, 10, 11, 12, 13, 14, 15]]), (8, [0, 1, 2, 3, 4, 5, 6, 7, 8, 9, 10, 11, 12, 13, 14, 15], [[], [], [], [], [], [], [4, 5], [4, 5, 6], [], [], [8, 9], [8, 9, 10], [0, 1, 4, 5, 6, 7, 8, 9, 10, 11], [0, 1, 4, 5, 6, 7, 8, 9, 10, 11, 12], [0, 1, 2, 3, 4, 5, 6, 7, 8, 9, 10, 11, 12, 13], [0, 1, 2, 3, 4, 5, 6, 7, 8, 9, 10, 11, 12, 13, 14]]), (10, [0, 1, 2, 3, 4, 5, 6, 7, 8, 9, 10, 11, 12, 13, 14, 15], [[], [], [], [], [], [], [4, 5], [4, 5, 6], [], [], [8, 9], [8, 9, 10], [0, 1, 4, 5, 6, 7, 8, 9, 10, 11], [0, 1, 4, 5, 6, 7, 8, 9, 10, 11, 12], [0, 1, 2, 3, 4, 5, 6, 7, 8, 9, 10, 11, 12, 13], [0, 1, 2, 3, 4, 5, 6, 7, 8, 9, 10, 11, 12, 13, 14]]), (13, [0, 1, 2, 3, 4, 5, 6, 7, 8, 9, 10, 11, 12, 13, 14, 15], [[], [], [0, 1], [0, 1, 2], [0, 1, 2, 3], [0, 1, 2, 3], [0, 1, 2, 3], [0, 1, 2, 3, 5, 6], [0, 1, 2, 3, 5, 6, 7], [0, 1, 2, 3], [0, 1, 2, 3], [0, 1, 2, 3, 9, 10], [0, 1, 2, 3, 9, 10, 11], [0, 1, 2, 3, 4, 5, 6, 7, 8, 9, 10, 11, 12], [0, 1, 2, 3, 4, 5, 6, 7, 8, 9, 10, 11, 12, 13], [0, 1, 2, 3, 4, 5, 6, 7, 8, 9, 10, 11, 12, 13, 14]]), (15, [0, 1, 2, 3, 4, 5, 6, 7, 8, 9, 10, 11, 12, 13, 14, 15, 16], [[], [], [0, 1], [0, 1, 2], [0, 1, 2, 3], [0, 1, 2, 3], [0, 1, 2, 3], [0, 1, 2, 3, 5, 6], [0, 1, 2, 3, 5, 6, 7], [0, 1, 2, 3], [0, 1, 2, 3], [0, 1, 2, 3, 9, 10], [0, 1, 2, 3, 9, 10, 11], [0, 1, 2, 3, 4, 5, 6, 7, 8, 9, 10, 11, 12], [0, 1, 2, 3, 4, 5, 6, 7, 8, 9, 10, 11, 12, 13], [0, 1, 2, 3, 4, 5, 6, 7, 8, 9, 10, 11, 12, 13, 14], [0, 1, 2, 3, 4, 5, 6, 7, 8, 9, 10, 11, 12, 13, 14, 15]]), (18, [0, 1, 2, 3, 4, 5, 6, 7, 8, 9, 10, 11, 12, 13, 14, 15], [[], [], [], [], [], [], [4, 5], [4, 5, 6], [], [], [8, 9], [8, 9, 10], [0, 1, 4, 5, 6, 7, 8, 9, 10, 11], [0, 1, 4, 5, 6, 7, 8, 9, 10, 11, 12], [0, 1, 2, 3, 4, 5, 6, 7, 8, 9, 10, 11, 12, 13], [0, 1, 2, 3, 4, 5, 6, 7, 8, 9, 10, 11, 12, 13, 14]]), (21, [0, 1, 2, 3, 4, 5, 6, 7, 8, 9, 10, 11, 12, 13, 14, 15], [[], [], [], [], [], [], [4, 5], [4, 5, 6], [], [], [8, 9], [8, 9, 10], [0, 1, 4, 5, 6, 7, 8, 9, 10, 11], [0, 1, 4, 5, 6, 7, 8, 9, 10, 11, 12], [0, 1, 2, 3, 4, 5, 6, 7, 8, 9, 10, 11, 12, 13], [0, 1, 2, 3, 4, 5, 6, 7, 8, 9, 10, 11, 12, 13, 14]])]
def tab242 : TRow := [(4, [0, 1, 2, 3, 4, 5, 6, 7, 8, 9, 10, 11, 12, 13, 14, 15, 16], [[], [], [0, 1], [0, 1, 2], [0, 1, 2, 3], [0, 1, 2, 3], [0, 1, 2, 3], [0, 1, 2, 3, 5, 6], [0, 1, 2, 3, 5, 6, 7], [0, 1, 2, 3], [0, 1, 2, 3], [0, 1, 2, 3, 10], [0, 1, 2, 3, 9, 10, 11], [0, 1, 2, 3, 9, 10, 11, 12], [0, 1, 2, 3, 4, 5, 6, 7, 8, 9, 10, 11, 12, 13], [0, 1, 2, 3, 4, 5, 6, 7, 8, 9, 10, 11, 12, 13, 14], [0, 1, 2, 3, 4, 5, 6, 7, 8, 9, 10, 11, 12, 13, 14, 15]]), (6, [0, 1, 2, 3, 4, 5, 6, 7, 8, 9, 10, 11, 12, 13, 14, 15, 16, 17], [[], [], [], [], [3], [], [], [6], [5, 6, 7], [5, 6, 7, 8], [], [], [10, 11], [10, 11, 12], [0, 1, 5, 6, 7, 8, 9, 10, 11, 12, 13], [0, 1, 5, 6, 7, 8, 9, 10, 11, 12, 13, 14], [0, 1, 2, 3, 4, 5, 6, 7, 8, 9, 10, 11, 12, 13, 14, 15], [0, 1, 2, 3, 4, 5, 6, 7, 8, 9, 10, 11, 12, 13, 14, 15, 16]])]
def tab243 : TRow := [(10, [0, 1, 2, 3, 4, 5, 6, 7, 8, 9, 10, 11, 12, 13, 14, 15, 16, 17, 18, 19], [[], [], [], [], [], [3, 4], [], [], [], [7, 8], [6, 7, 8, 9], [6, 7, 8, 9, 10], [], [], [12, 13], [12, 13, 14], [0, 1, 6, 7, 8, 9, 10, 11, 12, 13, 14, 15], [0, 1, 6, 7, 8, 9, 10, 11, 12, 13, 14, 15, 16], [0, 1, 2, 3, 4, 5, 6, 7, 8, 9, 10, 11, 12, 13, 14, 15, 16, 17], [0, 1, 2, 3, 4, 5, 6, 7, 8, 9, 10, 11, 12, 13, 14, 15, 16, 17, 18]])]
def tab244 : TRow := [(10, [0, 1, 2, 3, 4, 5, 6, 7, 8, 9, 10, 11, 12, 13, 14, 15, 16, 17, 18, 19], [[], [], [], [], [], [3, 4], [], [], [], [7, 8], [6, 7, 8, 9], [6, 7, 8, 9, 10], [], [], [12, 13], [12, 13, 14], [0, 1, 6, 7, 8, 9, 10, 11, 12, 13, 14, 15], [0, 1, 6, 7, 8, 9, 10, 11, 12, 13, 14, 15, 16], [0, 1, 2, 3, 4, 5, 6, 7, 8, 9, 10, 11, 12, 13, 14, 15, 16, 17], [0, 1, 2, 3, 4, 5, 6, 7, 8, 9, 10, 11, 12, 13, 14, 15, 16, 17, 18]])]
def tab246 : TRow := [(3, [0, 1, 2, 3, 4, 5, 6, 7, 8, 9, 10, 11, 12, 13, 14, 15], [[], [], [], [], [], [], [4, 5], [4, 5, 6], [], [], [8, 9], [8, 9, 10], [0, 1, 4, 5, 6, 7, 8, 9, 10, 11], [0, 1, 4, 5, 6, 7, 8, 9, 10, 11, 12], [0, 1, 2, 3, 4, 5, 6, 7, 8, 9, 10, 11, 12, 13], [0, 1, 2, 3, 4, 5, 6, 7, 8, 9, 10, 11, 12, 13, 14]])]
def tab247 : TRow := [(5, [0, 1, 2, 3, 4, 5, 6, 7, 8, 9, 10, 11, 12, 13, 14, 15, 16, 17], [[], [], [0, 1], [0, 1, 2], [0, 1, 2, 3], [0, 1, 2, 3], [0, 1, 2, 3], [0, 1, 2, 3, 5, 6], [0, 1, 2, 3, 5, 6, 7], [0, 1, 2, 3], [0, 1, 2, 3], [0, 1, 2, 3, 10], [0, 1, 2, 3, 9, 10, 11], [0, 1, 2, 3, 9, 10, 11, 12], [0, 1, 2, 3, 4, 5, 6, 7, 8, 9, 10, 11, 12, 13], [0, 1, 2, 3, 4, 5, 6, 7, 8, 9, 10, 11, 12, 13, 14], [0, 1, 2, 3, 4, 5, 6, 7, 8, 9, 10, 11, 12, 13, 14, 15], [0, 1, 2, 3, 4, 5, 6, 7, 8, 9, 10, 11, 12, 13, 14, 15, 16]]), (11, [0, 1, 2, 3, 4, 5, 6, 7, 8, 9, 10, 11, 12, 13, 14, 15, 16, 17], [[], [], [], [], [3], [], [], [6], [5, 6, 7], [5, 6, 7, 8], [], [], [10, 11], [10, 11, 12], [0, 1, 5, 6, 7, 8, 9, 10, 11, 12, 13], [0, 1, 5, 6, 7, 8, 9, 10, 11, 12, 13, 14], [0, 1, 2, 3, 4, 5, 6, 7, 8, 9, 10, 11, 12, 13, 14, 15], [0, 1, 2, 3, 4, 5, 6, 7, 8, 9, 10, 11, 12, 13, 14, 15, 16]]), (16, [0, 1, 2, 3, 4, 5, 6, 7, 8, 9, 10, 11, 12], [[], [], [], [1, 2], [1, 2, 3], [], [], [6], [5, 6, 7], [5, 6, 7, 8], [0, 1, 2, 3, 4, 5, 6, 7, 8, 9], [0, 1, 2, 3, 4, 5, 6, 7, 8, 9, 10], [0, 1, 2, 3, 4, 5, 6, 7, 8, 9, 10, 11]]), (17, [0, 1, 2, 3, 4, 5, 6, 7, 8, 9, 10, 11, 12, 13, 14, 15, 16, 17], [[], [], [], [], [3], [], [], [6], [5, 6, 7], [5, 6, 7, 8], [], [], [10, 11], [10, 11, 12], [0, 1, 5, 6, 7, 8, 9, 10, 11, 12, 13], [0, 1, 5, 6, 7, 8, 9, 10, 11, 12, 13, 14], [0, 1, 2, 3, 4, 5, 6, 7, 8, 9, 10, 11, 12, 13, 14, 15], [0, 1, 2, 3, 4, 5, 6, 7, 8, 9, 10, 11, 12, 13, 14, 15, 16]]), (22, [0, 1, 2, 3, 4, 5, 6, 7, 8, 9, 10, 11, 12], [[], [], [], [1, 2], [1, 2, 3], [], [], [6], [5, 6, 7], [5, 6, 7, 8], [0, 1, 2, 3, 4, 5, 6, 7, 8, 9], [0, 1, 2, 3, 4, 5, 6, 7, 8, 9, 10], [0, 1, 2, 3, 4, 5, 6, 7, 8, 9, 10, 11]]), (23, [0, 1, 2, 3, 4, 5, 6, 7, 8, 9, 10, 11, 12, 13, 14, 15, 16, 17], [[], [], [], [], [3], [], [], [6], [5, 6, 7], [5, 6, 7, 8], [], [], [10, 11], [10, 11, 12], [0, 1, 5, 6, 7, 8, 9, 10, 11, 12, 13], [0, 1, 5, 6, 7, 8, 9, 10, 11, 12, 13, 14], [0, 1, 2, 3, 4, 5, 6, 7, 8, 9, 10, 11, 12, 13, 14, 15], [0, 1, 2, 3, 4, 5, 6, 7, 8, 9, 10, 11, 12, 13, 14, 15, 16]])]
def tab248 : TRow := [(1, [0, 1, 2, 3, 4, 5, 6, 7, 8, 9, 10, 11, 12, 13, 14, 15], [[], [], [], [], [], [], [4, 5], [4, 5, 6], [], [], [8, 9], [8, 9, 10], [0, 1, 4, 5, 6, 7, 8, 9, 10, 11], [0, 1, 4, 5, 6, 7, 8, 9, 10, 11, 12], [0, 1, 2, 3, 4, 5, 6, 7, 8, 9, 10, 11, 12, 13], [0, 1, 2, 3, 4, 5, 6, 7, 8, 9, 10, 11, 12, 13, 14]]), (3, [0, 1, 2, 3, 4, 5, 6, 7, 8, 9, 10, 11, 12, 13, 14, 15, 16], [[], [], [0, 1], [0, 1, 2], [0, 1, 2, 3], [0, 1, 2, 3], [0, 1, 2, 3], [0, 1, 2, 3, 5, 6], [0, 1, 2, 3, 5, 6, 7], [0, 1, 2, 3], [0, 1, 2, 3], [0, 1, 2, 3, 9, 10], [0, 1, 2, 3, 9, 10, 11], [0, 1, 2, 3, 4, 5, 6, 7, 8, 9, 10, 11, 12], [0, 1, 2, 3, 4, 5, 6, 7, 8, 9, 10, 11, 12, 13], [0, 1, 2, 3, 4, 5, 6, 7, 8, 9, 10, 11, 12, 13, 14], [0, 1, 2, 3, 4, 5, 6, 7, 8, 9, 10, 11, 12, 13, 14, 15]]), (5, [0, 1, 2, 3, 4, 5, 6, 7, 8, 9, 10, 11, 12, 13, 14, 15], [[], [], [0, 1], [0, 1, 2], [0, 1, 2, 3], [0, 1, 2, 3], [0, 1, 2, 3], [0, 1, 2, 3, 5, 6], [0, 1, 2, 3, 5, 6, 7], [0, 1, 2, 3], [0, 1, 2, 3], [0, 1, 2, 3, 9, 10], [0, 1, 2, 3, 9, 10, 11], [0, 1, 2, 3, 4, 5, 6, 7, 8, 9, 10, 11, 12], [0, 1, 2, 3, 4, 5, 6, 7, 8, 9, 10, 11, 12, 13], [0, 1, 2, 3, 4, 5, 6, 7, 8, 9, 10, 11, 12, 13, 14]]), (8, [0, 1, 2, 3, 4, 5, 6, 7, 8, 9, 10, 11, 12, 13, 14, 15], [[], [], [], [], [], [], [4, 5], [4, 5, 6], [], [], [8, 9], [8, 9, 10], [0, 1, 4, 5, 6, 7, 8, 9, 10, 11], [0, 1, 4, 5, 6, 7, 8, 9, 10, 11, 12], [0, 1, 2, 3, 4, 5, 6, 7, 8, 9, 10, 11, 12, 13], [0, 1, 2, 3, 4, 5, 6, 7, 8, 9, 10, 11, 12, 13, 14]])]
def tab249 : TRow := [(1, [0, 1, 2, 3, 4, 5, 6, 7, 8, 9, 10, 11, 12, 13, 14, 15], [[], [], [], [], [], [], [4, 5], [4, 5, 6], [], [], [8, 9], [8, 9, 10], [0, 1, 4, 5, 6, 7, 8, 9, 10, 11], [0, 1, 4, 5, 6, 7, 8, 9, 10, 11, 12], [0, 1, 2, 3, 4, 5, 6, 7, 8, 9, 10, 11, 12, 13], [0, 1, 2, 3, 4, 5, 6, 7, 8, 9, 10, 11, 12, 13, 14]]), (3, [0, 1, 2, 3, 4, 5, 6, 7, 8, 9, 10, 11, 12, 13, 14, 15], [[], [], [0, 1], [0, 1, 2], [0, 1, 2, 3], [0, 1, 2, 3], [0, 1, 2, 3], [0, 1, 2, 3, 5, 6], [0, 1, 2, 3, 5, 6, 7], [0, 1, 2, 3], [0, 1, 2, 3], [0, 1, 2, 3, 9, 10], [0, 1, 2, 3, 9, 10, 11], [0, 1, 2, 3, 4, 5, 6, 7, 8, 9, 10, 11, 12], [0, 1, 2, 3, 4, 5, 6, 7, 8, 9, 10, 11, 12, 13], [0, 1, 2, 3, 4, 5, 6, 7, 8, 9, 10, 11, 12, 13, 14]]), (5, [0, 1, 2, 3, 4, 5, 6, 7, 8, 9, 10, 11, 12, 13, 14, 15, 16], [[], [], [0, 1], [0, 1, 2], [0, 1, 2, 3], [0, 1, 2, 3], [0, 1, 2, 3], [0, 1, 2, 3, 5, 6], [0, 1, 2, 3, 5, 6, 7], [0, 1, 2, 3], [0, 1, 2, 3], [0, 1, 2, 3, 9, 10], [0, 1, 2, 3, 9, 10, 11], [0, 1, 2, 3, 4, 5, 6, 7, 8, 9, 10, 11, 12], [0, 1, 2, 3, 4, 5, 6, 7, 8, 9, 10, 11, 12, 13], [0, 1, 2, 3, 4, 5, 6, 7, 8, 9, 10, 11, 12, 13, 14], [0, 1, 2, 3, 4, 5, 6, 7, 8, 9, 10, 11, 12, 13, 14, 15]]), (8, [0, 1, 2, 3, 4, 5, 6, 7, 8, 9, 10, 11, 12, 13, 14, 15], [[], [], [], [], [], [], [4, 5], [4, 5, 6], [], [], [8, 9], [8, 9, 10], [0, 1, 4, 5, 6, 7, 8, 9, 10, 11], [0, 1, 4, 5, 6, 7, 8, 9, 10, 11, 12], [0, 1, 2, 3, 4, 5, 6, 7, 8, 9, 10, 11, 12, 13], [0, 1, 2, 3, 4, 5, 6, 7, 8, 9, 10, 11, 12, 13, 14]]), (10, [0, 1, 2, 3, 4, 5, 6, 7, 8, 9, 10, 11, 12, 13, 14, 15], [[], [], [], [], [], [], [4, 5], [4, 5, 6], [], [], [8, 9], [8, 9, 10], [0, 1, 4, 5, 6, 7, 8, 9, 10, 11], [0, 1, 4, 5, 6, 7, 8, 9, 10, 11, 12], [0, 1, 2, 3, 4, 5, 6, 7, 8, 9, 10, 11, 12, 13], [0, 1, 2, 3, 4, 5, 6, 7, 8, 9, 10, 11, 12, 13, 14]]), (13, [0, 1, 2, 3, 4, 5, 6, 7, 8, 9, 10, 11, 12, 13, 14, 15], [[], [], [0, 1], [0, 1, 2], [0, 1, 2, 3], [0, 1, 2, 3], [0, 1, 2, 3], [0, 1, 2, 3, 5, 6], [0, 1, 2, 3, 5, 6, 7], [0, 1, 2, 3], [0, 1, 2, 3], [0, 1, 2, 3, 9, 10], [0, 1, 2, 3, 9, 10, 11], [0, 1, 2, 3, 4, 5, 6, 7, 8, 9, 10, 11, 12], [0, 1, 2, 3, 4, 5, 6, 7, 8, 9, 10, 11, 12, 13], [0, 1, 2, 3, 4, 5, 6, 7, 8, 9, 10, 11, 12, 13, 14]]), (15, [0, 1, 2, 3, 4, 5, 6, 7, 8, 9, 10, 11, 12, 13, 14, 15, 16], [[], [], [0, 1], [0, 1, 2], [0, 1, 2, 3], [0, 1, 2, 3], [0, 1, 2, 3], [0, 1, 2, 3, 5, 6], [0, 1, 2, 3, 5, 6, 7], [0, 1, 2, 3], [0, 1, 2, 3], [0, 1, 2, 3, 9, 10], [0, 1, 2, 3, 9, 10, 11], [0, 1, 2, 3, 4, 5, 6, 7, 8, 9, 10, 11, 12], [0, 1, 2, 3, 4, 5, 6, 7, 8, 9, 10, 11, 12, 13], [0, 1, 2, 3, 4, 5, 6, 7, 8, 9, 10, 11, 12, 13, 14], [0, 1, 2, 3, 4, 5, 6, 7, 8, 9, 10, 11, 12, 13, 14, 15]]), (18, [0, 1, 2, 3, 4, 5, 6, 7, 8, 9, 10, 11, 12, 13, 14, 15], [[], [], [], [], [], [], [4, 5], [4, 5, 6], [], [], [8, 9], [8, 9, 10], [0, 1, 4, 5, 6, 7, 8, 9, 10, 11], [0, 1, 4, 5, 6, 7, 8, 9, 10, 11, 12], [0, 1, 2, 3, 4, 5, 6, 7, 8, 9, 10, 11, 12, 13], [0, 1, 2, 3, 4, 5, 6, 7, 8, 9, 10, 11, 12, 13, 14]]), (21, [0, 1, 2, 3, 4, 5, 6, 7, 8, 9, 10, 11, 12, 13, 14, 15], [[], [], [], [], [], [], [4, 5], [4, 5, 6], [], [], [8, 9], [8, 9, 10], [0, 1, 4, 5, 6, 7, 8, 9, 10, 11], [0, 1, 4, 5, 6, 7, 8, 9, 10, 11, 12], [0, 1, 2, 3, 4, 5, 6, 7, 8, 9, 10, 11, 12, 13], [0, 1, 2, 3, 4, 5, 6, 7, 8, 9, 10, 11, 12, 13, 14]])]
def tab251 : TRow := [(17, [0, 1, 2, 3, 4, 5, 6, 7, 8, 9, 10, 11, 12, 13, 14], [[], [0], [0, 1], [0, 1, 2], [0, 1, 2], [0, 1, 2, 4], [0, 1, 2, 3, 4, 5], [0, 1, 2, 3, 4, 5, 6], [0, 1, 2], [0, 1, 2], [0, 1, 2, 8, 9], [0, 1, 2, 8, 9, 10], [0, 1, 2, 3, 4, 5, 6, 7, 8, 9, 10, 11], [0, 1, 2, 3, 4, 5, 6, 7, 8, 9, 10, 11, 12], [0, 1, 2, 3, 4, 5, 6, 7, 8, 9, 10, 11, 12, 13]])]
def tab252 : TRow := [(6, [0, 1, 2, 3, 4, 5, 6, 7, 8, 9, 10, 11, 12, 13, 14, 15, 16, 17, 18, 19, 20, 21, 22, 23, 24, 25, 26, 27, 28, 29, 30, 31, 32, 33, 34, 35, 36, 37, 38], [[], [], [0, 1], [0, 1, 2], [0, 1, 2, 3], [], [], [5, 6], [5, 6, 7], [5, 6, 7, 8], [0, 1, 2, 3, 4, 5, 6, 7, 8, 9], [0, 1, 2, 3, 4, 5, 6, 7, 8, 9, 10], [0, 1, 2, 3, 4, 5, 6, 7, 8, 9, 10, 11], [0, 1, 2, 3, 4, 5, 6, 7, 8, 9, 10, 11], [0, 1, 2, 3, 4, 5, 6, 7, 8, 9, 10, 11, 12, 13], [0, 1, 2, 3, 4, 5, 6, 7, 8, 9, 10, 11, 12, 13, 14], [0, 1, 2, 3, 4, 5, 6, 7, 8, 9, 10, 11, 12, 13, 14, 15], [0, 1, 2, 3, 4, 5, 6, 7, 8, 9, 10, 11], [0, 1, 2, 3, 4, 5, 6, 7, 8, 9, 10, 11], [0, 1, 2, 3, 4, 5, 6, 7, 8, 9, 10, 11, 17, 18], [0, 1, 2, 3, 4, 5, 6, 7, 8, 9, 10, 11, 17, 18, 19], [0, 1, 2, 3, 4, 5, 6, 7, 8, 9, 10, 11, 17, 18, 19, 20], [0, 1, 2, 3, 4, 5, 6, 7, 8, 9, 10, 11, 12, 13, 14, 15, 16, 17, 18, 19, 20, 21], [0, 1, 2, 3, 4, 5, 6, 7, 8, 9, 10, 11, 12, 13, 14, 15, 16, 17, 18, 19, 20, 21, 22], [0, 1, 2, 3, 4, 5, 6, 7, 8, 9, 10, 11, 12, 13, 14, 15, 16, 17, 18, 19, 20, 21, 22, 23], [0, 1, 2, 3, 4, 5, 6, 7, 8, 9, 10, 11, 12, 13, 14, 15, 16, 17, 18, 19, 20, 21, 22, 23, 24], [0, 1, 2, 3, 4, 5, 6, 7, 8, 9, 10, 11, 12, 13, 14, 15, 16, 17, 18, 19, 20, 21, 22, 23, 24], [0, 1, 2, 3, 4, 5, 6, 7, 8, 9, 10, 11, 12, 13, 14, 15, 16, 17, 18, 19, 20, 21, 22, 23, 24, 25, 26], [0, 1, 2, 3, 4, 5, 6, 7, 8, 9, 10, 11, 12, 13, 14, 15, 16, 17, 18, 19, 20, 21, 22, 23, 24, 25, 26, 27], [0, 1, 2, 3, 4, 5, 6, 7, 8, 9, 10, 11, 12, 13, 14, 15, 16, 17, 18, 19, 20, 21, 22, 23, 24, 25, 26, 27, 28], [0, 1, 2, 3, 4, 5, 6, 7, 8, 9, 10, 11, 12, 13, 14, 15, 16, 17, 18, 19, 20, 21, 22, 23, 24, 25, 26, 27, 28, 29], [0, 1, 2, 3, 4, 5, 6, 7, 8, 9, 10, 11, 12, 13, 14, 15, 16, 17, 18, 19, 20, 21, 22, 23, 24], [0, 1, 2, 3, 4, 5, 6, 7, 8, 9, 10, 11, 12, 13, 14, 15, 16, 17, 18, 19, 20, 21, 22, 23, 24], [0, 1, 2, 3, 4, 5, 6, 7, 8, 9, 10, 11, 12, 13, 14, 15, 16, 17, 18, 19, 20, 21, 22, 23, 24, 31, 32], [0, 1, 2, 3, 4, 5, 6, 7, 8, 9, 10, 11, 12, 13, 14, 15, 16, 17, 18, 19, 20, 21, 22, 23, 24, 31, 32, 33], [0, 1, 2, 3, 4, 5, 6, 7, 8, 9, 10, 11, 12, 13, 14, 15, 16, 17, 18, 19, 20, 21, 22, 23, 24, 31, 32, 33, 34], [0, 1, 2, 3, 4, 5, 6, 7, 8, 9, 10, 11, 12, 13, 14, 15, 16, 17, 18, 19, 20, 21, 22, 23, 24, 31, 32, 33, 34, 35], [0, 1, 2, 3, 4, 5, 6, 7, 8, 9, 10, 11, 12, 13, 14, 15, 16, 17, 18, 19, 20, 21, 22, 23, 24, 25, 26, 27, 28, 29, 30, 31, 32, 33, 34, 35, 36], [0, 1, 2, 3, 4, 5, 6, 7, 8, 9, 10, 11, 12, 13, 14, 15, 16, 17, 18, 19, 20, 21, 22, 23, 24, 25, 26, 27, 28, 29, 30, 31, 32, 33, 34, 35, 36, 37]]), (11, [0, 1, 2, 3, 4, 5, 6, 7, 8, 9, 10, 11, 12, 13, 14, 15, 16], [[], [], [0, 1], [0, 1, 2], [0, 1, 2, 3], [], [0, 1, 2, 3, 4, 5], [0, 1, 2, 3, 4, 5, 6], [], [], [8, 9], [8, 9, 10], [8, 9, 10, 11], [], [8, 9, 10, 11, 12, 13], [8, 9, 10, 11, 12, 13, 14], [0, 1, 2, 3, 4, 5, 6, 7, 8, 9, 10, 11, 12, 13, 14, 15]])]
def tab262 : TRow := [(6, [0, 1, 2, 3, 4, 5, 6, 7], [[], [0], [], [2], [2, 3], [0, 1, 2, 3, 4], [0, 1, 2, 3, 4, 5], [0, 1, 2, 3, 4, 5, 6]])]
def tab266 : TRow := [(3, [0, 1, 2, 3, 4, 5, 7, 8, 9, 6, 10, 11, 12, 13, 14, 15], [[], [], [1], [1, 2], [1, 2, 3], [], [5], [], [], [], [5, 6, 7, 8, 9], [5, 6, 7, 8, 9, 10], [1, 2, 3, 4, 5, 6, 7, 8, 9, 10, 11], [0, 1, 2, 3, 4, 5, 6, 7, 8, 9, 10, 11, 12], [0, 1, 2, 3, 4, 5, 6, 7, 8, 9, 10, 11, 12, 13], [0, 1, 2, 3, 4, 5, 6, 7, 8, 9, 10, 11, 12, 13, 14]])]
def tab277 : TRow := [(8, [0, 1, 2, 3, 4, 6, 7, 5, 8, 9, 10, 11, 12, 13, 14, 15, 16, 17, 18, 19, 20, 21, 22, 23], [[], [0], [0, 1], [0, 1, 2], [0, 1, 2, 3], [0, 1, 2, 3, 4], [0, 1, 2], [0, 1, 2, 6], [0, 1, 2, 3, 4, 5, 6, 7], [0, 1, 2, 3, 4, 5, 6, 7, 8], [0, 1, 2, 3, 4, 5, 6, 7, 8, 9], [0, 1, 2, 3, 4, 5, 6, 7, 8, 9, 10], [0, 1, 2, 3, 4, 5, 6, 7, 8, 9, 10, 11], [0, 1, 2, 3, 4, 5, 6, 7, 8, 9, 10], [0, 1, 2, 3, 4, 5, 6, 7, 8, 9, 10, 13], [0, 1, 2, 3, 4, 5, 6, 7, 8, 9, 10, 11, 12, 13, 14], [0, 1, 2, 3, 4, 5, 6, 7, 8, 9, 10, 11, 12, 13, 14, 15], [0, 1, 2, 3, 4, 5, 6, 7, 8, 9, 10, 11, 12, 13, 14, 15, 16], [0, 1, 2, 3, 4, 5, 6, 7, 8, 9, 10, 11, 12, 13, 14, 15, 16, 17], [0, 1, 2, 3, 4, 5, 6, 7, 8, 9, 10, 11, 12, 13, 14, 15, 16, 17, 18], [0, 1, 2, 3, 4, 5, 6, 7, 8, 9, 10, 11, 12, 13, 14, 15, 16, 17], [0, 1, 2, 3, 4, 5, 6, 7, 8, 9, 10, 11, 12, 13, 14, 15, 16, 17, 20], [0, 1, 2, 3, 4, 5, 6, 7, 8, 9, 10, 11, 12, 13, 14, 15, 16, 17, 18, 19, 20, 21], [0, 1, 2, 3, 4, 5, 6, 7, 8, 9, 10, 11, 12, 13, 14, 15, 16, 17, 18, 19, 20, 21, 22]])]
def tab278 : TRow := [(5, [0, 1, 2, 3, 4, 5, 6, 7], [[], [], [0, 1], [], [], [3, 4], [0, 1, 2, 3, 4, 5], [0, 1, 2, 3, 4, 5, 6]])]
def tab280 : TRow := [(1, [0, 1, 3, 4, 2, 6, 5, 7, 8, 9], [[], [0], [0, 1], [], [3], [0, 1, 2, 3, 4], [0, 1, 2, 3, 4], [0, 1, 2, 3, 4, 5, 6], [0, 1, 2, 3, 4, 5, 6, 7], [0, 1, 2, 3, 4, 5, 6, 7, 8]])]
def tab291 : TRow := [(6, [0, 1, 2, 3, 4, 5, 6, 7, 8, 9, 10, 11, 12, 13], [[], [0], [], [2], [0, 1, 2, 3], [], [5], [], [7], [5, 6, 7, 8], [0, 1, 2, 3, 4, 5, 6], [0, 1, 2, 3, 4, 5, 6, 10], [0, 1, 2, 3, 4, 5, 6, 7, 8, 9, 10, 11], [0, 1, 2, 3, 4, 5, 6, 7, 8, 9, 10, 11, 12]])]
def tab292 : TRow := [(1, [0, 1, 2, 3, 5, 6, 7, 8, 10, 11, 12, 13, 4, 9, 14, 15, 16, 17, 18], [[], [0], [], [2], [0, 1, 2, 3], [], [5], [], [7], [0, 1, 2, 3, 4, 5, 6, 7, 8], [], [10], [], [12], [0, 1, 2, 3, 4, 5, 6, 7, 8, 9, 10, 11, 12, 13], [0, 1, 2, 3, 4, 5, 6, 7, 8, 9, 10, 11, 12, 13, 14], [0, 1, 2, 3, 4, 5, 6, 7, 8, 9, 10, 11, 12, 13, 14, 15], [0, 1, 2, 3, 4, 5, 6, 7, 8, 9, 10, 11, 12, 13, 14, 15, 16], [0, 1, 2, 3, 4, 5, 6, 7, 8, 9, 10, 11, 12, 13, 14, 15, 16, 17]])]
def tab302 : TRow := [(11, [0, 1, 2, 3, 4, 5, 6, 7, 8], [[], [], [], [1, 2], [0, 1, 2, 3], [], [], [5, 6], [0, 1, 2, 3, 4, 5, 6, 7]]), (15, [0, 1, 2, 3, 4, 5, 6, 7, 8], [[], [], [], [1, 2], [0, 1, 2, 3], [], [], [5, 6], [0, 1, 2, 3, 4, 5, 6, 7]])]
def tab303 : TRow := [(7, [0, 1, 2, 3, 4, 5, 6, 7, 8, 9], [[], [], [1], [], [3], [3, 4], [3, 4, 5], [1, 2, 3, 4, 5, 6], [0, 1, 2, 3, 4, 5, 6, 7], [0, 1, 2, 3, 4, 5, 6, 7, 8]])]
def tab321 : TRow := [(12, [0, 1, 2, 3, 4, 5, 6, 7, 8, 9, 10, 11, 12], [[], [0], [0, 1], [0, 1, 2], [], [4], [0, 1, 2, 3, 4, 5], [0, 1, 2, 3, 4, 5, 6], [0, 1, 2, 3, 4, 5, 6, 7], [0, 1, 2, 3, 4, 5, 6, 7], [], [0, 1, 2, 3, 4, 5, 6, 7, 8, 10], [0, 1, 2, 3, 4, 5, 6, 7, 8, 9, 10, 11]])]
def tab322 : TRow := [(1, [0, 1, 2, 3, 4, 5, 6, 7, 8, 9, 10, 11, 12, 13, 14, 15, 16, 17], [[], [0], [0, 1], [0, 1, 2], [0, 1, 2, 3], [0, 1, 2, 3, 4], [0, 1, 2, 3, 4, 5], [0, 1, 2, 3, 4, 5, 6], [0, 1, 2, 3, 4, 5, 6, 7], [0, 1, 2, 3, 4, 5, 6, 7, 8], [0, 1, 2, 3, 4, 5, 6, 7, 8, 9], [0, 1, 2, 3, 4, 5, 6, 7, 8, 9, 10], [0, 1, 2, 3, 4, 5, 6, 7], [0, 1, 2, 3, 4, 5, 6, 7, 12], [0, 1, 2, 3, 4, 5, 6, 7, 12, 13], [0, 1, 2, 3, 4, 5, 6, 7, 12, 13, 14], [0, 1, 2, 3, 4, 5, 6, 7, 8, 9, 10, 11, 12, 13, 14, 15], [0, 1, 2, 3, 4, 5, 6, 7, 8, 9, 10, 11, 12, 13, 14, 15, 16]]), (6, [0, 1, 2, 3, 4, 5, 6, 7, 8, 9, 10, 11, 12, 13, 14, 15], [[], [0], [0, 1], [0, 1, 2], [0, 1, 2], [0, 1, 2, 3, 4], [0, 1, 2, 3, 4, 5], [0, 1, 2, 3, 4, 5, 6], [0, 1, 2], [0, 1, 2], [0, 1, 2, 9], [0, 1, 2, 8, 9, 10], [0, 1, 2, 8, 9, 10, 11], [0, 1, 2, 8, 9, 10, 11, 12], [0, 1, 2, 3, 4, 5, 6, 7, 8, 9, 10, 11, 12, 13], [0, 1, 2, 3, 4, 5, 6, 7, 8, 9, 10, 11, 12, 13, 14]]), (12, [0, 1, 2, 3, 4, 5, 6, 7, 8, 9, 10, 11], [[], [], [1], [1, 2], [1, 2, 3], [], [5], [5, 6], [1, 2, 3, 4, 5, 6, 7], [0, 1, 2, 3, 4, 5, 6, 7, 8], [0, 1, 2, 3, 4, 5, 6, 7, 8, 9], [0, 1, 2, 3, 4, 5, 6, 7, 8, 9, 10]]), (15, [0, 1, 2, 3, 4, 5, 6, 7, 8, 9], [[], [0], [0, 1], [0, 1, 2], [0, 1, 2, 3], [], [5], [5, 6], [5, 6, 7], [0, 1, 2, 3, 4, 5, 6, 7, 8]])]
def tab326 : TRow := [(1, [0, 1, 2, 3, 4, 5, 6, 7, 8, 9, 10, 11, 12, 13], [[], [], [], [], [], [], [0], [0, 6], [0, 1, 4, 6, 7], [0, 1, 4, 6, 7, 8], [2], [2, 10], [0, 1, 2, 3, 4, 5, 6, 7, 8, 9, 10, 11], [0, 1, 2, 3, 4, 5, 6, 7, 8, 9, 10, 11, 12]])]
def tab327 : TRow := [(3, [0, 1, 2, 3, 4, 5, 6, 7, 8, 9, 10, 11, 12, 13, 14, 15, 16, 17, 18, 19, 20, 21], [[], [0], [], [0, 1, 2], [0, 1, 2, 3], [0, 1, 2, 3, 4], [0, 1, 2, 3, 4], [0, 1, 2, 3, 4], [0, 1, 2, 3, 4], [0, 1, 2, 3, 4, 7, 8], [0, 1, 2, 3, 4, 6, 7, 8, 9], [0, 1, 2, 3, 4, 6, 7, 8, 9, 10], [0, 1, 2, 3, 4], [0, 1, 2, 3, 4], [0, 1, 2, 3, 4], [0, 1, 2, 3, 4, 13, 14], [0, 1, 2, 3, 4, 13, 14, 15], [0, 1, 2, 3, 4, 12, 13, 14, 15, 16], [0, 1, 2, 3, 4, 12, 13, 14, 15, 16, 17], [0, 1, 2, 3, 4, 5, 6, 7, 8, 9, 10, 11, 12, 13, 14, 15, 16, 17, 18], [0, 1, 2, 3, 4, 5, 6, 7, 8, 9, 10, 11, 12, 13, 14, 15, 16, 17, 18, 19], [0, 1, 2, 3, 4, 5, 6, 7, 8, 9, 10, 11, 12, 13, 14, 15, 16, 17, 18, 19, 20]]), (5, [0, 1, 2, 3, 4, 5, 6, 7, 8, 9, 10, 11, 12, 13, 14, 15], [[], [], [], [], [2, 3], [1, 2, 3, 4], [1, 2, 3, 4, 5], [], [], [], [8, 9], [7, 8, 9, 10], [7, 8, 9, 10, 11], [0, 1, 2, 3, 4, 5, 6, 7, 8, 9, 10, 11, 12], [0, 1, 2, 3, 4, 5, 6, 7, 8, 9, 10, 11, 12, 13], [0, 1, 2, 3, 4, 5, 6, 7, 8, 9, 10, 11, 12, 13, 14]]), (6, [0, 1, 2, 3, 4, 5, 6, 7, 8, 9, 10, 11, 12, 13, 14, 15, 16, 17, 18, 19, 20, 21, 22, 23], [[], [], [], [1, 2], [], [], [], [5, 6], [], [], [], [9, 10], [8, 9, 10, 11], [8, 9, 10, 11, 12], [], [], [], [15, 16], [14, 15, 16, 17], [14, 15, 16, 17, 18], [0, 1, 2, 3, 8, 9, 10, 11, 12, 13, 14, 15, 16, 17, 18, 19], [0, 1, 2, 3, 8, 9, 10, 11, 12, 13, 14, 15, 16, 17, 18, 19, 20], [0, 1, 2, 3, 4, 5, 6, 7, 8, 9, 10, 11, 12, 13, 14, 15, 16, 17, 18, 19, 20, 21], [0, 1, 2, 3, 4, 5, 6, 7, 8, 9, 10, 11, 12, 13, 14, 15, 16, 17, 18, 19, 20, 21, 22]])]
def tab329 : TRow := [(1, [0, 1, 2, 3, 4, 5, 6, 7, 8, 9], [[], [0], [0, 1], [], [3], [3, 4], [3, 4, 5], [0, 1, 2, 3, 4, 5, 6], [0, 1, 2, 3, 4, 5, 6, 7], [0, 1, 2, 3, 4, 5, 6, 7, 8]]), (2, [0, 1, 2, 3, 4, 5, 6, 7, 8, 9], [[], [0], [0, 1], [], [3], [3, 4], [3, 4, 5], [0, 1, 2, 3, 4, 5, 6], [0, 1, 2, 3, 4, 5, 6, 7], [0, 1, 2, 3, 4, 5, 6, 7, 8]]), (3, [0, 1, 2, 3, 4, 5, 6, 7, 8, 9], [[], [0], [0, 1], [], [3], [3, 4], [3, 4, 5], [0, 1, 2, 3, 4, 5, 6], [0, 1, 2, 3, 4, 5, 6, 7], [0, 1, 2, 3, 4, 5, 6, 7, 8]])]
def tab332 : TRow := [(3, [0, 1, 2, 3, 4, 5, 6, 7, 8, 9, 10, 11, 12, 13, 14, 15, 16, 17, 18, 19, 20, 21], [[], [0], [], [0, 1, 2], [0, 1, 2, 3], [0, 1, 2, 3, 4], [0, 1, 2, 3, 4], [0, 1, 2, 3, 4], [0, 1, 2, 3, 4], [0, 1, 2, 3, 4, 7, 8], [0, 1, 2, 3, 4, 6, 7, 8, 9], [0, 1, 2, 3, 4, 6, 7, 8, 9, 10], [0, 1, 2, 3, 4], [0, 1, 2, 3, 4], [0, 1, 2, 3, 4], [0, 1, 2, 3, 4, 13, 14], [0, 1, 2, 3, 4, 13, 14, 15], [0, 1, 2, 3, 4, 12, 13, 14, 15, 16], [0, 1, 2, 3, 4, 12, 13, 14, 15, 16, 17], [0, 1, 2, 3, 4, 5, 6, 7, 8, 9, 10, 11, 12, 13, 14, 15, 16, 17, 18], [0, 1, 2, 3, 4, 5, 6, 7, 8, 9, 10, 11, 12, 13, 14, 15, 16, 17, 18, 19], [0, 1, 2, 3, 4, 5, 6, 7, 8, 9, 10, 11, 12, 13, 14, 15, 16, 17, 18, 19, 20]]), (5, [0, 1, 2, 3, 4, 5, 6, 7, 8, 9, 10, 11, 12, 13, 14, 15], [[], [], [], [], [2, 3], [1, 2, 3, 4], [1, 2, 3, 4, 5], [], [], [], [8, 9], [7, 8, 9, 10], [7, 8, 9, 10, 11], [0, 1, 2, 3, 4, 5, 6, 7, 8, 9, 10, 11, 12], [0, 1, 2, 3, 4, 5, 6, 7, 8, 9, 10, 11, 12, 13], [0, 1, 2, 3, 4, 5, 6, 7, 8, 9, 10, 11, 12, 13, 14]]), (6, [0, 1, 2, 3, 4, 5, 6, 7, 8, 9, 10, 11, 12, 13, 14, 15, 16, 17, 18, 19, 20, 21, 22, 23], [[], [], [], [1, 2], [], [], [], [5, 6], [], [], [], [9, 10], [8, 9, 10, 11], [8, 9, 10, 11, 12], [], [], [], [15, 16], [14, 15, 16, 17], [14, 15, 16, 17, 18], [0, 1, 2, 3, 8, 9, 10, 11, 12, 13, 14, 15, 16, 17, 18, 19], [0, 1, 2, 3, 8, 9, 10, 11, 12, 13, 14, 15, 16, 17, 18, 19, 20], [0, 1, 2, 3, 4, 5, 6, 7, 8, 9, 10, 11, 12, 13, 14, 15, 16, 17, 18, 19, 20, 21], [0, 1, 2, 3, 4, 5, 6, 7, 8, 9, 10, 11, 12, 13, 14, 15, 16, 17, 18, 19, 20, 21, 22]])]
def tab335 : TRow := [(4, [0, 1, 2, 3, 4, 5, 6, 7, 8, 9, 10, 11, 12, 13, 14], [[], [], [0, 1], [0, 1, 2], [0, 1, 2, 3], [0, 1, 2, 3], [0, 1, 2, 3, 4, 5], [0, 1, 2, 3, 4, 5, 6], [0, 1, 2, 3], [0, 1, 2, 3], [0, 1, 2, 3, 9], [0, 1, 2, 3, 8, 9, 10], [0, 1, 2, 3, 8, 9, 10, 11], [0, 1, 2, 3, 4, 5, 6, 7, 8, 9, 10, 11, 12], [0, 1, 2, 3, 4, 5, 6, 7, 8, 9, 10, 11, 12, 13]]), (6, [0, 1, 2, 3, 4, 5, 6, 7, 8, 9, 10, 11, 12, 13, 14, 15, 16, 17], [[], [], [], [], [3], [], [], [6], [5, 6, 7], [5, 6, 7, 8], [], [], [10, 11], [10, 11, 12], [0, 1, 5, 6, 7, 8, 9, 10, 11, 12, 13], [0, 1, 5, 6, 7, 8, 9, 10, 11, 12, 13, 14], [0, 1, 2, 3, 4, 5, 6, 7, 8, 9, 10, 11, 12, 13, 14, 15], [0, 1, 2, 3, 4, 5, 6, 7, 8, 9, 10, 11, 12, 13, 14, 15, 16]])]
def tab336 : TRow := [(10, [0, 1, 2, 3, 4, 5, 6, 7, 8, 9, 10, 11, 12, 13, 14, 15, 16, 17, 18, 19], [[], [], [], [], [], [3, 4], [], [], [], [7, 8], [6, 7, 8, 9], [6, 7, 8, 9, 10], [], [], [12, 13], [12, 13, 14], [0, 1, 6, 7, 8, 9, 10, 11, 12, 13, 14, 15], [0, 1, 6, 7, 8, 9, 10, 11, 12, 13, 14, 15, 16], [0, 1, 2, 3, 4, 5, 6, 7, 8, 9, 10, 11, 12, 13, 14, 15, 16, 17], [0, 1, 2, 3, 4, 5, 6, 7, 8, 9, 10, 11, 12, 13, 14, 15, 16, 17, 18]])]
def tab337 : TRow := [(10, [0, 1, 2, 3, 4, 5, 6, 7, 8, 9, 10, 11, 12, 13, 14, 15, 16, 17, 18, 19], [[], [], [], [], [], [3, 4], [], [], [], [7, 8], [6, 7, 8, 9], [6, 7, 8, 9, 10], [], [], [12, 13], [12, 13, 14], [0, 1, 6, 7, 8, 9, 10, 11, 12, 13, 14, 15], [0, 1, 6, 7, 8, 9, 10, 11, 12, 13, 14, 15, 16], [0, 1, 2, 3, 4, 5, 6, 7, 8, 9, 10, 11, 12, 13, 14, 15, 16, 17], [0, 1, 2, 3, 4, 5, 6, 7, 8, 9, 10, 11, 12, 13, 14, 15, 16, 17, 18]])]
def tab339 : TRow := [(3, [0, 1, 2, 3, 4, 5, 6, 7, 8, 9, 10, 11, 12, 13, 14, 15], [[], [], [], [], [], [], [4, 5], [4, 5, 6], [], [], [8, 9], [8, 9, 10], [0, 1, 4, 5, 6, 7, 8, 9, 10, 11], [0, 1, 4, 5, 6, 7, 8, 9, 10, 11, 12], [0, 1, 2, 3, 4, 5, 6, 7, 8, 9, 10, 11, 12, 13], [0, 1, 2, 3, 4, 5, 6, 7, 8, 9, 10, 11, 12, 13, 14]])]
def tab340 : TRow := [(5, [0, 1, 2, 3, 4, 5, 6, 7, 8, 9, 10, 11, 12, 13, 14, 15], [[], [], [0, 1], [0, 1, 2], [0, 1, 2, 3], [0, 1, 2, 3], [0, 1, 2, 3, 4, 5], [0, 1, 2, 3, 4, 5, 6], [0, 1, 2, 3], [0, 1, 2, 3], [0, 1, 2, 3, 9], [0, 1, 2, 3, 8, 9, 10], [0, 1, 2, 3, 8, 9, 10, 11], [0, 1, 2, 3, 4, 5, 6, 7, 8, 9, 10, 11, 12], [0, 1, 2, 3, 4, 5, 6, 7, 8, 9, 10, 11, 12, 13], [0, 1, 2, 3, 4, 5, 6, 7, 8, 9, 10, 11, 12, 13, 14]]), (11, [0, 1, 2, 3, 4, 5, 6, 7, 8, 9, 10, 11, 12, 13, 14, 15, 16, 17], [[], [], [], [], [3], [], [], [6], [5, 6, 7], [5, 6, 7, 8], [], [], [10, 11], [10, 11, 12], [0, 1, 5, 6, 7, 8, 9, 10, 11, 12, 13], [0, 1, 5, 6, 7, 8, 9, 10, 11, 12, 13, 14], [0, 1, 2, 3, 4, 5, 6, 7, 8, 9, 10, 11, 12, 13, 14, 15], [0, 1, 2, 3, 4, 5, 6, 7, 8, 9, 10, 11, 12, 13, 14, 15, 16]]), (16, [0, 1, 2, 3, 4, 5, 6, 7, 8, 9, 10], [[], [], [0, 1], [0, 1, 2], [], [], [5], [4, 5, 6], [4, 5, 6, 7], [0, 1, 2, 3, 4, 5, 6, 7, 8], [0, 1, 2, 3, 4, 5, 6, 7, 8, 9]]), (17, [0, 1, 2, 3, 4, 5, 6, 7, 8, 9, 10, 11, 12, 13, 14, 15, 16, 17], [[], [], [], [], [3], [], [], [6], [5, 6, 7], [5, 6, 7, 8], [], [], [10, 11], [10, 11, 12], [0, 1, 5, 6, 7, 8, 9, 10, 11, 12, 13], [0, 1, 5, 6, 7, 8, 9, 10, 11, 12, 13, 14], [0, 1, 2, 3, 4, 5, 6, 7, 8, 9, 10, 11, 12, 13, 14, 15], [0, 1, 2, 3, 4, 5, 6, 7, 8, 9, 10, 11, 12, 13, 14, 15, 16]]), (22, [0, 1, 2, 3, 4, 5, 6, 7, 8, 9, 10], [[], [], [0, 1], [0, 1, 2], [], [], [5], [4, 5, 6], [4, 5, 6, 7], [0, 1, 2, 3, 4, 5, 6, 7, 8], [0, 1, 2, 3, 4, 5, 6, 7, 8, 9]]), (23, [0, 1, 2, 3, 4, 5, 6, 7, 8, 9, 10, 11, 12, 13, 14, 15, 16, 17], [[], [], [], [], [3], [], [], [6], [5, 6, 7], [5, 6, 7, 8], [], [], [10, 11], [10, 11, 12], [0, 1, 5, 6, 7, 8, 9, 10, 11, 12, 13], [0, 1, 5, 6, 7, 8, 9, 10, 11, 12, 13, 14], [0, 1, 2, 3, 4, 5, 6, 7, 8, 9, 10, 11, 12, 13, 14, 15], [0, 1, 2, 3, 4, 5, 6, 7, 8, 9, 10, 11, 12, 13, 14, 15, 16]])]
def tab342 : TRow := [(1, [0, 1, 2, 3, 4, 5, 6, 7, 8, 9, 10, 11, 12, 13, 14, 15], [[], [], [], [], [], [], [4, 5], [4, 5, 6], [], [], [8, 9], [8, 9, 10], [0, 1, 4, 5, 6, 7, 8, 9, 10, 11], [0, 1, 4, 5, 6, 7, 8, 9, 10, 11, 12], [0, 1, 2, 3, 4, 5, 6, 7, 8, 9, 10, 11, 12, 13], [0, 1, 2, 3, 4, 5, 6, 7, 8, 9, 10, 11, 12, 13, 14]]), (3, [0, 1, 2, 3, 4, 5, 6, 7, 8, 9, 10, 11, 12, 13, 14], [[], [], [0, 1], [0, 1, 2], [0, 1, 2, 3], [0, 1, 2, 3], [0, 1, 2, 3, 4, 5], [0, 1, 2, 3, 4, 5, 6], [0, 1, 2, 3], [0, 1, 2, 3], [0, 1, 2, 3, 8, 9], [0, 1, 2, 3, 8, 9, 10], [0, 1, 2, 3, 4, 5, 6, 7, 8, 9, 10, 11], [0, 1, 2, 3, 4, 5, 6, 7, 8, 9, 10, 11, 12], [0, 1, 2, 3, 4, 5, 6, 7, 8, 9, 10, 11, 12, 13]]), (5, [0, 1, 2, 3, 4, 5, 6, 7, 8, 9, 10, 11, 12, 13], [[], [], [0, 1], [0, 1, 2], [0, 1, 2, 3], [0, 1, 2, 3], [0, 1, 2, 3, 4, 5], [0, 1, 2, 3, 4, 5, 6], [0, 1, 2, 3], [0, 1, 2, 3], [0, 1, 2, 3, 8, 9], [0, 1, 2, 3, 8, 9, 10], [0, 1, 2, 3, 4, 5, 6, 7, 8, 9, 10, 11], [0, 1, 2, 3, 4, 5, 6, 7, 8, 9, 10, 11, 12]]), (8, [0, 1, 2, 3, 4, 5, 6, 7, 8, 9, 10, 11, 12, 13, 14, 15], [[], [], [], [], [], [], [4, 5], [4, 5, 6], [], [], [8, 9], [8, 9, 10], [0, 1, 4, 5, 6, 7, 8, 9, 10, 11], [0, 1, 4, 5, 6, 7, 8, 9, 10, 11, 12], [0, 1, 2, 3, 4, 5, 6, 7, 8, 9, 10, 11, 12, 13], [0, 1, 2, 3, 4, 5, 6, 7, 8, 9, 10, 11, 12, 13, 14]])]
def tab343 : TRow := [(1, [0, 1, 2, 3, 4, 5, 6, 7, 8, 9, 10, 11, 12, 13, 14, 15], [[], [], [], [], [], [], [4, 5], [4, 5, 6], [], [], [8, 9], [8, 9, 10], [0, 1, 4, 5, 6, 7, 8, 9, 10, 11], [0, 1, 4, 5, 6, 7, 8, 9, 10, 11, 12], [0, 1, 2, 3, 4, 5, 6, 7, 8, 9, 10, 11, 12, 13], [0, 1, 2, 3, 4, 5, 6, 7, 8, 9, 10, 11, 12, 13, 14]]), (3, [0, 1, 2, 3, 4, 5, 6, 7, 8, 9, 10, 11, 12, 13], [[], [], [0, 1], [0, 1, 2], [0, 1, 2, 3], [0, 1, 2, 3], [0, 1, 2, 3, 4, 5], [0, 1, 2, 3, 4, 5, 6], [0, 1, 2, 3], [0, 1, 2, 3], [0, 1, 2, 3, 8, 9], [0, 1, 2, 3, 8, 9, 10], [0, 1, 2, 3, 4, 5, 6, 7, 8, 9, 10, 11], [0, 1, 2, 3, 4, 5, 6, 7, 8, 9, 10, 11, 12]]), (5, [0, 1, 2, 3, 4, 5, 6, 7, 8, 9, 10, 11, 12, 13, 14], [[], [], [0, 1], [0, 1, 2], [0, 1, 2, 3], [0, 1, 2, 3], [0, 1, 2, 3, 4, 5], [0, 1, 2, 3, 4, 5, 6], [0, 1, 2, 3], [0, 1, 2, 3], [0, 1, 2, 3, 8, 9], [0, 1, 2, 3, 8, 9, 10], [0, 1, 2, 3, 4, 5, 6, 7, 8, 9, 10, 11], [0, 1, 2, 3, 4, 5, 6, 7, 8, 9, 10, 11, 12], [0, 1, 2, 3, 4, 5, 6, 7, 8, 9, 10, 11, 12, 13]]), (8, [0, 1, 2, 3, 4, 5, 6, 7, 8, 9, 10, 11, 12, 13, 14, 15], [[], [], [], [], [], [], [4, 5], [4, 5, 6], [], [], [8, 9], [8, 9, 10], [0, 1, 4, 5, 6, 7, 8, 9, 10, 11], [0, 1, 4, 5, 6, 7, 8, 9, 10, 11, 12], [0, 1, 2, 3, 4, 5, 6, 7, 8, 9, 10, 11, 12, 13], [0, 1, 2, 3, 4, 5, 6, 7, 8, 9, 10, 11, 12, 13, 14]]), (10, [0, 1, 2, 3, 4, 5, 6, 7, 8, 9, 10, 11, 12, 13, 14, 15], [[], [], [], [], [], [], [4, 5], [4, 5, 6], [], [], [8, 9], [8, 9, 10], [0, 1, 4, 5, 6, 7, 8, 9, 10, 11], [0, 1, 4, 5, 6, 7, 8, 9, 10, 11, 12], [0, 1, 2, 3, 4, 5, 6, 7, 8, 9, 10, 11, 12, 13], [0, 1, 2, 3, 4, 5, 6, 7, 8, 9, 10, 11, 12, 13, 14]]), (13, [0, 1, 2, 3, 4, 5, 6, 7, 8, 9, 10, 11, 12, 13], [[], [], [0, 1], [0, 1, 2], [0, 1, 2, 3], [0, 1, 2, 3], [0, 1, 2, 3, 4, 5], [0, 1, 2, 3, 4, 5, 6], [0, 1, 2, 3], [0, 1, 2, 3], [0, 1, 2, 3, 8, 9], [0, 1, 2, 3, 8, 9, 10], [0, 1, 2, 3, 4, 5, 6, 7, 8, 9, 10, 11], [0, 1, 2, 3, 4, 5, 6, 7, 8, 9, 10, 11, 12]]), (15, [0, 1, 2, 3, 4, 5, 6, 7, 8, 9, 10, 11, 12, 13, 14], [[], [], [0, 1], [0, 1, 2], [0, 1, 2, 3], [0, 1, 2, 3], [0, 1, 2, 3, 4, 5], [0, 1, 2, 3, 4, 5, 6], [0, 1, 2, 3], [0, 1, 2, 3], [0, 1, 2, 3, 8, 9], [0, 1, 2, 3, 8, 9, 10], [0, 1, 2, 3, 4, 5, 6, 7, 8, 9, 10, 11], [0, 1, 2, 3, 4, 5, 6, 7, 8, 9, 10, 11, 12], [0, 1, 2, 3, 4, 5, 6, 7, 8, 9, 10, 11, 12, 13]]), (18, [0, 1, 2, 3, 4, 5, 6, 7, 8, 9, 10, 11, 12, 13, 14, 15], [[], [], [], [], [], [], [4, 5], [4, 5, 6], [], [], [8, 9], [8, 9, 10], [0, 1, 4, 5, 6, 7, 8, 9, 10, 11], [0, 1, 4, 5, 6, 7, 8, 9, 10, 11, 12], [0, 1, 2, 3, 4, 5, 6, 7, 8, 9, 10, 11, 12, 13], [0, 1, 2, 3, 4, 5, 6, 7, 8, 9, 10, 11, 12, 13, 14]]), (21, [0, 1, 2, 3, 4, 5, 6, 7, 8, 9, 10, 11, 12, 13, 14, 15], [[], [], [], [], [], [], [4, 5], [4, 5, 6], [], [], [8, 9], [8, 9, 10], [0, 1, 4, 5, 6, 7, 8, 9, 10, 11], [0, 1, 4, 5, 6, 7, 8, 9, 10, 11, 12], [0, 1, 2, 3, 4, 5, 6, 7, 8, 9, 10, 11, 12, 13], [0, 1, 2, 3, 4, 5, 6, 7, 8, 9, 10, 11, 12, 13, 14]])]
def tab344 : TRow := [(6, [0, 1, 2, 3, 4, 5, 6, 7, 8], [[], [], [0, 1], [0, 1, 2], [], [], [4, 5], [4, 5, 6], [0, 1, 2, 3, 4, 5, 6, 7]])]
def tab359 : TRow := [(6, [0, 1, 2, 3, 4, 5, 6, 7, 8], [[], [], [0, 1], [0, 1, 2], [], [], [4, 5], [4, 5, 6], [0, 1, 2, 3, 4, 5, 6, 7]])]
def tab360 : TRow := [(6, [0, 1, 2, 3, 4, 5, 6, 7, 8], [[], [], [0, 1], [0, 1, 2], [], [], [4, 5], [4, 5, 6], [0, 1, 2, 3, 4, 5, 6, 7]])]
def tab361 : TRow := [(6, [0, 1, 2, 3, 4, 5, 6, 7, 8], [[], [], [0, 1], [0, 1, 2], [], [], [4, 5], [4, 5, 6], [0, 1, 2, 3, 4, 5, 6, 7]])]
def tab363 : TRow := [(5, [0, 1, 2, 3, 4, 5, 6, 7, 8, 9, 10, 11, 12, 13, 14, 15, 16, 17, 18, 19, 20, 21], [[], [0], [0, 1], [0, 1, 2], [0, 1, 2, 3], [0, 1, 2, 3, 4], [0, 1, 2, 3, 4, 5], [0, 1, 2, 3, 4, 5, 6], [0, 1, 2, 3, 4, 5, 6, 7], [0, 1, 2, 3, 4, 5, 6, 7, 8], [0, 1, 2, 3, 4, 5, 6, 7, 8, 9], [0, 1, 2, 3, 4, 5, 6, 7, 8, 9, 10], [0, 1, 2, 3, 4, 5, 6, 7, 8, 9, 10, 11], [0, 1, 2, 3, 4, 5, 6, 7, 8, 9, 10, 11, 12], [0, 1, 2, 3, 4, 5, 6, 7, 8, 9, 10, 11, 12, 13], [0, 1, 2, 3, 4, 5, 6, 7, 8, 9, 10, 11, 12, 13, 14], [0, 1, 2, 3, 4, 5, 6, 7, 8, 9, 10, 11, 12], [0, 1, 2, 3, 4, 5, 6, 7, 8, 9, 10, 11, 12, 16], [0, 1, 2, 3, 4, 5, 6, 7, 8, 9, 10, 11, 12, 16, 17], [0, 1, 2, 3, 4, 5, 6, 7, 8, 9, 10, 11, 12, 16, 17, 18], [0, 1, 2, 3, 4, 5, 6, 7, 8, 9, 10, 11, 12, 13, 14, 15, 16, 17, 18, 19], [0, 1, 2, 3, 4, 5, 6, 7, 8, 9, 10, 11, 12, 13, 14, 15, 16, 17, 18, 19, 20]]), (7, [0, 1, 2, 3, 4, 5, 6, 7, 8, 9], [[], [], [1], [1, 2], [], [4], [4, 5], [1, 2, 3, 4, 5, 6], [0, 1, 2, 3, 4, 5, 6, 7], [0, 1, 2, 3, 4, 5, 6, 7, 8]])]
def tab365 : TRow := [(5, [0, 1, 2, 3, 4, 5, 6, 7, 8, 9, 10], [[], [], [], [1, 2], [1, 2, 3], [], [], [5, 6], [5, 6, 7], [0, 1, 2, 3, 4, 5, 6, 7, 8], [0, 1, 2, 3, 4, 5, 6, 7, 8, 9]]), (11, [0, 1, 2, 3, 4, 5, 6, 7, 8, 9, 10, 11, 12, 13, 14, 15, 16, 17], [[], [], [], [], [3], [], [], [6], [5, 6, 7], [5, 6, 7, 8], [], [], [10, 11], [10, 11, 12], [0, 1, 5, 6, 7, 8, 9, 10, 11, 12, 13], [0, 1, 5, 6, 7, 8, 9, 10, 11, 12, 13, 14], [0, 1, 2, 3, 4, 5, 6, 7, 8, 9, 10, 11, 12, 13, 14, 15], [0, 1, 2, 3, 4, 5, 6, 7, 8, 9, 10, 11, 12, 13, 14, 15, 16]]), (17, [0, 1, 2, 3, 4, 5, 6, 7, 8, 9, 10, 11], [[], [], [], [1, 2], [1, 2, 3], [], [], [5, 6], [5, 6, 7], [0, 1, 2, 3, 4, 5, 6, 7, 8], [0, 1, 2, 3, 4, 5, 6, 7, 8, 9], [0, 1, 2, 3, 4, 5, 6, 7, 8, 9, 10]]), (23, [0, 1, 2, 3, 4, 5, 6, 7, 8, 9, 10, 11, 12, 13, 14, 15, 16, 17], [[], [], [], [], [3], [], [], [6], [5, 6, 7], [5, 6, 7, 8], [], [], [10, 11], [10, 11, 12], [0, 1, 5, 6, 7, 8, 9, 10, 11, 12, 13], [0, 1, 5, 6, 7, 8, 9, 10, 11, 12, 13, 14], [0, 1, 2, 3, 4, 5, 6, 7, 8, 9, 10, 11, 12, 13, 14, 15], [0, 1, 2, 3, 4, 5, 6, 7, 8, 9, 10, 11, 12, 13, 14, 15, 16]]), (35, [0, 1, 2, 3, 4, 5, 6, 7, 8, 9, 10, 11, 12, 13], [[], [], [], [], [2, 3], [1, 2, 3, 4], [1, 2, 3, 4, 5], [], [], [7, 8], [7, 8, 9], [0, 1, 2, 3, 4, 5, 6, 7, 8, 9, 10], [0, 1, 2, 3, 4, 5, 6, 7, 8, 9, 10, 11], [0, 1, 2, 3, 4, 5, 6, 7, 8, 9, 10, 11, 12]])]
def tab370 : TRow := [(17, [0, 1, 2, 3, 4, 5, 6, 7, 8, 9, 10, 11, 12, 13, 14, 15, 16], [[], [0], [0, 1], [0, 1, 2], [0, 1, 2], [0, 1, 2], [0, 1, 2, 5], [0, 1, 2, 4, 5, 6], [0, 1, 2, 4, 5, 6, 7], [0, 1, 2], [0, 1, 2], [0, 1, 2, 9, 10], [0, 1, 2, 9, 10, 11], [0, 1, 2, 3, 4, 5, 6, 7, 8, 9, 10, 11, 12], [0, 1, 2, 3, 4, 5, 6, 7, 8, 9, 10, 11, 12, 13], [0, 1, 2, 3, 4, 5, 6, 7, 8, 9, 10, 11, 12, 13, 14], [0, 1, 2, 3, 4, 5, 6, 7, 8, 9, 10, 11, 12, 13, 14, 15]])]
def tab375 : TRow := [(9, [0, 1, 2, 3, 4, 5, 6, 7, 8, 9, 10, 11, 12, 13, 14, 15, 16, 17, 18, 19], [[], [], [], [], [1], [1, 4], [1, 2, 4, 5], [1, 2, 3, 4, 5, 6], [1, 2, 3, 4, 5, 6, 7], [], [], [], [9], [9, 12], [9, 10, 12, 13], [9, 10, 11, 12, 13, 14], [9, 10, 11, 12, 13, 14, 15], [1, 2, 3, 4, 5, 6, 7, 8, 9, 10, 11, 12, 13, 14, 15, 16], [0, 1, 2, 3, 4, 5, 6, 7, 8, 9, 10, 11, 12, 13, 14, 15, 16, 17], [0, 1, 2, 3, 4, 5, 6, 7, 8, 9, 10, 11, 12, 13, 14, 15, 16, 17, 18]])]
def tab390 : TRow := [(2, [0, 1, 2, 3, 4, 5, 6, 7, 8, 9, 10, 11], [[], [0], [0, 1], [0, 1, 2], [], [4], [0, 1, 2, 3, 4, 5], [0, 1, 2, 3, 4, 5, 6], [], [8], [0, 1, 2, 3, 4, 5, 6, 7, 8, 9], [0, 1, 2, 3, 4, 5, 6, 7, 8, 9, 10]])]
def tab394 : TRow := [(1, [0, 1, 2, 3, 4, 5, 6, 7, 8, 9, 10], [[], [], [], [1, 2], [1, 2, 3], [], [], [5, 6], [5, 6, 7], [0, 1, 2, 3, 4, 5, 6, 7, 8], [0, 1, 2, 3, 4, 5, 6, 7, 8, 9]])]
def tab395 : TRow := [(1, [0, 1, 2, 3, 4, 5, 6, 7, 8, 9, 10], [[], [], [], [1, 2], [1, 2, 3], [], [], [5, 6], [5, 6, 7], [0, 1, 2, 3, 4, 5, 6, 7, 8], [0, 1, 2, 3, 4, 5, 6, 7, 8, 9]])]
def tab396 : TRow := [(3, [0, 1, 2, 3, 4, 5, 6, 7, 8, 9, 10, 11, 12, 13, 14, 15, 16, 17, 18, 19], [[], [0], [], [0, 1, 2], [0, 1, 2, 3], [0, 1, 2, 3, 4], [0, 1, 2, 3, 4], [0, 1, 2, 3, 4], [0, 1, 2, 3, 4, 6, 7], [0, 1, 2, 3, 4, 5, 6, 7, 8], [0, 1, 2, 3, 4, 5, 6, 7, 8, 9], [0, 1, 2, 3, 4], [0, 1, 2, 3, 4], [0, 1, 2, 3, 4], [0, 1, 2, 3, 4, 12, 13], [0, 1, 2, 3, 4, 12, 13, 14], [0, 1, 2, 3, 4, 11, 12, 13, 14, 15], [0, 1, 2, 3, 4, 11, 12, 13, 14, 15, 16], [0, 1, 2, 3, 4, 5, 6, 7, 8, 9, 10, 11, 12, 13, 14, 15, 16, 17], [0, 1, 2, 3, 4, 5, 6, 7, 8, 9, 10, 11, 12, 13, 14, 15, 16, 17, 18]]), (5, [0, 1, 2, 3, 4, 5, 6, 7, 8, 9, 10, 11, 12, 13], [[], [], [], [1, 2], [0, 1, 2, 3], [0, 1, 2, 3, 4], [], [], [], [7, 8], [6, 7, 8, 9], [6, 7, 8, 9, 10], [0, 1, 2, 3, 4, 5, 6, 7, 8, 9, 10, 11], [0, 1, 2, 3, 4, 5, 6, 7, 8, 9, 10, 11, 12]]), (6, [0, 1, 2, 3, 4, 5, 6, 7, 8, 9, 10, 11, 12, 13, 14, 15, 16, 17, 18, 19, 20, 21, 22, 23], [[], [], [], [1, 2], [], [], [], [5, 6], [], [], [], [9, 10], [8, 9, 10, 11], [8, 9, 10, 11, 12], [], [], [], [15, 16], [14, 15, 16, 17], [14, 15, 16, 17, 18], [0, 1, 2, 3, 8, 9, 10, 11, 12, 13, 14, 15, 16, 17, 18, 19], [0, 1, 2, 3, 8, 9, 10, 11, 12, 13, 14, 15, 16, 17, 18, 19, 20], [0, 1, 2, 3, 4, 5, 6, 7, 8, 9, 10, 11, 12, 13, 14, 15, 16, 17, 18, 19, 20, 21], [0, 1, 2, 3, 4, 5, 6, 7, 8, 9, 10, 11, 12, 13, 14, 15, 16, 17, 18, 19, 20, 21, 22]])]
def tab401 : TRow := [(6, [0, 1, 2, 3, 4, 5, 6, 7, 8], [[], [], [0, 1], [0, 1, 2], [], [], [4, 5], [4, 5, 6], [0, 1, 2, 3, 4, 5, 6, 7]])]
def tab404 : TRow := [(6, [0, 1, 2, 3, 4, 5, 6, 7, 8], [[], [], [0, 1], [0, 1, 2], [], [], [4, 5], [4, 5, 6], [0, 1, 2, 3, 4, 5, 6, 7]])]
def tab407 : TRow := [(5, [0, 1, 2, 3, 4, 5, 6, 7, 8, 9, 10], [[], [], [], [1, 2], [1, 2, 3], [], [], [5, 6], [5, 6, 7], [0, 1, 2, 3, 4, 5, 6, 7, 8], [0, 1, 2, 3, 4, 5, 6, 7, 8, 9]]), (11, [0, 1, 2, 3, 4, 5, 6, 7, 8, 9, 10, 11, 12, 13, 14, 15, 16, 17], [[], [], [], [], [3], [], [], [6], [5, 6, 7], [5, 6, 7, 8], [], [], [10, 11], [10, 11, 12], [0, 1, 5, 6, 7, 8, 9, 10, 11, 12, 13], [0, 1, 5, 6, 7, 8, 9, 10, 11, 12, 13, 14], [0, 1, 2, 3, 4, 5, 6, 7, 8, 9, 10, 11, 12, 13, 14, 15], [0, 1, 2, 3, 4, 5, 6, 7, 8, 9, 10, 11, 12, 13, 14, 15, 16]]), (17, [0, 1, 2, 3, 4, 5, 6, 7, 8, 9, 10, 11], [[], [], [], [1, 2], [1, 2, 3], [], [], [5, 6], [5, 6, 7], [0, 1, 2, 3, 4, 5, 6, 7, 8], [0, 1, 2, 3, 4, 5, 6, 7, 8, 9], [0, 1, 2, 3, 4, 5, 6, 7, 8, 9, 10]]), (23, [0, 1, 2, 3, 4, 5, 6, 7, 8, 9, 10, 11, 12, 13, 14, 15, 16, 17], [[], [], [], [], [3], [], [], [6], [5, 6, 7], [5, 6, 7, 8], [], [], [10, 11], [10, 11, 12], [0, 1, 5, 6, 7, 8, 9, 10, 11, 12, 13], [0, 1, 5, 6, 7, 8, 9, 10, 11, 12, 13, 14], [0, 1, 2, 3, 4, 5, 6, 7, 8, 9, 10, 11, 12, 13, 14, 15], [0, 1, 2, 3, 4, 5, 6, 7, 8, 9, 10, 11, 12, 13, 14, 15, 16]]), (35, [0, 1, 2, 3, 4, 5, 6, 7, 8, 9, 10, 11, 12, 13], [[], [], [], [], [2, 3], [1, 2, 3, 4], [1, 2, 3, 4, 5], [], [], [7, 8], [7, 8, 9], [0, 1, 2, 3, 4, 5, 6, 7, 8, 9, 10], [0, 1, 2, 3, 4, 5, 6, 7, 8, 9, 10, 11], [0, 1, 2, 3, 4, 5, 6, 7, 8, 9, 10, 11, 12]])]
def tab408 : TRow := [(4, [0, 1, 2, 3, 4, 5, 6, 7, 8, 9, 10, 11, 12, 13, 14, 15, 16], [[], [], [0, 1], [0, 1, 2], [0, 1, 2, 3], [0, 1, 2, 3], [0, 1, 2, 3], [0, 1, 2, 3, 5, 6], [0, 1, 2, 3, 5, 6, 7], [0, 1, 2, 3], [0, 1, 2, 3], [0, 1, 2, 3, 10], [0, 1, 2, 3, 9, 10, 11], [0, 1, 2, 3, 9, 10, 11, 12], [0, 1, 2, 3, 4, 5, 6, 7, 8, 9, 10, 11, 12, 13], [0, 1, 2, 3, 4, 5, 6, 7, 8, 9, 10, 11, 12, 13, 14], [0, 1, 2, 3, 4, 5, 6, 7, 8, 9, 10, 11, 12, 13, 14, 15]]), (6, [0, 1, 2, 3, 4, 5, 6, 7, 8, 9, 10, 11, 12, 13, 14, 15, 16, 17], [[], [], [], [], [3], [], [], [6], [5, 6, 7], [5, 6, 7, 8], [], [], [10, 11], [10, 11, 12], [0, 1, 5, 6, 7, 8, 9, 10, 11, 12, 13], [0, 1, 5, 6, 7, 8, 9, 10, 11, 12, 13, 14], [0, 1, 2, 3, 4, 5, 6, 7, 8, 9, 10, 11, 12, 13, 14, 15], [0, 1, 2, 3, 4, 5, 6, 7, 8, 9, 10, 11, 12, 13, 14, 15, 16]])]
def tab409 : TRow := [(10, [0, 1, 2, 3, 4, 5, 6, 7, 8, 9, 10, 11, 12, 13, 14, 15, 16, 17, 18, 19], [[], [], [], [], [], [3, 4], [], [], [], [7, 8], [6, 7, 8, 9], [6, 7, 8, 9, 10], [], [], [12, 13], [12, 13, 14], [0, 1, 6, 7, 8, 9, 10, 11, 12, 13, 14, 15], [0, 1, 6, 7, 8, 9, 10, 11, 12, 13, 14, 15, 16], [0, 1, 2, 3, 4, 5, 6, 7, 8, 9, 10, 11, 12, 13, 14, 15, 16, 17], [0, 1, 2, 3, 4, 5, 6, 7, 8, 9, 10, 11, 12, 13, 14, 15, 16, 17, 18]])]
def tab410 : TRow := [(10, [0, 1, 2, 3, 4, 5, 6, 7, 8, 9, 10, 11, 12, 13, 14, 15, 16, 17, 18, 19], [[], [], [], [], [], [3, 4], [], [], [], [7, 8], [6, 7, 8, 9], [6, 7, 8, 9, 10], [], [], [12, 13], [12, 13, 14], [0, 1, 6, 7, 8, 9, 10, 11, 12, 13, 14, 15], [0, 1, 6, 7, 8, 9, 10, 11, 12, 13, 14, 15, 16], [0, 1, 2, 3, 4, 5, 6, 7, 8, 9, 10, 11, 12, 13, 14, 15, 16, 17], [0, 1, 2, 3, 4, 5, 6, 7, 8, 9, 10, 11, 12, 13, 14, 15, 16, 17, 18]])]
def tab412 : TRow := [(3, [0, 1, 2, 3, 4, 5, 6, 7, 8, 9, 10, 11, 12, 13, 14, 15], [[], [], [], [], [], [], [4, 5], [4, 5, 6], [], [], [8, 9], [8, 9, 10], [0, 1, 4, 5, 6, 7, 8, 9, 10, 11], [0, 1, 4, 5, 6, 7, 8, 9, 10, 11, 12], [0, 1, 2, 3, 4, 5, 6, 7, 8, 9, 10, 11, 12, 13], [0, 1, 2, 3, 4, 5, 6, 7, 8, 9, 10, 11, 12, 13, 14]])]
def tab413 : TRow := [(5, [0, 1, 2, 3, 4, 5, 6, 7, 8, 9, 10, 11, 12, 13, 14, 15, 16, 17], [[], [], [0, 1], [0, 1, 2], [0, 1, 2, 3], [0, 1, 2, 3], [0, 1, 2, 3], [0, 1, 2, 3, 5, 6], [0, 1, 2, 3, 5, 6, 7], [0, 1, 2, 3], [0, 1, 2, 3], [0, 1, 2, 3, 10], [0, 1, 2, 3, 9, 10, 11], [0, 1, 2, 3, 9, 10, 11, 12], [0, 1, 2, 3, 4, 5, 6, 7, 8, 9, 10, 11, 12, 13], [0, 1, 2, 3, 4, 5, 6, 7, 8, 9, 10, 11, 12, 13, 14], [0, 1, 2, 3, 4, 5, 6, 7, 8, 9, 10, 11, 12, 13, 14, 15], [0, 1, 2, 3, 4, 5, 6, 7, 8, 9, 10, 11, 12, 13, 14, 15, 16]]), (11, [0, 1, 2, 3, 4, 5, 6, 7, 8, 9, 10, 11, 12, 13, 14, 15, 16, 17], [[], [], [], [], [3], [], [], [6], [5, 6, 7], [5, 6, 7, 8], [], [], [10, 11], [10, 11, 12], [0, 1, 5, 6, 7, 8, 9, 10, 11, 12, 13], [0, 1, 5, 6, 7, 8, 9, 10, 11, 12, 13, 14], [0, 1, 2, 3, 4, 5, 6, 7, 8, 9, 10, 11, 12, 13, 14, 15], [0, 1, 2, 3, 4, 5, 6, 7, 8, 9, 10, 11, 12, 13, 14, 15, 16]]), (16, [0, 1, 2, 3, 4, 5, 6, 7, 8, 9, 10, 11, 12], [[], [], [], [1, 2], [1, 2, 3], [], [], [6], [5, 6, 7], [5, 6, 7, 8], [0, 1, 2, 3, 4, 5, 6, 7, 8, 9], [0, 1, 2, 3, 4, 5, 6, 7, 8, 9, 10], [0, 1, 2, 3, 4, 5, 6, 7, 8, 9, 10, 11]]), (17, [0, 1, 2, 3, 4, 5, 6, 7, 8, 9, 10, 11, 12, 13, 14, 15, 16, 17], [[], [], [], [], [3], [], [], [6], [5, 6, 7], [5, 6, 7, 8], [], [], [10, 11], [10, 11, 12], [0, 1, 5, 6, 7, 8, 9, 10, 11, 12, 13], [0, 1, 5, 6, 7, 8, 9, 10, 11, 12, 13, 14], [0, 1, 2, 3, 4, 5, 6, 7, 8, 9, 10, 11, 12, 13, 14, 15], [0, 1, 2, 3, 4, 5, 6, 7, 8, 9, 10, 11, 12, 13, 14, 15, 16]]), (22, [0, 1, 2, 3, 4, 5, 6, 7, 8, 9, 10, 11, 12], [[], [], [], [1, 2], [1, 2, 3], [], [], [6], [5, 6, 7], [5, 6, 7, 8], [0, 1, 2, 3, 4, 5, 6, 7, 8, 9], [0, 1, 2, 3, 4, 5, 6, 7, 8, 9, 10], [0, 1, 2, 3, 4, 5, 6, 7, 8, 9, 10, 11]]), (23, [0, 1, 2, 3, 4, 5, 6, 7, 8, 9, 10, 11, 12, 13, 14, 15, 16, 17], [[], [], [], [], [3], [], [], [6], [5, 6, 7], [5, 6, 7, 8], [], [], [10, 11], [10, 11, 12], [0, 1, 5, 6, 7, 8, 9, 10, 11, 12, 13], [0, 1, 5, 6, 7, 8, 9, 10, 11, 12, 13, 14], [0, 1, 2, 3, 4, 5, 6, 7, 8, 9, 10, 11, 12, 13, 14, 15], [0, 1, 2, 3, 4, 5, 6, 7, 8, 9, 10, 11, 12, 13, 14, 15, 16]])]
def tab414 : TRow := [(1, [0, 1, 2, 3, 4, 5, 6, 7, 8, 9, 10, 11, 12, 13, 14, 15], [[], [], [], [], [], [], [4, 5], [4, 5, 6], [], [], [8, 9], [8, 9, 10], [0, 1, 4, 5, 6, 7, 8, 9, 10, 11], [0, 1, 4, 5, 6, 7, 8, 9, 10, 11, 12], [0, 1, 2, 3, 4, 5, 6, 7, 8, 9, 10, 11, 12, 13], [0, 1, 2, 3, 4, 5, 6, 7, 8, 9, 10, 11, 12, 13, 14]]), (3, [0, 1, 2, 3, 4, 5, 6, 7, 8, 9, 10, 11, 12, 13, 14, 15, 16], [[], [], [0, 1], [0, 1, 2], [0, 1, 2, 3], [0, 1, 2, 3], [0, 1, 2, 3], [0, 1, 2, 3, 5, 6], [0, 1, 2, 3, 5, 6, 7], [0, 1, 2, 3], [0, 1, 2, 3], [0, 1, 2, 3, 9, 10], [0, 1, 2, 3, 9, 10, 11], [0, 1, 2, 3, 4, 5, 6, 7, 8, 9, 10, 11, 12], [0, 1, 2, 3, 4, 5, 6, 7, 8, 9, 10, 11, 12, 13], [0, 1, 2, 3, 4, 5, 6, 7, 8, 9, 10, 11, 12, 13, 14], [0, 1, 2, 3, 4, 5, 6, 7, 8, 9, 10, 11, 12, 13, 14, 15]]), (5, [0, 1, 2, 3, 4, 5, 6, 7, 8, 9, 10, 11, 12, 13, 14, 15], [[], [], [0, 1], [0, 1, 2], [0, 1, 2, 3], [0, 1, 2, 3], [0, 1, 2, 3], [0, 1, 2, 3, 5, 6], [0, 1, 2, 3, 5, 6, 7], [0, 1, 2, 3], [0, 1, 2, 3], [0, 1, 2, 3, 9, 10], [0, 1, 2, 3, 9, 10, 11], [0, 1, 2, 3, 4, 5, 6, 7, 8, 9, 10, 11, 12], [0, 1, 2, 3, 4, 5, 6, 7, 8, 9, 10, 11, 12, 13], [0, 1, 2, 3, 4, 5, 6, 7, 8, 9, 10, 11, 12, 13, 14]]), (8, [0, 1, 2, 3, 4, 5, 6, 7, 8, 9, 10, 11, 12, 13, 14, 15], [[], [], [], [], [], [], [4, 5], [4, 5, 6], [], [], [8, 9], [8, 9, 10], [0, 1, 4, 5, 6, 7, 8, 9, 10, 11], [0, 1, 4, 5, 6, 7, 8, 9, 10, 11, 12], [0, 1, 2, 3, 4, 5, 6, 7, 8, 9, 10, 11, 12, 13], [0, 1, 2, 3, 4, 5, 6, 7, 8, 9, 10, 11, 12, 13, 14]])]
def tab415 : TRow := [(1, [0, 1, 2, 3, 4, 5, 6, 7, 8, 9, 10, 11, 12, 13, 14, 15], [[], [], [], [], [], [], [4, 5], [4, 5, 6], [], [], [8, 9], [8, 9, 10], [0, 1, 4, 5, 6, 7, 8, 9, 10, 11], [0, 1, 4, 5, 6, 7, 8, 9, 10, 11, 12], [0, 1, 2, 3, 4, 5, 6, 7, 8, 9, 10, 11, 12, 13], [0, 1, 2, 3, 4, 5, 6, 7, 8, 9, 10, 11, 12, 13, 14]]), (3, [0, 1, 2, 3, 4, 5, 6, 7, 8, 9, 10, 11, 12, 13, 14, 15], [[], [], [0, 1], [0, 1, 2], [0, 1, 2, 3], [0, 1, 2, 3], [0, 1, 2, 3], [0, 1, 2, 3, 5, 6], [0, 1, 2, 3, 5, 6, 7], [0, 1, 2, 3], [0, 1, 2, 3], [0, 1, 2, 3, 9, 10], [0, 1, 2, 3, 9, 10, 11], [0, 1, 2, 3, 4, 5, 6, 7, 8, 9, 10, 11, 12], [0, 1, 2, 3, 4, 5, 6, 7, 8, 9, 10, 11, 12, 13], [0, 1, 2, 3, 4, 5, 6, 7, 8, 9, 10, 11, 12, 13, 14]]), (5, [0, 1, 2, 3, 4, 5, 6, 7, 8, 9, 10, 11, 12, 13, 14, 15, 16], [[], [], [0, 1], [0, 1, 2], [0, 1, 2, 3], [0, 1, 2, 3], [0, 1, 2, 3], [0, 1, 2, 3, 5, 6], [0, 1, 2, 3, 5, 6, 7], [0, 1, 2, 3], [0, 1, 2, 3], [0, 1, 2, 3, 9, 10], [0, 1, 2, 3, 9, 10, 11], [0, 1, 2, 3, 4, 5, 6, 7, 8, 9, 10, 11, 12], [0, 1, 2, 3, 4, 5, 6, 7, 8, 9, 10, 11, 12, 13], [0, 1, 2, 3, 4, 5, 6, 7, 8, 9, 10, 11, 12, 13, 14], [0, 1, 2, 3, 4, 5, 6, 7, 8, 9, 10, 11, 12, 13, 14, 15]]), (8, [0, 1, 2, 3, 4, 5, 6, 7, 8, 9, 10, 11, 12, 13, 14, 15], [[], [], [], [], [], [], [4, 5], [4, 5, 6], [], [], [8, 9], [8, 9, 10], [0, 1, 4, 5, 6, 7, 8, 9, 10, 11], [0, 1, 4, 5, 6, 7, 8, 9, 10, 11, 12], [0, 1, 2, 3, 4, 5, 6, 7, 8, 9, 10, 11, 12, 13], [0, 1, 2, 3, 4, 5, 6, 7, 8, 9, 10, 11, 12, 13, 14]]), (10, [0, 1, 2, 3, 4, 5, 6, 7, 8, 9, 10, 11, 12, 13, 14, 15], [[], [], [], [], [], [], [4, 5], [4, 5, 6], [], [], [8, 9], [8, 9, 10], [0, 1, 4, 5, 6, 7, 8, 9, 10, 11], [0, 1, 4, 5, 6, 7, 8, 9, 10, 11, 12], [0, 1, 2, 3, 4, 5, 6, 7, 8, 9, 10, 11, 12, 13], [0, 1, 2, 3, 4, 5, 6, 7, 8, 9, 10, 11, 12, 13, 14]]), (13, [0, 1, 2, 3, 4, 5, 6, 7, 8, 9, 10, 11, 12, 13, 14, 15], [[], [], [0, 1], [0, 1, 2], [0, 1, 2, 3], [0, 1, 2, 3], [0, 1, 2, 3], [0, 1, 2, 3, 5, 6], [0, 1, 2, 3, 5, 6, 7], [0, 1, 2, 3], [0, 1, 2, 3], [0, 1, 2, 3, 9, 10], [0, 1, 2, 3, 9, 10, 11], [0, 1, 2, 3, 4, 5, 6, 7, 8, 9, 10, 11, 12], [0, 1, 2, 3, 4, 5, 6, 7, 8, 9, 10, 11, 12, 13], [0, 1, 2, 3, 4, 5, 6, 7, 8, 9, 10, 11, 12, 13, 14]]), (15, [0, 1, 2, 3, 4, 5, 6, 7, 8, 9, 10, 11, 12, 13, 14, 15, 16], [[], [], [0, 1], [0, 1, 2], [0, 1, 2, 3], [0, 1, 2, 3], [0, 1, 2, 3], [0, 1, 2, 3, 5, 6], [0, 1, 2, 3, 5, 6, 7], [0, 1, 2, 3], [0, 1, 2, 3], [0, 1, 2, 3, 9, 10], [0, 1, 2, 3, 9, 10, 11], [0, 1, 2, 3, 4, 5, 6, 7, 8, 9, 10, 11, 12], [0, 1, 2, 3, 4, 5, 6, 7, 8, 9, 10, 11, 12, 13], [0, 1, 2, 3, 4, 5, 6, 7, 8, 9, 10, 11, 12, 13, 14], [0, 1, 2, 3, 4, 5, 6, 7, 8, 9, 10, 11, 12, 13, 14, 15]]), (18, [0, 1, 2, 3, 4, 5, 6, 7, 8, 9, 10, 11, 12, 13, 14, 15], [[], [], [], [], [], [], [4, 5], [4, 5, 6], [], [], [8, 9], [8, 9, 10], [0, 1, 4, 5, 6, 7, 8, 9, 10, 11], [0, 1, 4, 5, 6, 7, 8, 9, 10, 11, 12], [0, 1, 2, 3, 4, 5, 6, 7, 8, 9, 10, 11, 12, 13], [0, 1, 2, 3, 4, 5, 6, 7, 8, 9, 10, 11, 12, 13, 14]]), (21, [0, 1, 2, 3, 4, 5, 6, 7, 8, 9, 10, 11, 12, 13, 14, 15], [[], [], [], [], [], [], [4, 5], [4, 5, 6], [], [], [8, 9], [8, 9, 10], [0, 1, 4, 5, 6, 7, 8, 9, 10, 11], [0, 1, 4, 5, 6, 7, 8, 9, 10, 11, 12], [0, 1, 2, 3, 4, 5, 6, 7, 8, 9, 10, 11, 12, 13], [0, 1, 2, 3, 4, 5, 6, 7, 8, 9, 10, 11, 12, 13, 14]])]
def tab427 : TRow := [(0, [0, 1, 2, 3, 4, 5], [[], [0], [0, 1], [], [3], [0, 1, 2, 3, 4]])]
def tab428 : TRow := [(1, [0, 1, 2, 3, 4, 5, 6, 7, 8], [[], [], [0, 1], [0, 1, 2], [], [], [4, 5], [4, 5, 6], [0, 1, 2, 3, 4, 5, 6, 7]])]
def tab429 : TRow := [(3, [0, 1, 2, 3, 4, 5, 6, 7, 8, 9, 10, 11, 12, 13, 14, 15, 16, 17, 18, 19, 20, 21, 22, 23], [[], [], [], [1, 2], [], [], [], [5, 6], [], [], [], [9, 10], [8, 9, 10, 11], [8, 9, 10, 11, 12], [], [], [], [15, 16], [14, 15, 16, 17], [14, 15, 16, 17, 18], [0, 1, 2, 3, 8, 9, 10, 11, 12, 13, 14, 15, 16, 17, 18, 19], [0, 1, 2, 3, 8, 9, 10, 11, 12, 13, 14, 15, 16, 17, 18, 19, 20], [0, 1, 2, 3, 4, 5, 6, 7, 8, 9, 10, 11, 12, 13, 14, 15, 16, 17, 18, 19, 20, 21], [0, 1, 2, 3, 4, 5, 6, 7, 8, 9, 10, 11, 12, 13, 14, 15, 16, 17, 18, 19, 20, 21, 22]])]
def tab431 : TRow := [(3, [0, 1, 2, 3, 4, 5, 6, 7, 8, 9, 10, 11, 12, 13, 14, 15, 16, 17, 18, 19, 20, 21], [[], [0], [], [0, 1, 2], [0, 1, 2, 3], [0, 1, 2, 3, 4], [0, 1, 2, 3, 4], [0, 1, 2, 3, 4], [0, 1, 2, 3, 4], [0, 1, 2, 3, 4, 7, 8], [0, 1, 2, 3, 4, 6, 7, 8, 9], [0, 1, 2, 3, 4, 6, 7, 8, 9, 10], [0, 1, 2, 3, 4], [0, 1, 2, 3, 4], [0, 1, 2, 3, 4], [0, 1, 2, 3, 4, 13, 14], [0, 1, 2, 3, 4, 13, 14, 15], [0, 1, 2, 3, 4, 12, 13, 14, 15, 16], [0, 1, 2, 3, 4, 12, 13, 14, 15, 16, 17], [0, 1, 2, 3, 4, 5, 6, 7, 8, 9, 10, 11, 12, 13, 14, 15, 16, 17, 18], [0, 1, 2, 3, 4, 5, 6, 7, 8, 9, 10, 11, 12, 13, 14, 15, 16, 17, 18, 19], [0, 1, 2, 3, 4, 5, 6, 7, 8, 9, 10, 11, 12, 13, 14, 15, 16, 17, 18, 19, 20]]), (5, [0, 1, 2, 3, 4, 5, 6, 7, 8, 9, 10, 11, 12, 13, 14, 15], [[], [], [], [], [2, 3], [1, 2, 3, 4], [1, 2, 3, 4, 5], [], [], [], [8, 9], [7, 8, 9, 10], [7, 8, 9, 10, 11], [0, 1, 2, 3, 4, 5, 6, 7, 8, 9, 10, 11, 12], [0, 1, 2, 3, 4, 5, 6, 7, 8, 9, 10, 11, 12, 13], [0, 1, 2, 3, 4, 5, 6, 7, 8, 9, 10, 11, 12, 13, 14]]), (6, [0, 1, 2, 3, 4, 5, 6, 7, 8, 9, 10, 11, 12, 13, 14, 15, 16, 17, 18, 19, 20, 21, 22, 23], [[], [], [], [1, 2], [], [], [], [5, 6], [], [], [], [9, 10], [8, 9, 10, 11], [8, 9, 10, 11, 12], [], [], [], [15, 16], [14, 15, 16, 17], [14, 15, 16, 17, 18], [0, 1, 2, 3, 8, 9, 10, 11, 12, 13, 14, 15, 16, 17, 18, 19], [0, 1, 2, 3, 8, 9, 10, 11, 12, 13, 14, 15, 16, 17, 18, 19, 20], [0, 1, 2, 3, 4, 5, 6, 7, 8, 9, 10, 11, 12, 13, 14, 15, 16, 17, 18, 19, 20, 21], [0, 1, 2, 3, 4, 5, 6, 7, 8, 9, 10, 11, 12, 13, 14, 15, 16, 17, 18, 19, 20, 21, 22]])]
def tab434 : TRow := [(3, [0, 1, 2, 3, 4, 5, 6, 7, 8, 9, 10, 11, 12, 13, 14, 15], [[], [], [], [], [], [], [4, 5], [4, 5, 6], [], [], [8, 9], [8, 9, 10], [0, 1, 4, 5, 6, 7, 8, 9, 10, 11], [0, 1, 4, 5, 6, 7, 8, 9, 10, 11, 12], [0, 1, 2, 3, 4, 5, 6, 7, 8, 9, 10, 11, 12, 13], [0, 1, 2, 3, 4, 5, 6, 7, 8, 9, 10, 11, 12, 13, 14]])]
def tab442 : TRow := [(3, [0, 1, 2, 3, 4, 5, 6, 7, 8, 9, 10, 11, 12, 13, 14, 15, 16, 17, 18, 19, 20, 21, 22, 23], [[], [], [], [1, 2], [], [], [], [5, 6], [], [], [], [9, 10], [8, 9, 10, 11], [8, 9, 10, 11, 12], [], [], [], [15, 16], [14, 15, 16, 17], [14, 15, 16, 17, 18], [0, 1, 2, 3, 8, 9, 10, 11, 12, 13, 14, 15, 16, 17, 18, 19], [0, 1, 2, 3, 8, 9, 10, 11, 12, 13, 14, 15, 16, 17, 18, 19, 20], [0, 1, 2, 3, 4, 5, 6, 7, 8, 9, 10, 11, 12, 13, 14, 15, 16, 17, 18, 19, 20, 21], [0, 1, 2, 3, 4, 5, 6, 7, 8, 9, 10, 11, 12, 13, 14, 15, 16, 17, 18, 19, 20, 21, 22]])]
def tab443 : TRow := [(1, [0, 1, 2, 3, 4, 5, 6, 7, 8, 9, 10], [[], [], [], [1, 2], [1, 2, 3], [], [], [5, 6], [5, 6, 7], [0, 1, 2, 3, 4, 5, 6, 7, 8], [0, 1, 2, 3, 4, 5, 6, 7, 8, 9]])]

def tabRow (f : Nat) : TRow := if f < 225 then (if f < 115 then (if f < 54 then (if f < 19 then (if f < 11 then (if f < 9 then (if f < 7 then (if f = 3 then tab3 else []) else (if f = 7 then tab7 else [])) else (if f < 10 then (if f = 9 then tab9 else []) else (if f = 10 then tab10 else []))) else (if f < 15 then (if f < 14 then (if f = 11 then tab11 else []) else (if f = 14 then tab14 else [])) else (if f < 18 then (if f = 15 then tab15 else []) else (if f = 18 then tab18 else [])))) else (if f < 34 then (if f < 23 then (if f < 21 then (if f = 19 then tab19 else []) else (if f = 21 then tab21 else [])) else (if f < 24 then (if f = 23 then tab23 else []) else (if f = 24 then tab24 else []))) else (if f < 51 then (if f < 48 then (if f = 34 then tab34 else []) else (if f = 48 then tab48 else [])) else (if f < 52 then (if f = 51 then tab51 else []) else (if f < 53 then (if f = 52 then tab52 else []) else (if f = 53 then tab53 else [])))))) else (if f < 85 then (if f < 63 then (if f < 56 then (if f < 55 then (if f = 54 then tab54 else []) else (if f = 55 then tab55 else [])) else (if f < 61 then (if f = 56 then tab56 else []) else (if f = 61 then tab61 else []))) else (if f < 76 then (if f < 75 then (if f = 63 then tab63 else []) else (if f = 75 then tab75 else [])) else (if f < 84 then (if f = 76 then tab76 else []) else (if f = 84 then tab84 else [])))) else (if f < 103 then (if f < 90 then (if f < 89 then (if f = 85 then tab85 else []) else (if f = 89 then tab89 else [])) else (if f < 102 then (if f = 90 then tab90 else []) else (if f = 102 then tab102 else []))) else (if f < 108 then (if f < 104 then (if f = 103 then tab103 else []) else (if f = 104 then tab104 else [])) else (if f < 109 then (if f = 108 then tab108 else []) else (if f < 112 then (if f = 109 then tab109 else []) else (if f = 112 then tab112 else []))))))) else (if f < 167 then (if f < 138 then (if f < 122 then (if f < 118 then (if f < 116 then (if f = 115 then tab115 else []) else (if f = 116 then tab116 else [])) else (if f < 120 then (if f = 118 then tab118 else []) else (if f = 120 then tab120 else []))) else (if f < 132 then (if f < 126 then (if f = 122 then tab122 else []) else (if f = 126 then tab126 else [])) else (if f < 135 then (if f = 132 then tab132 else []) else (if f = 135 then tab135 else [])))) else (if f < 154 then (if f < 145 then (if f < 144 then (if f = 138 then tab138 else []) else (if f = 144 then tab144 else [])) else (if f < 152 then (if f = 145 then tab145 else []) else (if f = 152 then tab152 else []))) else (if f < 160 then (if f < 155 then (if f = 154 then tab154 else []) else (if f = 155 then tab155 else [])) else (if f < 164 then (if f = 160 then tab160 else []) else (if f < 166 then (if f = 164 then tab164 else []) else (if f = 166 then tab166 else [])))))) else (if f < 202 then (if f < 183 then (if f < 177 then (if f < 176 then (if f = 167 then tab167 else []) else (if f = 176 then tab176 else [])) else (if f < 182 then (if f = 177 then tab177 else []) else (if f = 182 then tab182 else []))) else (if f < 186 then (if f < 184 then (if f = 183 then tab183 else []) else (if f = 184 then tab184 else [])) else (if f < 196 then (if f = 186 then tab186 else []) else (if f = 196 then tab196 else [])))) else (if f < 213 then (if f < 208 then (if f < 203 then (if f = 202 then tab202 else []) else (if f = 203 then tab203 else [])) else (if f < 210 then (if f = 208 then tab208 else []) else (if f = 210 then tab210 else []))) else (if f < 218 then (if f < 217 then (if f = 213 then tab213 else []) else (if f = 217 then tab217 else [])) else (if f < 221 then (if f = 218 then tab218 else []) else (if f < 223 then (if f = 221 then tab221 else []) else (if f = 223 then tab223 else [])))))))) else (if f < 336 then (if f < 252 then (if f < 238 then (if f < 233 then (if f < 231 then (if f < 230 then (if f = 225 then tab225 else []) else (if f = 230 then tab230 else [])) else (if f < 232 then (if f = 231 then tab231 else []) else (if f = 232 then tab232 else []))) else (if f < 236 then (if f < 235 then (if f = 233 then tab233 else []) else (if f = 235 then tab235 else [])) else (if f < 237 then (if f = 236 then tab236 else []) else (if f = 237 then tab237 else [])))) else (if f < 246 then (if f < 243 then (if f < 242 then (if f = 238 then tab238 else []) else (if f = 242 then tab242 else [])) else (if f < 244 then (if f = 243 then tab243 else []) else (if f = 244 then tab244 else []))) else (if f < 248 then (if f < 247 then (if f = 246 then tab246 else []) else (if f = 247 then tab247 else [])) else (if f < 249 then (if f = 248 then tab248 else []) else (if f < 251 then (if f = 249 then tab249 else []) else (if f = 251 then tab251 else [])))))) else (if f < 302 then (if f < 278 then (if f < 266 then (if f < 262 then (if f = 252 then tab252 else []) else (if f = 262 then tab262 else [])) else (if f < 277 then (if f = 266 then tab266 else []) else (if f = 277 then tab277 else []))) else (if f < 291 then (if f < 280 then (if f = 278 then tab278 else []) else (if f = 280 then tab280 else [])) else (if f < 292 then (if f = 291 then tab291 else []) else (if f = 292 then tab292 else [])))) else (if f < 326 then (if f < 321 then (if f < 303 then (if f = 302 then tab302 else []) else (if f = 303 then tab303 else [])) else (if f < 322 then (if f = 321 then tab321 else []) else (if f = 322 then tab322 else []))) else (if f < 329 then (if f < 327 then (if f = 326 then tab326 else []) else (if f = 327 then tab327 else [])) else (if f < 332 then (if f = 329 then tab329 else []) else (if f < 335 then (if f = 332 then tab332 else []) else (if f = 335 then tab335 else []))))))) else (if f < 396 then (if f < 360 then (if f < 342 then (if f < 339 then (if f < 337 then (if f = 336 then tab336 else []) else (if f = 337 then tab337 else [])) else (if f < 340 then (if f = 339 then tab339 else []) else (if f = 340 then tab340 else []))) else (if f < 344 then (if f < 343 then (if f = 342 then tab342 else []) else (if f = 343 then tab343 else [])) else (if f < 359 then (if f = 344 then tab344 else []) else (if f = 359 then tab359 else [])))) else (if f < 370 then (if f < 363 then (if f < 361 then (if f = 360 then tab360 else []) else (if f = 361 then tab361 else [])) else (if f < 365 then (if f = 363 then tab363 else []) else (if f = 365 then tab365 else []))) else (if f < 390 then (if f < 375 then (if f = 370 then tab370 else []) else (if f = 375 then tab375 else [])) else (if f < 394 then (if f = 390 then tab390 else []) else (if f < 395 then (if f = 394 then tab394 else []) else (if f = 395 then tab395 else [])))))) else (if f < 414 then (if f < 408 then (if f < 404 then (if f < 401 then (if f = 396 then tab396 else []) else (if f = 401 then tab401 else [])) else (if f < 407 then (if f = 404 then tab404 else []) else (if f = 407 then tab407 else []))) else (if f < 410 then (if f < 409 then (if f = 408 then tab408 else []) else (if f = 409 then tab409 else [])) else (if f < 412 then (if f = 410 then tab410 else []) else (if f < 413 then (if f = 412 then tab412 else []) else (if f = 413 then tab413 else []))))) else (if f < 429 then (if f < 427 then (if f < 415 then (if f = 414 then tab414 else []) else (if f = 415 then tab415 else [])) else (if f < 428 then (if f = 427 then tab427 else []) else (if f = 428 then tab428 else []))) else (if f < 434 then (if f < 431 then (if f = 429 then tab429 else []) else (if f = 431 then tab431 else [])) else (if f < 442 then (if f = 434 then tab434 else []) else (if f < 443 then (if f = 442 then tab442 else []) else (if f = 443 then tab443 else []))))))))

def tabFind (id : Nat) : TRow → List Nat × List (List Nat)
  | [] => ([], [])
  | (i, r) :: t => if i = id then r else tabFind id t

def T6 : Tab := fun f id => tabFind id (tabRow f)

end Go.Proofs.YtfchjhfccnodpaaGreat
end

section
namespace Go.Proofs.YtfchjhfccnodpaaGreat
set_option linter.unusedSimpArgs false
set_option linter.unusedVariables false

def X6 (f : FuncId) : Option XKind :=
  if f < 400 then (if f = 139 then some (.add .i64) else if f = 241 then some (.cmp) else none)
  else if f = 424 then some (.load .u32) else if f = 440 then some (.store .u32) else if f = 449 then some (.nop) else if f = 450 then some (.cas .i32) else if f = 451 then some (.nop) else if f = 452 then some (.mark) else if f = 454 then some (.mark) else if f = 455 then some (.add .i32) else none

def B6 (f : FuncId) : Bool := decide (f < 457) && decide (2 < f) && !(decide (f = 371)) && (X6 f).isNone

noncomputable def E6 : Env := { P := Go.Proofs.Tryz.prog, X := X6, B := B6 }

def entersB (P : Program) (f : FuncId) : Bool :=
  match P.funcs[f]? with
  | some fn => fn.body.isSome && !(fn.name == "runtime.NumGoroutine")
  | none => false

theorem entersB_sound {P : Program} {f : FuncId} (h : entersB P f = true) (args : Array Value) (w : World) : (callFunc f args).run P w = .ok (.enter f args) w := by
  unfold entersB at h
  split at h
  case h_2 => cases h
  rename_i fn hf
  simp only [Bool.and_eq_true, Bool.not_eq_true'] at h
  obtain ⟨hb, hn⟩ := h
  obtain ⟨c, hc⟩ := Option.isSome_iff_exists.1 hb
  have h1 : fn.name ≠ "runtime.NumGoroutine" := by simpa using hn
  simp [callFunc, hf, h1, hc]

theorem enters6 : ((List.range 457).all fun f => !(B6 f) || entersB Go.Proofs.Tryz.prog f) = true := by kernel_rfl

theorem ext_of {P : Program} {f : FuncId} {fn : Func} {k : XKind} {e : Array Value → Sem Value} (hf : P.funcs[f]? = some fn) (hname : (fn.name == "runtime.NumGoroutine") = false) (hb : fn.body.isNone = true)
    (hn : Extern.findNext fn = none) (he : Extern.find fn = some e) (hr : ∀ args w, (e args).run P w = (extSem k args).run P w) (args : Array Value) (w : World) :
    (callFunc f args).run P w = (do pure (Next.value (← extSem k args)) : Sem Next).run P w := by
  rw [run_callFunc_extern hf hname hb hn he args w, hr]
  simp [Sem.run_bind]

theorem mark_run (P : Program) (m : Addr → Mark) (args : Array Value) (w : World) : (Extern.Race.marked m args).run P w = (extSem .mark args).run P w := by
  simp only [extSem, Extern.Race.marked, Sem.run_bind]
  cases (Extern.Race.at_ args).run P w with
  | ok a w' => rfl
  | halt h w' => rfl

theorem x139 (args : Array Value) (w : World) : (callFunc 139 args).run Go.Proofs.Tryz.prog w = (do pure (Next.value (← extSem (.add .i64) args)) : Sem Next).run Go.Proofs.Tryz.prog w :=
  ext_of Go.Proofs.Tryz.func139 (by kernel_rfl) (by kernel_rfl) (by kernel_rfl) (by kernel_rfl : Extern.find Go.Proofs.Tryz.f139 = some (Extern.Atomic.update (Op.intArith .add) .i64 true)) (fun _ _ => rfl) args w

theorem x241 (args : Array Value) (w : World) : (callFunc 241 args).run Go.Proofs.Tryz.prog w = (do pure (Next.value (← extSem (.cmp) args)) : Sem Next).run Go.Proofs.Tryz.prog w :=
  ext_of Go.Proofs.Tryz.func241 (by kernel_rfl) (by kernel_rfl) (by kernel_rfl) (by kernel_rfl : Extern.find Go.Proofs.Tryz.f241 = some (Extern.BytealgCompare.compare)) (fun _ _ => rfl) args w

theorem x424 (args : Array Value) (w : World) : (callFunc 424 args).run Go.Proofs.Tryz.prog w = (do pure (Next.value (← extSem (.load .u32) args)) : Sem Next).run Go.Proofs.Tryz.prog w :=
  ext_of Go.Proofs.Tryz.func424 (by kernel_rfl) (by kernel_rfl) (by kernel_rfl) (by kernel_rfl : Extern.find Go.Proofs.Tryz.f424 = some (Extern.Atomic.loadT (.int .u32))) (fun _ _ => rfl) args w

theorem x440 (args : Array Value) (w : World) : (callFunc 440 args).run Go.Proofs.Tryz.prog w = (do pure (Next.value (← extSem (.store .u32) args)) : Sem Next).run Go.Proofs.Tryz.prog w :=
  ext_of Go.Proofs.Tryz.func440 (by kernel_rfl) (by kernel_rfl) (by kernel_rfl) (by kernel_rfl : Extern.find Go.Proofs.Tryz.f440 = some (Extern.Atomic.storeT)) (fun _ _ => rfl) args w

theorem x449 (args : Array Value) (w : World) : (callFunc 449 args).run Go.Proofs.Tryz.prog w = (do pure (Next.value (← extSem (.nop) args)) : Sem Next).run Go.Proofs.Tryz.prog w :=
  ext_of Go.Proofs.Tryz.func449 (by kernel_rfl) (by kernel_rfl) (by kernel_rfl) (by kernel_rfl : Extern.find Go.Proofs.Tryz.f449 = some (fun _ => do mark .disable; pure Extern.Race.none_)) (fun _ _ => rfl) args w

theorem x450 (args : Array Value) (w : World) : (callFunc 450 args).run Go.Proofs.Tryz.prog w = (do pure (Next.value (← extSem (.cas .i32) args)) : Sem Next).run Go.Proofs.Tryz.prog w :=
  ext_of Go.Proofs.Tryz.func450 (by kernel_rfl) (by kernel_rfl) (by kernel_rfl) (by kernel_rfl : Extern.find Go.Proofs.Tryz.f450 = some (Extern.Atomic.casT (.int .i32))) (fun _ _ => rfl) args w

theorem x451 (args : Array Value) (w : World) : (callFunc 451 args).run Go.Proofs.Tryz.prog w = (do pure (Next.value (← extSem (.nop) args)) : Sem Next).run Go.Proofs.Tryz.prog w :=
  ext_of Go.Proofs.Tryz.func451 (by kernel_rfl) (by kernel_rfl) (by kernel_rfl) (by kernel_rfl : Extern.find Go.Proofs.Tryz.f451 = some (fun _ => do mark .enable; pure Extern.Race.none_)) (fun _ _ => rfl) args w

theorem x452 (args : Array Value) (w : World) : (callFunc 452 args).run Go.Proofs.Tryz.prog w = (do pure (Next.value (← extSem (.mark) args)) : Sem Next).run Go.Proofs.Tryz.prog w :=
  ext_of Go.Proofs.Tryz.func452 (by kernel_rfl) (by kernel_rfl) (by kernel_rfl) (by kernel_rfl : Extern.find Go.Proofs.Tryz.f452 = some (Extern.Race.marked .acquire)) (mark_run _ _) args w

theorem x454 (args : Array Value) (w : World) : (callFunc 454 args).run Go.Proofs.Tryz.prog w = (do pure (Next.value (← extSem (.mark) args)) : Sem Next).run Go.Proofs.Tryz.prog w :=
  ext_of Go.Proofs.Tryz.func454 (by kernel_rfl) (by kernel_rfl) (by kernel_rfl) (by kernel_rfl : Extern.find Go.Proofs.Tryz.f454 = some (Extern.Race.marked .releaseMerge)) (mark_run _ _) args w

theorem x455 (args : Array Value) (w : World) : (callFunc 455 args).run Go.Proofs.Tryz.prog w = (do pure (Next.value (← extSem (.add .i32) args)) : Sem Next).run Go.Proofs.Tryz.prog w :=
  ext_of Go.Proofs.Tryz.func455 (by kernel_rfl) (by kernel_rfl) (by kernel_rfl) (by kernel_rfl : Extern.find Go.Proofs.Tryz.f455 = some (Extern.Atomic.update (Op.intArith .add) .i32 true)) (fun _ _ => rfl) args w

theorem X6_cases {f : FuncId} {k : XKind} (h : X6 f = some k) : (f = 139 ∧ k = .add .i64) ∨ (f = 241 ∧ k = .cmp) ∨ (f = 424 ∧ k = .load .u32) ∨ (f = 440 ∧ k = .store .u32) ∨ (f = 449 ∧ k = .nop) ∨ (f = 450 ∧ k = .cas .i32) ∨ (f = 451 ∧ k = .nop) ∨ (f = 452 ∧ k = .mark) ∨ (f = 454 ∧ k = .mark) ∨ (f = 455 ∧ k = .add .i32) := by
  unfold X6 at h
  repeat' split at h
  all_goals first
    | (cases h; done)
    | (cases h; simp_all; done)

theorem envOk6 : EnvOk E6 where
  c := ⟨Go.Proofs.Tryz.underlying9, Go.Proofs.Tryz.underlying43, Go.Proofs.Tryz.underlying5⟩
  x := by
    intro f k h args w
    have h' : X6 f = some k := h
    rcases X6_cases h' with ⟨rfl, rfl⟩ | ⟨rfl, rfl⟩ | ⟨rfl, rfl⟩ | ⟨rfl, rfl⟩ | ⟨rfl, rfl⟩ | ⟨rfl, rfl⟩ | ⟨rfl, rfl⟩ | ⟨rfl, rfl⟩ | ⟨rfl, rfl⟩ | ⟨rfl, rfl⟩
    · exact x139 args w
    · exact x241 args w
    · exact x424 args w
    · exact x440 args w
    · exact x449 args w
    · exact x450 args w
    · exact x451 args w
    · exact x452 args w
    · exact x454 args w
    · exact x455 args w
  b := by
    intro f h args w
    have h' : B6 f = true := h
    have hlt : f < 457 := by
      simp only [B6, Bool.and_eq_true, decide_eq_true_eq] at h'
      exact h'.1.1.1
    have := enters6
    simp only [List.all_eq_true] at this
    have := this f (List.mem_range.2 hlt)
    rw [h'] at this
    have h2 : entersB Go.Proofs.Tryz.prog f = true := by simpa using this
    exact entersB_sound h2 args w

theorem all6 : AllOk E6 T6 := allOk (by kernel_rfl)

theorem mixed6 : E6.P.follows .mixedOrders = true := by kernel_rfl

end Go.Proofs.YtfchjhfccnodpaaGreat
end

section
namespace Go.Proofs.YtfchjhfccnodpaaGreat
set_option linter.unusedSimpArgs false
set_option linter.unusedVariables false

def fset (f : Nat → Value) (d : Nat) (v : Value) : Nat → Value := fun t => if t = d then v else f t
theorem fset_apply (f : Nat → Value) (d : Nat) (v : Value) (t : Nat) : fset f d v t = if t = d then v else f t := rfl

def mkT (n : Nat) (f : Nat → Value) : Array Value := Array.ofFn (n := n) fun i => f i.val
def AA (n : Nat) (f : Nat → Value) (ds : List Deferred) : Act := { tmps := mkT n f, defers := ds }

theorem mkT_get (n : Nat) (f : Nat → Value) (t : Nat) : (mkT n f)[t]? = if t < n then some (f t) else none := by
  unfold mkT
  rw [Array.getElem?_ofFn]
  by_cases h : t < n <;> simp [h]

theorem mkT_getD {n : Nat} {f : Nat → Value} {t : Nat} (h : t < n) : (mkT n f).getD t undef = f t := by
  rw [Array.getD_eq_getD_getElem?, mkT_get, if_pos h]; rfl

theorem mkT_set (n : Nat) (f : Nat → Value) (d : Nat) (v : Value) : (mkT n f).setIfInBounds d v = mkT n (fset f d v) := by
  apply Array.ext_getElem?
  intro i
  rw [Array.getElem?_setIfInBounds, mkT_get, mkT_get]
  have hs : (mkT n f).size = n := by simp [mkT]
  rw [hs]
  by_cases h : d = i
  · subst h
    by_cases h2 : d < n <;> simp [h2, fset]
  · have h' : ¬ (i = d) := fun e => h e.symm
    rw [if_neg h]
    by_cases h2 : i < n <;> simp [h2, fset, h']

theorem AA_put (n : Nat) (f : Nat → Value) (ds : List Deferred) (d : Nat) (v : Value) : (AA n f ds).put (some d) v = AA n (fset f d v) ds := by
  simp only [AA, Act.put, mkT_set]
theorem AA_put_none (n : Nat) (f : Nat → Value) (ds : List Deferred) (v : Value) : (AA n f ds).put none v = AA n f ds := rfl

theorem aeval_tmp {n : Nat} {f : Nat → Value} {ds : List Deferred} {t : Nat} (h : t < n) : aeval (AA n f ds) (.tmp t) = some (f t) := by
  simp only [aeval, AA, mkT_getD h]
theorem aeval_bool (a : Act) (b : Bool) : aeval a (.const (.bool b)) = some (.bool b) := rfl
theorem aeval_int (a : Act) (k : IntKind) (i : Int) : aeval a (.const (.int k i)) = some (.int k i) := rfl
theorem aeval_string (a : Act) (s : ByteArray) : aeval a (.const (.string s)) = some (.string s) := rfl
theorem aeval_nilptr (a : Act) : aeval a (.const (.pointer none)) = some (.pointer none) := rfl
theorem aeval_nilslice (a : Act) (n c : Nat) : aeval a (.const (.slice none n c)) = some (.slice none n c) := rfl
theorem aeval_nilmap (a : Act) : aeval a (.const (.map none)) = some (.map none) := rfl
theorem aeval_func (a : Act) (f : FuncId) : aeval a (.func f) = some (.func (.func f) #[] #[]) := rfl

def yv : Value → Option Bool
  | .bool b => some b
  | _ => none

theorem yielded_AA {n : Nat} {f : Nat → Value} {ops : Array Oper} {j d : Nat} {o : Oper} (h : ops[j]? = some o) (hd : o.dst = some d) (hn : d < n) : yielded ops (mkT n f) j = yv (f d) := by
  unfold yielded
  rw [h]
  simp only [Option.bind_some, hd, mkT_get, if_pos hn]
  cases f d <;> rfl

theorem aEntry_AA {fn : Func} {args : Array Value} {n : Nat} (hn : fn.ntmps = n) (hs : args.size ≤ n) : aEntry fn args = AA n (fun t => args.getD t undef) [] := by
  subst hn
  unfold aEntry AA
  congr 1
  apply Array.ext_getElem?
  intro i
  rw [mkT_get, Array.getElem?_append]
  by_cases h : i < args.size
  · rw [if_pos h, if_pos (by omega), Array.getD_eq_getD_getElem?, Array.getElem?_eq_getElem h]; rfl
  · rw [if_neg h, Array.getElem?_replicate, Array.getD_eq_getD_getElem?, Array.getElem?_eq_none (by omega)]
    by_cases h2 : i < fn.ntmps
    · rw [if_pos (by omega), if_pos h2]; rfl
    · rw [if_neg (by omega), if_neg h2]

theorem runL_prim {E : Env} {ops : Array Oper} {base i : Nat} {L : List Nat} {a : Act} {σ : Heap} {K : Act → Heap → Prop} {o : Oper} {p : Prim} {eff : Eff}
    (ho : ops[i]? = some o) (hw : Region.wanted o (yielded ops a.tmps) = true) (hp : aop E (aeval a) o = some (.prim p)) (hr : p.run σ (base + i) = some eff) (hk : wrOk p eff = true)
    (h : runL E ops base L (a.put o.dst eff.val) (σ.app (base + i) eff) K) : runL E ops base (i :: L) a σ K := by
  simp only [runL, ho, if_pos hw, hp, hr]
  exact ⟨hk, h⟩


def obind {α : Type} (o : Option α) (k : α → Prop) : Prop :=
  match o with
  | some v => k v
  | none => False

theorem obind_some {α : Type} (v : α) (k : α → Prop) : obind (some v) k = k v := rfl
theorem obind_none {α : Type} (k : α → Prop) : obind none k = False := rfl
@[congr] theorem obind_congr {α : Type} {o o' : Option α} (h : o = o') (k : α → Prop) : obind o k = obind o' k := by rw [h]
theorem obind_spec {α : Type} {o : Option α} {k : α → Prop} (h : obind o k) : ∃ v, o = some v ∧ k v := by
  cases o with
  | none => exact h.elim
  | some v => exact ⟨v, rfl, h⟩

def cbind (c : Prop) (k : Prop) : Prop := c ∧ k
theorem cbind_true (k : Prop) : cbind True k = k := by simp [cbind]
@[congr] theorem cbind_congr {c c' : Prop} (h : c = c') (k : Prop) : cbind c k = cbind c' k := by rw [h]

def tbind (b : Bool) (x y : Prop) : Prop := (b = true → x) ∧ (b = false → y)
theorem tbind_true (x y : Prop) : tbind true x y = x := by simp [tbind]
theorem tbind_false (x y : Prop) : tbind false x y = y := by simp [tbind]
@[congr] theorem tbind_congr {b b' : Bool} (h : b = b') (x y : Prop) : tbind b x y = tbind b' x y := by rw [h]

def asPtr : Value → Option (Nat × Nat)
  | .pointer (some ⟨l, o, none⟩) => some (l, o)
  | _ => none
def asCells : Option AObj → Option (List Value × Nat × Bool)
  | some (.cells c sz ro) => some (c, sz, ro)
  | _ => none
def asMap : Option AObj → Option (List MapEntry × Nat)
  | some (.map es k) => some (es, k)
  | _ => none
def asB : Value → Option Bool
  | .bool b => some b
  | _ => none

theorem asPtr_spec {v : Value} {q : Nat × Nat} (h : asPtr v = some q) : v = .pointer (some ⟨q.1, q.2, none⟩) := by
  unfold asPtr at h; split at h
  · cases h; rfl
  · cases h
theorem asCells_spec {x : Option AObj} {q : List Value × Nat × Bool} (h : asCells x = some q) : x = some (.cells q.1 q.2.1 q.2.2) := by
  unfold asCells at h; split at h
  · cases h; rfl
  · cases h
theorem asB_spec {v : Value} {b : Bool} (h : asB v = some b) : v = .bool b := by
  unfold asB at h; split at h
  · cases h; rfl
  · cases h

abbrev KK := Act → Heap → List Nat → List Nat → Prop

def stepG (E : Env) (a : Act) (σ : Heap) (nm : Nat) (o : Oper) (k : KK) : Prop :=
  ∃ p eff, aop E (aeval a) o = some (.prim p) ∧ p.run σ nm = some eff ∧ wrOk p eff = true ∧ k (a.put o.dst eff.val) (σ.app nm eff) (tchOf p eff nm) (wrtOf eff nm)

theorem stepG_val {E : Env} {a : Act} {σ : Heap} {nm : Nat} {o : Oper} {k : KK} {v : Value} (h : aop E (aeval a) o = some (.prim (.ofVal v))) (hk : k (a.put o.dst v) σ [] []) : stepG E a σ nm o k :=
  ⟨_, ⟨v, none, none⟩, h, rfl, rfl, hk⟩

end Go.Proofs.YtfchjhfccnodpaaGreat
end

section
namespace Go.Proofs.YtfchjhfccnodpaaGreat
set_option linter.unusedSimpArgs false
set_option linter.unusedVariables false

def intV (op : BinOp) (k : IntKind) (a b : Int) : Option Value :=
  match op with
  | .add => some (.int k (k.wrap (a + b)))
  | .sub => some (.int k (k.wrap (a - b)))
  | .mul => some (.int k (k.wrap (a * b)))
  | .rem => if b = 0 then none else some (.int k (a.tmod b))
  | .quo => if b = 0 then none else some (.int k (k.wrap (a.tdiv b)))
  | .eql => some (.bool (a == b))
  | .neq => some (.bool (a != b))
  | .lss => some (.bool (decide (a < b)))
  | .leq => some (.bool (decide (a ≤ b)))
  | .gtr => some (.bool (decide (a > b)))
  | .geq => some (.bool (decide (a ≥ b)))
  | _ => none

def strV (op : BinOp) (x y : ByteArray) : Option Value :=
  match op with
  | .add => if ((x.size + y.size : Nat) : Int) > IntKind.i64.max then none else some (.string (x ++ y))
  | .eql => some (.bool (x.toList == y.toList))
  | .neq => some (.bool !(x.toList == y.toList))
  | .lss => some (.bool (Op.bytesLess x.toList y.toList))
  | .gtr => some (.bool !(Op.bytesLess x.toList y.toList || x.toList == y.toList))
  | _ => none

def binV (P : Program) (op : BinOp) (t : TypeId) (u v : Value) : Option Value :=
  match u, v with
  | .int k a, .int k' b => if k = k' then intV op k a b else none
  | .string x, .string y => strV op x y
  | .bool x, .bool y => match op with
    | .eql => match P.underlying t with | some .bool => some (.bool (x == y)) | _ => none
    | .neq => match P.underlying t with | some .bool => some (.bool !(x == y)) | _ => none
    | _ => none
  | .pointer none, .pointer none => match op, P.underlying t with
    | .eql, some (.pointer _) => some (.bool true)
    | .neq, some (.pointer _) => some (.bool false)
    | _, _ => none
  | .pointer (some _), .pointer none => match op, P.underlying t with
    | .eql, some (.pointer _) => some (.bool false)
    | .neq, some (.pointer _) => some (.bool true)
    | _, _ => none
  | .slice none _ _, .slice none _ _ => match op, P.underlying t with
    | .eql, some (.slice _) => some (.bool true)
    | .neq, some (.slice _) => some (.bool false)
    | _, _ => none
  | .slice (some _) _ _, .slice none _ _ => match op, P.underlying t with
    | .eql, some (.slice _) => some (.bool false)
    | .neq, some (.slice _) => some (.bool true)
    | _, _ => none
  | _, _ => none

theorem plain_int (k : IntKind) (n : Int) : plainV (.int k n) = true := rfl
theorem plain_bool (b : Bool) : plainV (.bool b) = true := rfl
theorem plain_string (s : ByteArray) : plainV (.string s) = true := rfl

theorem pureRun_pure {α : Type} (P : Program) (a : α) : pureRun P (pure a : Sem α) = some a := rfl

theorem intV_run {P : Program} {op : BinOp} {k : IntKind} {a b : Int} {r : Value} {x y : Operand} {t : TypeId} (h : intV op k a b = some r) :
    pureRun P (do eqGuard op t x y (.int k a) (.int k b); Go.binOp op t (.int k a) (.int k b)) = some r ∧ plainV r = true := by
  cases op <;> simp only [intV] at h <;> first
    | (cases h; done)
    | (split at h
       · cases h
       · rename_i hb
         cases h
         refine ⟨?_, rfl⟩
         simp [eqGuard, Go.binOp, Op.intDiv, hb, pureRun_pure]
         done)
    | (cases h
       refine ⟨?_, rfl⟩
       simp [eqGuard, Go.binOp, Op.intArith, Op.intCmp, pureRun_pure]
       done)

theorem strV_run {P : Program} {op : BinOp} {a b : ByteArray} {r : Value} {x y : Operand} {t : TypeId} (h : strV op a b = some r) :
    pureRun P (do eqGuard op t x y (.string a) (.string b); Go.binOp op t (.string a) (.string b)) = some r ∧ plainV r = true := by
  cases op <;> simp only [strV] at h
  case add =>
    split at h
    · cases h
    · rename_i hb
      cases h
      refine ⟨?_, rfl⟩
      have e : (do eqGuard .add t x y (.string a) (.string b); Go.binOp .add t (.string a) (.string b) : Sem Value) = pure (.string (a ++ b)) := by
        have h1 : (do eqGuard .add t x y (.string a) (.string b); Go.binOp .add t (.string a) (.string b) : Sem Value) = Op.stringOp .add a b := rfl
        rw [h1]
        simp only [Op.stringOp]
        rw [if_neg hb]
      rw [e]; rfl
  all_goals first
    | (cases h; done)
    | (cases h
       refine ⟨?_, rfl⟩
       simp [eqGuard, Go.binOp, Op.stringOp, pureRun_pure]
       done)

theorem pureRun_bind {α β : Type} (P : Program) (s : Sem α) (f : α → Sem β) {v : α} (h : pureRun P s = some v) : pureRun P (s >>= f) = pureRun P (f v) := by
  induction s with
  | pure b => simp only [pureRun, Option.some.injEq] at h; subst h; rfl
  | program k ih => exact ih P (by simpa [pureRun] using h)
  | _ => simp [pureRun] at h

theorem pureRun_underlying {P : Program} {t : TypeId} {d : TypeDesc} (h : P.underlying t = some d) : pureRun P (underlying t) = some d := by
  show pureRun P (do match P.underlying t with | some d => pure d | none => stuck _) = _
  rw [h]
  rfl

theorem equal_bool {P : Program} {t : TypeId} {a b : Bool} (h : P.underlying t = some .bool) : pureRun P (Op.equal t (.bool a) (.bool b)) = some (a == b) := by
  unfold Op.equal Op.maxDepth
  unfold Op.equalIn
  rw [pureRun_bind P _ _ (pureRun_underlying h)]
  rfl

theorem equal_nilp {P : Program} {t e : TypeId} (h : P.underlying t = some (.pointer e)) : pureRun P (Op.equal t (.pointer none) (.pointer none)) = some true := by
  unfold Op.equal Op.maxDepth
  unfold Op.equalIn
  rw [pureRun_bind P _ _ (pureRun_underlying h)]
  rfl

theorem equal_nils {P : Program} {t e : TypeId} {n c n' c' : Nat} (h : P.underlying t = some (.slice e)) : pureRun P (Op.equal t (.slice none n c) (.slice none n' c')) = some true := by
  unfold Op.equal Op.maxDepth
  unfold Op.equalIn
  rw [pureRun_bind P _ _ (pureRun_underlying h)]
  rfl

theorem binV_ok {P : Program} {ev : Ev} {op : BinOp} {t : TypeId} {x y : Operand} {u v r : Value} (hx : ev x = some u) (hy : ev y = some v) (h : binV P op t u v = some r) :
    aBin P ev op t x y = some (.ofVal r) := by
  unfold aBin
  rw [hx, hy]
  simp only [Option.bind_some]
  have pv : ∀ {a b : Value} {r : Value}, pureRun P (do eqGuard op t x y a b; Go.binOp op t a b) = some r ∧ plainV r = true → pureVal P (do eqGuard op t x y a b; Go.binOp op t a b) = some (.ofVal r) := by
    rintro a b r ⟨h1, h2⟩
    unfold pureVal
    rw [h1]
    simp only [Option.bind_some, h2, if_true]
  unfold binV at h
  split at h
  · rename_i k a k' b
    split at h
    case isFalse => cases h
    rename_i hk
    subst hk
    rw [if_pos (show (plainV (.int k a) && plainV (.int k b)) = true from rfl)]
    exact pv (intV_run h)
  · rename_i a b
    rw [if_pos (show (plainV (.string a) && plainV (.string b)) = true from rfl)]
    exact pv (strV_run h)
  · rename_i a b
    rw [if_pos (show (plainV (.bool a) && plainV (.bool b)) = true from rfl)]
    split at h
    · split at h
      case h_2 => cases h
      rename_i hu
      cases h
      refine pv ⟨?_, rfl⟩
      show pureRun P (do let z ← Op.equal t (.bool a) (.bool b); pure (Value.bool z) : Sem Value) = _
      rw [pureRun_bind P _ _ (equal_bool hu)]; rfl
    · split at h
      case h_2 => cases h
      rename_i hu
      cases h
      refine pv ⟨?_, rfl⟩
      show pureRun P (do let z ← Op.equal t (.bool a) (.bool b); pure (Value.bool (!z)) : Sem Value) = _
      rw [pureRun_bind P _ _ (equal_bool hu)]; rfl
    · cases h
  · rw [if_pos (show (plainV (.pointer none) && plainV (.pointer none)) = true from rfl)]
    split at h
    · rename_i hu
      cases h
      refine pv ⟨?_, rfl⟩
      show pureRun P (do let z ← Op.equal t (.pointer none) (.pointer none); pure (Value.bool z) : Sem Value) = _
      rw [pureRun_bind P _ _ (equal_nilp hu)]; rfl
    · rename_i hu
      cases h
      refine pv ⟨?_, rfl⟩
      show pureRun P (do let z ← Op.equal t (.pointer none) (.pointer none); pure (Value.bool (!z)) : Sem Value) = _
      rw [pureRun_bind P _ _ (equal_nilp hu)]; rfl
    · cases h
  · rename_i a
    have hp : (plainV (.pointer (some a)) && plainV (.pointer none)) = false := rfl
    rw [hp]
    split at h
    · rename_i e hu
      have hn : nilCmp P t (.pointer (some a)) (.pointer none) = true := by unfold nilCmp; rw [hu]
      rw [hn]; cases h; rfl
    · rename_i e hu
      have hn : nilCmp P t (.pointer (some a)) (.pointer none) = true := by unfold nilCmp; rw [hu]
      rw [hn]; cases h; rfl
    · cases h
  · rename_i n c n' c'
    rw [if_pos (show (plainV (.slice none n c) && plainV (.slice none n' c')) = true from rfl)]
    split at h
    · rename_i hu
      cases h
      refine pv ⟨?_, rfl⟩
      show pureRun P (do let z ← Op.equal t (.slice none n c) (.slice none n' c'); pure (Value.bool z) : Sem Value) = _
      rw [pureRun_bind P _ _ (equal_nils hu)]; rfl
    · rename_i hu
      cases h
      refine pv ⟨?_, rfl⟩
      show pureRun P (do let z ← Op.equal t (.slice none n c) (.slice none n' c'); pure (Value.bool (!z)) : Sem Value) = _
      rw [pureRun_bind P _ _ (equal_nils hu)]; rfl
    · cases h
  · rename_i a n c n' c'
    have hp : (plainV (.slice (some a) n c) && plainV (.slice none n' c')) = false := rfl
    rw [hp]
    split at h
    · rename_i e hu
      have hn : nilCmp P t (.slice (some a) n c) (.slice none n' c') = true := by unfold nilCmp; rw [hu]
      rw [hn]; cases h; rfl
    · rename_i e hu
      have hn : nilCmp P t (.slice (some a) n c) (.slice none n' c') = true := by unfold nilCmp; rw [hu]
      rw [hn]; cases h; rfl
    · cases h
  · cases h


def asAgg : Value → Option (Array Value)
  | .agg cs => some cs
  | _ => none
def asTup : Value → Option (Array Value)
  | .tuple cs => some cs
  | _ => none
def asI : Value → Option Int
  | .int _ i => some i
  | _ => none
def asSl : Value → Option (Nat × Nat × Nat × Nat)
  | .slice (some ⟨l, o, none⟩) n c => some (l, o, n, c)
  | _ => none

theorem asAgg_spec {v : Value} {q : Array Value} (h : asAgg v = some q) : v = .agg q := by
  unfold asAgg at h; split at h
  · cases h; rfl
  · cases h
theorem asTup_spec {v : Value} {q : Array Value} (h : asTup v = some q) : v = .tuple q := by
  unfold asTup at h; split at h
  · cases h; rfl
  · cases h
theorem asI_spec {v : Value} {q : Int} (h : asI v = some q) : ∃ k, v = .int k q := by
  unfold asI at h; split at h
  · cases h; exact ⟨_, rfl⟩
  · cases h
theorem asSl_spec {v : Value} {q : Nat × Nat × Nat × Nat} (h : asSl v = some q) : v = .slice (some ⟨q.1, q.2.1, none⟩) q.2.2.1 q.2.2.2 := by
  unfold asSl at h; split at h
  · cases h; rfl
  · cases h

def fldO (P : Program) (s : TypeId) (f : Nat) : Option Nat :=
  match P.underlying s with
  | some (.struct fields) => (fields[f]?).bind fun fd => (szO P fd.type).bind fun z => if z = 0 then none else some fd.offset
  | _ => none
def fldT (P : Program) (s : TypeId) (f : Nat) : Option (TypeId × Nat) :=
  match P.underlying s with
  | some (.struct fields) => (fields[f]?).map fun fd => (fd.type, fd.offset)
  | _ => none
def elemS (P : Program) (t : TypeId) : Option Nat :=
  match P.underlying t with
  | some (.slice e) => szO P e
  | _ => none

def stepF (E : Env) (a : Act) (σ : Heap) (nm : Nat) (o : Oper) (k : KK) : Prop :=
  obind (aop E (aeval a) o) fun x => match x with
    | .prim p => obind (p.run σ nm) fun eff => cbind (wrOk p eff = true) (k (a.put o.dst eff.val) (σ.app nm eff) (tchOf p eff nm) (wrtOf eff nm))
    | _ => False

def stepK (E : Env) (a : Act) (σ : Heap) (nm : Nat) (o : Oper) (k : KK) : Prop :=
  match o.op with
  | .move x => obind (aeval a x) fun v => k (a.put o.dst v) σ [] []
  | .assign x => obind (aeval a x) fun v => k (a.put o.dst v) σ [] []
  | .pick c x y => obind (aeval a c) fun c => obind (asB c) fun t => obind (if t then aeval a x else aeval a y) fun v => k (a.put o.dst v) σ [] []
  | .alloc t => obind (zeroP E.P t) fun z => k (a.put o.dst (.pointer (some ⟨nm, 0, none⟩))) (σ.upd nm (some (.cells z.cells.toList 0 false))) [nm] [nm]
  | .box _ x => obind (aeval a x) fun v => k (a.put o.dst (.pointer (some ⟨nm, 0, none⟩))) (σ.upd nm (some (.cells v.cells.toList 0 false))) [nm] [nm]
  | .load t x => obind (aeval a x) fun p => obind (asPtr p) fun q => obind (asCells (σ.get q.1)) fun c => obind (partO E.P t c.1 q.2) fun v => k (a.put o.dst v) σ [q.1] []
  | .store t x y => obind (aeval a x) fun p => obind (asPtr p) fun q => obind (aeval a y) fun v => obind (szO E.P t) fun s => obind (asCells (σ.get q.1)) fun c =>
      cbind (v.cells.size = s ∧ plainL oneCell v.cells.toList = true ∧ c.2.2 = false ∧ q.2 + s ≤ c.1.length)
        (k (a.put o.dst undef) (σ.upd q.1 (some (.cells (splice c.1 q.2 v.cells.toList) c.2.1 false))) [q.1] [q.1])
  | .nilCheck x => obind (aeval a x) fun v => obind (asPtr v) fun _ => k (a.put o.dst v) σ [] []
  | .binOp op t x y _ => obind (aeval a x) fun u => obind (aeval a y) fun v => obind (binV E.P op t u v) fun r => k (a.put o.dst r) σ [] []
  | .fieldAddr s x f => obind (fldO E.P s f) fun d => obind (aeval a x) fun v => obind (asPtr v) fun q => k (a.put o.dst (.pointer (some ⟨q.1, q.2 + d, none⟩))) σ [] []
  | .field s x f => obind (fldT E.P s f) fun d => obind (aeval a x) fun v => obind (asAgg v) fun cs => obind (partO E.P d.1 cs.toList d.2) fun v => k (a.put o.dst v) σ [] []
  | .indexAddr t x ix => match elemS E.P t with
    | some s => obind (aeval a ix) fun i => obind (asI i) fun i => obind (aeval a x) fun v => obind (asSl v) fun q =>
        cbind (0 ≤ i ∧ i < q.2.2.1) (k (a.put o.dst (.pointer (some ⟨q.1, q.2.1 + i.toNat * s, none⟩))) σ [] [])
    | none => stepF E a σ nm o k
  | .extract x i => obind (aeval a x) fun v => obind (asTup v) fun vs => obind vs[i]? fun v => k (a.put o.dst v) σ [] []
  | _ => stepF E a σ nm o k

def loadP (P : Program) (t : TypeId) (l o : Nat) : Prim := ⟨[l], fun _ objs => match objs with
  | [.cells c _ _] => (partO P t c o).map fun v => ⟨v, none, none⟩
  | _ => none⟩
theorem aLoad_eq {P : Program} {ev : Ev} {t : TypeId} {x : Operand} {l o : Nat} (h : ev x = some (.pointer (some ⟨l, o, none⟩))) : aLoad P ev t x = some (loadP P t l o) := by
  unfold aLoad; rw [h]; rfl
def storeP (v : Value) (s l o : Nat) : Prim := ⟨[l], fun _ objs => match objs with
  | [.cells c sz false] => if o + s ≤ c.length then some ⟨undef, some (l, some (.cells (splice c o v.cells.toList) sz false)), none⟩ else none
  | _ => none⟩
theorem aStore_eq {P : Program} {ev : Ev} {t : TypeId} {x y : Operand} {l o s : Nat} {v : Value} (h : ev x = some (.pointer (some ⟨l, o, none⟩))) (hy : ev y = some v) (hs : szO P t = some s)
    (h1 : v.cells.size = s) (h2 : plainL oneCell v.cells.toList = true) : aStore P ev t x y = some (storeP v s l o) := by
  unfold aStore; rw [h]; simp only [Option.bind_some, hy, hs, h1, h2, decide_true, Bool.and_self, if_true]; rfl

theorem stepF_ok {E : Env} {a : Act} {σ : Heap} {nm : Nat} {o : Oper} {k : KK} (h : stepF E a σ nm o k) : stepG E a σ nm o k := by
  obtain ⟨x, h1, h2⟩ := obind_spec h
  cases x with
  | prim p =>
    obtain ⟨eff, h3, h4⟩ := obind_spec h2
    exact ⟨p, eff, h1, h3, h4.1, h4.2⟩
  | call f args => exact h2.elim
  | defer f c args => exact h2.elim

theorem stepK_ok {E : Env} {a : Act} {σ : Heap} {nm : Nat} {o : Oper} {k : KK} (h : stepK E a σ nm o k) : stepG E a σ nm o k := by
  obtain ⟨dst, op, ty, pos, af, g⟩ := o
  unfold stepK at h
  cases op <;> simp only at h <;> first | exact stepF_ok h | skip
  case move x =>
    obtain ⟨v, h1, h2⟩ := obind_spec h
    exact stepG_val (v := v) (by simp only [aop, h1, Option.map_some]) h2
  case assign x =>
    obtain ⟨v, h1, h2⟩ := obind_spec h
    exact stepG_val (v := v) (by simp only [aop, h1, Option.map_some]) h2
  case pick c x y =>
    replace h := obind_spec h; obtain ⟨cv, h1, h⟩ := h
    replace h := obind_spec h; obtain ⟨t, h2, h⟩ := h
    replace h := obind_spec h; obtain ⟨v, h3, h⟩ := h
    have := asB_spec h2; subst this
    exact stepG_val (v := v) (by simp only [aop, h1, Option.bind_some, h3, Option.map_some]) h
  case alloc t =>
    replace h := obind_spec h; obtain ⟨z, h1, h⟩ := h
    exact ⟨Prim.newCells z.cells.toList 0, _, by simp only [aop, h1, Option.map_some], rfl, rfl, h⟩
  case box t x =>
    replace h := obind_spec h; obtain ⟨z, h1, h⟩ := h
    exact ⟨Prim.newCells z.cells.toList 0, _, by simp only [aop, h1, Option.map_some], rfl, rfl, h⟩
  case load t x =>
    replace h := obind_spec h; obtain ⟨p, h1, h⟩ := h
    replace h := obind_spec h; obtain ⟨q, h2, h⟩ := h
    replace h := obind_spec h; obtain ⟨c, h3, h⟩ := h
    replace h := obind_spec h; obtain ⟨v, h4, h⟩ := h
    have := asPtr_spec h2; subst this
    have hc := asCells_spec h3
    refine ⟨loadP E.P t q.1 q.2, ⟨v, none, none⟩, by simp only [aop, aLoad_eq h1, Option.map_some], ?_, rfl, h⟩
    simp only [loadP, Prim.run, getAll, hc, Option.bind_some, Option.map_some, h4]
  case store t x y =>
    replace h := obind_spec h; obtain ⟨p, h1, h⟩ := h
    replace h := obind_spec h; obtain ⟨q, h2, h⟩ := h
    replace h := obind_spec h; obtain ⟨v, h3, h⟩ := h
    replace h := obind_spec h; obtain ⟨s, h4, h⟩ := h
    replace h := obind_spec h; obtain ⟨c, h5, h⟩ := h
    obtain ⟨⟨c1, c2, c3, c4⟩, h⟩ := h
    have := asPtr_spec h2; subst this
    have hc := asCells_spec h5
    obtain ⟨cl, sz, ro⟩ := c
    simp only at c3 c4 hc
    subst c3
    refine ⟨storeP v s q.1 q.2, ⟨undef, some (q.1, some (.cells (splice cl q.2 v.cells.toList) sz false)), none⟩, by simp only [aop, aStore_eq h1 h3 h4 c1 c2, Option.map_some], ?_, ?_, h⟩
    · simp only [storeP, Prim.run, getAll, hc, Option.bind_some, Option.map_some, c4, if_true]
    · simp [wrOk, storeP]
  case nilCheck x =>
    replace h := obind_spec h; obtain ⟨v, h1, h⟩ := h
    replace h := obind_spec h; obtain ⟨q, h2, h⟩ := h
    have := asPtr_spec h2; subst this
    exact stepG_val (v := _) (by simp only [aop, aNil, h1, Option.bind_some, Option.map_some]) h
  case binOp op t x y yt =>
    replace h := obind_spec h; obtain ⟨u, h1, h⟩ := h
    replace h := obind_spec h; obtain ⟨v, h2, h⟩ := h
    replace h := obind_spec h; obtain ⟨r, h3, h⟩ := h
    exact stepG_val (v := r) (by simp only [aop, binV_ok h1 h2 h3, Option.map_some]) h
  case fieldAddr s x f =>
    replace h := obind_spec h; obtain ⟨d, h1, h⟩ := h
    replace h := obind_spec h; obtain ⟨v, h2, h⟩ := h
    replace h := obind_spec h; obtain ⟨q, h3, h⟩ := h
    have := asPtr_spec h3; subst this
    unfold fldO at h1
    split at h1
    case h_2 => cases h1
    rename_i fields hu
    simp only [Option.bind_eq_some_iff] at h1
    obtain ⟨fd, e1, z, e2, e3⟩ := h1
    split at e3
    · cases e3
    rename_i hz
    cases e3
    exact stepG_val (v := _) (by simp only [aop, aFieldAddr, hu, e1, h2, e2, Option.bind_some, if_neg hz, Option.map_some]) h
  case field s x f =>
    replace h := obind_spec h; obtain ⟨d, h1, h⟩ := h
    replace h := obind_spec h; obtain ⟨v, h2, h⟩ := h
    replace h := obind_spec h; obtain ⟨q, h3, h⟩ := h
    replace h := obind_spec h; obtain ⟨u, h4, h⟩ := h
    have := asAgg_spec h3; subst this
    unfold fldT at h1
    split at h1
    case h_2 => cases h1
    rename_i fields hu
    obtain ⟨fd, e1, rfl⟩ := Option.map_eq_some_iff.1 h1
    exact stepG_val (v := u) (by simp only [aop, aField, hu, e1, h2, Option.bind_some, h4, Option.map_some]) h
  case indexAddr t x ix =>
    split at h
    case h_2 => exact stepF_ok h
    rename_i s hs
    replace h := obind_spec h; obtain ⟨iv, h1, h⟩ := h
    replace h := obind_spec h; obtain ⟨i, h2, h⟩ := h
    replace h := obind_spec h; obtain ⟨v, h3, h⟩ := h
    replace h := obind_spec h; obtain ⟨q, h4, h⟩ := h
    obtain ⟨hc, h⟩ := h
    obtain ⟨k', rfl⟩ := asI_spec h2
    have := asSl_spec h4; subst this
    unfold elemS at hs
    split at hs
    case h_2 => cases hs
    rename_i e hu
    exact stepG_val (v := _) (by simp only [aop, aIndexAddr, h1, h3, hu, hs, Option.bind_some, if_pos hc, Option.map_some]) h
  case extract x i =>
    replace h := obind_spec h; obtain ⟨v, h1, h⟩ := h
    replace h := obind_spec h; obtain ⟨q, h2, h⟩ := h
    replace h := obind_spec h; obtain ⟨u, h3, h⟩ := h
    have := asTup_spec h2; subst this
    exact stepG_val (v := u) (by simp only [aop, aExtract, h1, Option.bind_some, h3, Option.map_some]) h

end Go.Proofs.YtfchjhfccnodpaaGreat
end

section
namespace Go.Proofs.YtfchjhfccnodpaaGreat
set_option linter.unusedSimpArgs false
set_option linter.unusedVariables false

def gdst (ops : Array Oper) (j : Nat) : Option Tmp := (ops[j]?).bind (·.dst)

def stepC (E : Env) (a : Act) (σ : Heap) (nm : Nat) (o : Oper) (k : Act → Heap → Prop) : Prop :=
  match o.op with
  | .call c => obind (aCall E (aeval a) c o.type) fun x => match x with
    | .prim p => obind (p.run σ nm) fun eff => cbind (wrOk p eff = true) (k (a.put o.dst eff.val) (σ.app nm eff))
    | .call f args => ACall E.P f args σ fun v τ => k (a.put o.dst v) τ
    | .defer _ _ _ => False
  | .defer c => obind (aDefer E (aeval a) c) fun x => match x with
    | .defer f cap args => k (Act.put { a with defers := ⟨.fn (.func f) cap, args⟩ :: a.defers } o.dst undef) σ
    | _ => False
  | _ => stepK E a σ nm o fun a σ _ _ => k a σ

def runO (E : Env) (ops : Array Oper) (base : Nat) : Nat → List Oper → Act → Heap → (Act → Heap → Prop) → Prop
  | _, [], a, σ, K => K a σ
  | i, o :: os, a, σ, K =>
    match o.guard with
    | none => stepC E a σ (base + i) o fun a σ => runO E ops base (i + 1) os a σ K
    | some (j, b) => obind (gdst ops j) fun d => obind (aeval a (.tmp d)) fun v => obind (asB v) fun t =>
        tbind (t == b) (stepC E a σ (base + i) o fun a σ => runO E ops base (i + 1) os a σ K) (runO E ops base (i + 1) os (a.put o.dst undef) σ K)

theorem stepC_ok {E : Env} {ops : Array Oper} {base i : Nat} {L : List Nat} {a : Act} {σ : Heap} {K : Act → Heap → Prop} {o : Oper} (ho : ops[i]? = some o) (hw : Region.wanted o (yielded ops a.tmps) = true)
    (h : stepC E a σ (base + i) o fun a σ => runL E ops base L a σ K) : runL E ops base (i :: L) a σ K := by
  have prim : stepG E a σ (base + i) o (fun a σ _ _ => runL E ops base L a σ K) → runL E ops base (i :: L) a σ K := by
    rintro ⟨p, eff, h1, h2, h3, h4⟩
    exact runL_prim ho hw h1 h2 h3 h4
  obtain ⟨dst, op, ty, pos, af, g⟩ := o
  unfold stepC at h
  cases op <;> simp only at h <;> first | exact prim (stepK_ok h) | skip
  case call c =>
    obtain ⟨x, h1, h⟩ := obind_spec h
    have hx : aop E (aeval a) ⟨dst, .call c, ty, pos, af, g⟩ = some x := h1
    cases x with
    | prim p =>
      obtain ⟨eff, h2, h3⟩ := obind_spec h
      exact runL_prim ho hw hx h2 h3.1 h3.2
    | call f args =>
      simp only [runL, ho, if_pos hw, hx]
      exact h
    | defer f c args => exact h.elim
  case defer c =>
    obtain ⟨x, h1, h⟩ := obind_spec h
    have hx : aop E (aeval a) ⟨dst, .defer c, ty, pos, af, g⟩ = some x := h1
    cases x with
    | prim p => exact h.elim
    | call f args => exact h.elim
    | defer f cap args =>
      simp only [runL, ho, if_pos hw, hx]
      exact h

theorem stepC_mono {E : Env} {a : Act} {σ : Heap} {nm : Nat} {o : Oper} {k k' : Act → Heap → Prop} (hk : ∀ a σ, k a σ → k' a σ) (h : stepC E a σ nm o k) : stepC E a σ nm o k' := by
  obtain ⟨dst, op, ty, pos, af, g⟩ := o
  have ob : ∀ {α : Type} {x : Option α} {p q : α → Prop}, (∀ v, p v → q v) → obind x p → obind x q := by
    intro α x p q hpq h
    cases x with
    | none => exact h
    | some v => exact hpq v h
  unfold stepC at h ⊢
  cases op <;> simp only at h ⊢
  case call c =>
    refine ob (fun x hx => ?_) h
    cases x with
    | prim p => exact ob (fun eff he => ⟨he.1, hk _ _ he.2⟩) hx
    | call f args => exact ACall.mono hx fun v τ hv => hk _ _ hv
    | defer f c args => exact hx
  case defer c =>
    refine ob (fun x hx => ?_) h
    cases x with
    | prim p => exact hx
    | call f args => exact hx
    | defer f cap args => exact hk _ _ hx
  case indexAddr t x ix =>
    unfold stepK at h ⊢
    simp only at h ⊢
    split at h
    · exact ob (fun _ h => ob (fun _ h => ob (fun _ h => ob (fun _ h => ⟨h.1, hk _ _ h.2⟩) h) h) h) h
    · exact ob (fun x hx => by
        cases x with
        | prim p => exact ob (fun eff he => ⟨he.1, hk _ _ he.2⟩) hx
        | call f args => exact hx
        | defer f c args => exact hx) h
  all_goals
    unfold stepK at h ⊢
    simp only at h ⊢
    first
      | exact ob (fun _ h => hk _ _ h) h
      | exact ob (fun _ h => ob (fun _ h => hk _ _ h) h) h
      | exact ob (fun _ h => ob (fun _ h => ob (fun _ h => hk _ _ h) h) h) h
      | exact ob (fun _ h => ob (fun _ h => ob (fun _ h => ob (fun _ h => hk _ _ h) h) h) h) h
      | exact ob (fun _ h => ob (fun _ h => ob (fun _ h => ob (fun _ h => ob (fun _ h => ⟨h.1, hk _ _ h.2⟩) h) h) h) h) h
      | exact ob (fun x hx => by
          cases x with
          | prim p => exact ob (fun eff he => ⟨he.1, hk _ _ he.2⟩) hx
          | call f args => exact hx
          | defer f c args => exact hx) h

theorem runO_ok {E : Env} {ops : Array Oper} {base : Nat} {K : Act → Heap → Prop} : ∀ (os : List Oper) (i : Nat) (a : Act) (σ : Heap), (∀ j o, os[j]? = some o → ops[i + j]? = some o) → runO E ops base i os a σ K →
    runL E ops base (List.range' i os.length) a σ K
  | [], i, a, σ, _, h => h
  | o :: os, i, a, σ, hops, h => by
    have ho : ops[i]? = some o := hops 0 o rfl
    have hrest : ∀ j p, os[j]? = some p → ops[i + 1 + j]? = some p := fun j p hj => by
      have := hops (j + 1) p (by simpa using hj)
      rwa [show i + (j + 1) = i + 1 + j by omega] at this
    have step : Region.wanted o (yielded ops a.tmps) = true → (stepC E a σ (base + i) o fun a σ => runO E ops base (i + 1) os a σ K) → runL E ops base (i :: List.range' (i + 1) os.length) a σ K :=
      fun hw hs => stepC_ok ho hw (stepC_mono (fun a σ hk => runO_ok os (i + 1) a σ hrest hk) hs)
    show runL E ops base (i :: List.range' (i + 1) os.length) a σ K
    simp only [runO] at h
    split at h
    · rename_i hg
      exact step (by simp [Region.wanted, hg]) h
    · rename_i j b hg
      obtain ⟨d, h1, h⟩ := obind_spec h
      obtain ⟨v, h2, h⟩ := obind_spec h
      obtain ⟨t, h3, h⟩ := obind_spec h
      have hv := asB_spec h3
      subst hv
      have hy : Region.wanted o (yielded ops a.tmps) = (t == b) := by
        simp only [Region.wanted, hg, yielded]
        unfold gdst at h1
        rw [h1]
        simp only [aeval, Option.some.injEq] at h2
        simp only [Option.bind_some]
        rw [Array.getD_eq_getD_getElem?] at h2
        cases hd : a.tmps[d]? with
        | none => rw [hd] at h2; simp [undef] at h2
        | some u =>
          rw [hd] at h2
          simp only [Option.getD_some] at h2
          subst h2
          cases t <;> cases b <;> rfl
      cases hb : (t == b) with
      | true => exact step (by rw [hy, hb]) (h.1 hb)
      | false =>
        simp only [runL, ho]
        rw [if_neg (by rw [hy, hb]; simp)]
        exact runO_ok os (i + 1) _ σ hrest (h.2 hb)

theorem awp_region_o {E : Env} (hE : EnvOk E) {id : Nat} {ops : Array Oper} {Q : AQ} {a : Act} {σ : Heap}
    (h : ∀ K : Act → Heap → Prop, (∀ a σ, Q .normal a σ → K a σ) → runO E ops σ.nxt 0 ops.toList a (σ.bump ops.size) K) : AWP E.P (.region id ops false) Q a σ := by
  refine awp_region hE ?_
  have h1 := runO_ok (E := E) (ops := ops) (base := σ.nxt) ops.toList 0 a (σ.bump ops.size) (fun j o hj => by simpa using hj) (h (Q .normal) fun _ _ h => h)
  rwa [Array.length_toList, ← List.range_eq_range'] at h1

end Go.Proofs.YtfchjhfccnodpaaGreat
end

section
namespace Go.Proofs.YtfchjhfccnodpaaGreat
set_option linter.unusedSimpArgs false
set_option linter.unusedVariables false


theorem evParts_congr {ev ev' : Ev} : ∀ (ps : List (Nat × Operand)), (∀ i x, (i, x) ∈ ps → ev x = ev' x) → evParts ev ps = evParts ev' ps
  | [], _ => rfl
  | (i, x) :: r, h => by
    simp only [evParts]
    rw [h i x (List.mem_cons_self ..), evParts_congr r fun i y hy => h i y (List.mem_cons_of_mem _ hy)]

theorem evList_congr {ev ev' : Ev} : ∀ (xs : List Operand), (∀ x, x ∈ xs → ev x = ev' x) → evList ev xs = evList ev' xs
  | [], _ => rfl
  | x :: r, h => by
    simp only [evList]
    rw [h x (List.mem_cons_self ..), evList_congr r fun y hy => h y (List.mem_cons_of_mem _ hy)]

theorem boundO_congr {ev ev' : Ev} {x : Option Operand} (h : ∀ y, x = some y → ev y = ev' y) (d y : Nat) : boundO ev x d y = boundO ev' x d y := by
  cases x with
  | none => rfl
  | some x => simp only [boundO]; rw [h x rfl]

theorem parts_mem {ps : Array (Nat × Operand)} {ev ev' : Ev} (h : ∀ x ∈ (ps.toList.map (·.2)).toArray, ev x = ev' x) : ∀ i x, (i, x) ∈ ps.toList → ev x = ev' x :=
  fun i x hx => h x (by simp only [List.mem_toArray, List.mem_map]; exact ⟨(i, x), hx, rfl⟩)

theorem aop_congr {E : Env} {ev ev' : Ev} {o : Oper} (h : ∀ x ∈ o.op.operands, ev x = ev' x) : aop E ev o = aop E ev' o := by
  obtain ⟨dst, op, ty, pos, af, g⟩ := o
  have call : ∀ c : Call, (∀ x ∈ c.operands, ev x = ev' x) → aCall E ev c ty = aCall E ev' c ty ∧ aDefer E ev c = aDefer E ev' c := by
    intro c hc
    obtain ⟨callee, args, ts⟩ := c
    have ha : evList ev args.toList = evList ev' args.toList := evList_congr _ fun x hx => hc x (by
      cases callee <;> simp only [Call.operands, Array.mem_append] <;> exact .inr (by simpa using hx))
    constructor
    · cases callee with
      | value f => simp only [aCall, ha]; rw [hc f (by simp [Call.operands])]
      | invoke r m => simp only [aCall, ha]
      | builtin b => simp only [aCall, ha]
    · cases callee with
      | value f => simp only [aDefer, ha]; rw [hc f (by simp [Call.operands])]
      | invoke r m => simp only [aDefer, ha]
      | builtin b => simp only [aDefer, ha]
  cases op
  case move x => simp only [aop]; rw [h x (by simp [Op.operands])]
  case assign x => simp only [aop]; rw [h x (by simp [Op.operands])]
  case pick c x y => simp only [aop]; rw [h c (by simp [Op.operands]), h x (by simp [Op.operands]), h y (by simp [Op.operands])]
  case box t x => simp only [aop]; rw [h x (by simp [Op.operands])]
  case build t ps => simp only [aop, aBuild]; rw [evParts_congr ps.toList (parts_mem h)]
  case buildSlice t n ps => simp only [aop, aBuildSlice]; rw [evParts_congr ps.toList (parts_mem h)]
  case load t x => simp only [aop, aLoad]; rw [h x (by simp [Op.operands])]
  case store t x y => simp only [aop, aStore]; rw [h x (by simp [Op.operands]), h y (by simp [Op.operands])]
  case nilCheck x => simp only [aop, aNil]; rw [h x (by simp [Op.operands])]
  case binOp op t x y yt => simp only [aop, aBin]; rw [h x (by simp [Op.operands]), h y (by simp [Op.operands])]
  case unOp op t x => simp only [aop, plainEv]; rw [h x (by simp [Op.operands])]
  case convert s d x => simp only [aop, aConvert]; rw [h x (by simp [Op.operands])]
  case makeFunc fn fs cs =>
    simp only [aop, aMakeFunc]
    rw [evList_congr fs.toList fun x hx => h x (by simp only [Op.operands, Array.mem_append]; exact .inl (by simpa using hx)), evList_congr cs.toList fun x hx => h x (by simp only [Op.operands, Array.mem_append]; exact .inr (by simpa using hx))]
  case makeMap t r =>
    cases r with
    | none => rfl
    | some r => simp only [aop, aMakeMap]; rw [h r (by simp [Op.operands])]
  case makeSlice t x y => simp only [aop, aMakeSlice]; rw [h x (by simp [Op.operands]), h y (by simp [Op.operands])]
  case slice t x lo hi mx =>
    have hx := h x (by simp [Op.operands])
    have h1 : ∀ y, lo = some y → ev y = ev' y := fun y hy => h y (by simp [Op.operands, hy])
    have h2 : ∀ y, hi = some y → ev y = ev' y := fun y hy => h y (by simp [Op.operands, hy])
    have h3 : ∀ y, mx = some y → ev y = ev' y := fun y hy => h y (by simp [Op.operands, hy])
    rcases lo with _ | a <;> rcases hi with _ | b <;> rcases mx with _ | m <;> simp only [aop, aSlice, plainEv, boundO, hx] <;> (try rw [h1 a rfl]) <;> (try rw [h2 b rfl]) <;> (try rw [h3 m rfl])
  case fieldAddr s x f => simp only [aop, aFieldAddr]; rw [h x (by simp [Op.operands])]
  case field s x f => simp only [aop, aField]; rw [h x (by simp [Op.operands])]
  case indexAddr t x i => simp only [aop, aIndexAddr]; rw [h x (by simp [Op.operands]), h i (by simp [Op.operands])]
  case index t x i => simp only [aop, aIndex, plainEv]; rw [h x (by simp [Op.operands]), h i (by simp [Op.operands])]
  case lookup t x i ok => simp only [aop, aLookup, plainEv]; rw [h x (by simp [Op.operands]), h i (by simp [Op.operands])]
  case mapUpdate t m k x => simp only [aop, aMapUpdate, plainEv]; rw [h m (by simp [Op.operands]), h k (by simp [Op.operands]), h x (by simp [Op.operands])]
  case mapEntry t m k => simp only [aop, aMapEntry, plainEv]; rw [h m (by simp [Op.operands]), h k (by simp [Op.operands])]
  case entryStore t m b x => simp only [aop, aEntryStore]; rw [h m (by simp [Op.operands]), h b (by simp [Op.operands]), h x (by simp [Op.operands])]
  case extract x i => simp only [aop, aExtract]; rw [h x (by simp [Op.operands])]
  case call c => simp only [aop]; exact (call c (fun x hx => h x hx)).1
  case defer c => simp only [aop]; exact (call c (fun x hx => h x hx)).2
  all_goals rfl

theorem aop_evOf {E : Env} {ops : Array Oper} {a : Act} {o : Oper} : aop E (evOf ops a o) o = aop E (aeval a) o := by
  refine aop_congr fun x hx => ?_
  cases x with
  | tmp t =>
    simp only [evOf]
    rw [if_pos]
    simp only [Oper.looksAt, List.contains_eq_mem, List.mem_append, decide_eq_true_eq]
    left
    exact List.mem_filterMap.2 ⟨.tmp t, by simpa using hx, rfl⟩
  | const c => rfl
  | global g => rfl
  | func f => rfl


def touches (o : Oper) : Bool :=
  match o.op with
  | .move _ => false
  | .assign _ => false
  | .pick _ _ _ => false
  | .nilCheck _ => false
  | .binOp _ _ _ _ _ => false
  | .unOp _ _ _ => false
  | .fieldAddr _ _ _ => false
  | .field _ _ _ => false
  | .indexAddr _ _ _ => false
  | .extract _ _ => false
  | .build _ _ => false
  | .makeFunc _ _ _ => false
  | .call c => match c.callee with
    | .builtin .min => false
    | .builtin .max => false
    | _ => true
  | _ => true

def memN (x : Nat) : List Nat → Bool
  | [] => false
  | y :: r => if x = y then true else memN x r

theorem memN_iff {x : Nat} : ∀ {l : List Nat}, memN x l = true ↔ x ∈ l
  | [] => by simp [memN]
  | y :: r => by
    simp only [memN, List.mem_cons]
    by_cases h : x = y
    · simp [h]
    · rw [if_neg h, memN_iff]; simp [h]

def ne1 (x : Nat) : List Nat → Prop
  | [] => True
  | y :: r => x ≠ y ∧ ne1 x r
def neAll : List Nat → List Nat → Prop
  | [], _ => True
  | x :: a, b => ne1 x b ∧ neAll a b

theorem ne1_spec {x : Nat} : ∀ {l : List Nat}, ne1 x l → x ∉ l
  | [], _ => by simp
  | y :: r, h => by simp only [List.mem_cons, not_or]; exact ⟨h.1, ne1_spec h.2⟩
theorem neAll_spec : ∀ {a b : List Nat}, neAll a b → disj a b = true
  | [], _, _ => rfl
  | x :: a, b, h => disj_of fun y hy => by
    rcases List.mem_cons.1 hy with rfl | hy
    · exact ne1_spec h.1
    · exact disj_spec (neAll_spec h.2) hy

def cases2 (b : Bool) (x y : Prop) : Prop := match b with | true => x | false => y

def clashS (lo tch wrt : List Nat) : List Rec → Prop
  | [] => True
  | d :: D => cases2 (memN d.i lo) (neAll d.wrt tch ∧ neAll wrt d.tch) True ∧ clashS lo tch wrt D
def callS (lo : List Nat) : List Rec → Prop
  | [] => True
  | d :: D => cases2 (memN d.i lo) (d.alloc = true ∨ d.wrt = []) True ∧ callS lo D
def sameAt (σ σ' : Heap) : List Nat → Prop
  | [] => True
  | l :: r => σ'.get l = σ.get l ∧ sameAt σ σ' r
def keptS (lo : List Nat) (σ σ' : Heap) : List Rec → Prop
  | [] => True
  | d :: D => cases2 (memN d.i lo) (cases2 d.alloc True (sameAt σ σ' d.tch)) True ∧ keptS lo σ σ' D

theorem sameAt_spec {σ σ' : Heap} : ∀ {r : List Nat}, sameAt σ σ' r → ∀ l ∈ r, σ'.get l = σ.get l
  | [], _, l, hl => by cases hl
  | x :: r, h, l, hl => by
    rcases List.mem_cons.1 hl with rfl | hl
    · exact h.1
    · exact sameAt_spec h.2 l hl

def touchK (o : Oper) (i : Nat) (lo : List Nat) (D : List Rec) (tch wrt : List Nat) (k : List Rec → Prop) : Prop :=
  match touches o with
  | false => cbind (tch = [] ∧ wrt = []) (k D)
  | true => cbind (if kindOf o = 2 then True else clashS lo tch wrt D) (k (⟨i, tch, wrt, kindOf o == 2⟩ :: D))

def stepS (E : Env) (a : Act) (σ : Heap) (nm i : Nat) (lo : List Nat) (D : List Rec) (o : Oper) (k : List Rec → Act → Heap → Prop) : Prop :=
  match o.op with
  | .call c => obind (aCall E (aeval a) c o.type) fun x => match x with
    | .prim p => obind (p.run σ nm) fun eff => cbind (wrOk p eff = true) (touchK o i lo D (tchOf p eff nm) (wrtOf eff nm) fun D => k D (a.put o.dst eff.val) (σ.app nm eff))
    | .call f args => cbind (callS lo D) (ACall E.P f args σ fun v τ => cbind (keptS lo σ τ D) (k D (a.put o.dst v) τ))
    | .defer _ _ _ => False
  | .defer _ => False
  | _ => stepK E a σ nm o fun a σ tch wrt => touchK o i lo D tch wrt fun D => k D a σ

def runS (E : Env) (ops : Array Oper) (base : Nat) : List (Nat × List Nat) → List Rec → Act → Heap → (Act → Heap → Prop) → Prop
  | [], _, a, σ, K => K a σ
  | (i, lo) :: L, D, a, σ, K => obind ops[i]? fun o =>
    match o.guard with
    | none => stepS E a σ (base + i) i lo D o fun D a σ => runS E ops base L D a σ K
    | some (j, b) => obind (gdst ops j) fun d => obind (aeval a (.tmp d)) fun v => obind (asB v) fun t =>
        tbind (t == b) (stepS E a σ (base + i) i lo D o fun D a σ => runS E ops base L D a σ K) (runS E ops base L D (a.put o.dst undef) σ K)

def touchesAt (ops : Array Oper) (j : Nat) : Bool := match ops[j]? with | some o => touches o | none => false

def planOkB (ops : Array Oper) (dep : Dep) : List Nat → List (Nat × List Nat) → Bool
  | _, [] => true
  | pre, (i, lo) :: r => (pre.all fun j => !touchesAt ops j || dep i j || memN j lo) && planOkB ops dep (i :: pre) r

def Slim (ops : Array Oper) (pre : List Nat) (D D' : List Rec) : Prop :=
  ∀ d ∈ D', (d.tch = [] ∧ d.wrt = []) ∨ (d ∈ D ∧ d.i ∈ pre ∧ touchesAt ops d.i = true)

theorem clash_of {ops : Array Oper} {dep : Dep} {pre lo tch wrt : List Nat} {i : Nat} {D D' : List Rec} (hS : Slim ops pre D D') (hp : ∀ j ∈ pre, touchesAt ops j = true → dep i j = true ∨ memN j lo = true) (h : clashS lo tch wrt D) :
    clashFree dep D' i tch wrt := by
  have key : ∀ {D : List Rec}, clashS lo tch wrt D → ∀ d ∈ D, memN d.i lo = true → disj d.wrt tch = true ∧ disj wrt d.tch = true := by
    intro D
    induction D with
    | nil => intro _ d hd; cases hd
    | cons x D ih =>
      intro h d hd hm
      rcases List.mem_cons.1 hd with rfl | hd
      · have := h.1
        rw [hm] at this
        exact ⟨neAll_spec this.1, neAll_spec this.2⟩
      · exact ih h.2 d hd hm
  intro d hd
  rcases hS d hd with ⟨h1, h2⟩ | ⟨h1, h2, h3⟩
  · right
    rw [h1, h2]
    exact ⟨rfl, disj_of fun x _ => by simp⟩
  · rcases hp d.i h2 h3 with h4 | h4
    · exact .inl h4
    · exact .inr (key h d h1 h4)

theorem call_of {ops : Array Oper} {dep : Dep} {pre lo : List Nat} {i : Nat} {D D' : List Rec} (hS : Slim ops pre D D') (hp : ∀ j ∈ pre, touchesAt ops j = true → dep i j = true ∨ memN j lo = true) (h : callS lo D) : callFree dep D' i := by
  have key : ∀ {D : List Rec}, callS lo D → ∀ d ∈ D, memN d.i lo = true → d.alloc = true ∨ d.wrt = [] := by
    intro D
    induction D with
    | nil => intro _ d hd; cases hd
    | cons x D ih =>
      intro h d hd hm
      rcases List.mem_cons.1 hd with rfl | hd
      · have := h.1
        rw [hm] at this
        exact this
      · exact ih h.2 d hd hm
  intro d hd
  rcases hS d hd with ⟨h1, h2⟩ | ⟨h1, h2, h3⟩
  · exact .inr (.inr h2)
  · rcases hp d.i h2 h3 with h4 | h4
    · exact .inl h4
    · exact .inr (key h d h1 h4)

theorem kept_of {ops : Array Oper} {dep : Dep} {pre lo : List Nat} {i : Nat} {D D' : List Rec} {σ σ' : Heap} (hS : Slim ops pre D D') (hp : ∀ j ∈ pre, touchesAt ops j = true → dep i j = true ∨ memN j lo = true) (h : keptS lo σ σ' D) :
    kept dep D' i σ σ' := by
  have key : ∀ {D : List Rec}, keptS lo σ σ' D → ∀ d ∈ D, memN d.i lo = true → d.alloc = true ∨ ∀ l ∈ d.tch, σ'.get l = σ.get l := by
    intro D
    induction D with
    | nil => intro _ d hd; cases hd
    | cons x D ih =>
      intro h d hd hm
      rcases List.mem_cons.1 hd with rfl | hd
      · have := h.1
        rw [hm] at this
        simp only [cases2] at this
        split at this
        · rename_i h; exact .inl h
        · exact .inr (sameAt_spec this)
      · exact ih h.2 d hd hm
  intro d hd
  rcases hS d hd with ⟨h1, h2⟩ | ⟨h1, h2, h3⟩
  · right; right
    intro l hl
    rw [h1] at hl; cases hl
  · rcases hp d.i h2 h3 with h4 | h4
    · exact .inl h4
    · exact .inr (key h d h1 h4)

theorem Slim.grow {ops : Array Oper} {pre : List Nat} {D D' : List Rec} {i : Nat} (h : Slim ops pre D D') : Slim ops (i :: pre) D D' :=
  fun d hd => (h d hd).imp id fun ⟨a, b, c⟩ => ⟨a, List.mem_cons_of_mem _ b, c⟩

theorem touch_ok {o : Oper} {ops : Array Oper} {i : Nat} {lo pre tch wrt : List Nat} {dep : Dep} {D D' : List Rec} {k : List Rec → Prop} (ho : ops[i]? = some o) (hS : Slim ops pre D D')
    (hp : ∀ j ∈ pre, touchesAt ops j = true → dep i j = true ∨ memN j lo = true) (h : touchK o i lo D tch wrt k) :
    (kindOf o = 2 ∨ clashFree dep D' i tch wrt) ∧ ∃ D₁, k D₁ ∧ Slim ops (i :: pre) D₁ (⟨i, tch, wrt, kindOf o == 2⟩ :: D') := by
  unfold touchK at h
  split at h
  · obtain ⟨⟨h1, h2⟩, h3⟩ := h
    refine ⟨.inr ?_, D, h3, ?_⟩
    · intro d _
      right
      rw [h1, h2]
      exact ⟨disj_of fun x _ => by simp, rfl⟩
    · intro d hd
      rcases List.mem_cons.1 hd with rfl | hd
      · exact .inl ⟨h1, h2⟩
      · exact hS.grow d hd
  · rename_i ht
    obtain ⟨h1, h2⟩ := h
    refine ⟨?_, _, h2, ?_⟩
    · by_cases hk : kindOf o = 2
      · exact .inl hk
      · rw [if_neg hk] at h1
        exact .inr (clash_of hS hp h1)
    · intro d hd
      rcases List.mem_cons.1 hd with rfl | hd
      · refine .inr ⟨List.mem_cons_self .., List.mem_cons_self .., ?_⟩
        simp only [touchesAt, ho]; exact ht
      · rcases hS.grow (i := i) d hd with h | ⟨a, b, c⟩
        · exact .inl h
        · exact .inr ⟨List.mem_cons_of_mem _ a, b, c⟩

theorem runS_ok {E : Env} {ops : Array Oper} {base : Nat} {dep : Dep} {K : Act → Heap → Prop} : ∀ (L : List (Nat × List Nat)) (pre : List Nat) (D D' : List Rec) (a : Act) (σ : Heap), planOkB ops dep pre L = true → Slim ops pre D D' →
    runS E ops base L D a σ K → runD E ops base dep (L.map (·.1)) D' a σ K
  | [], _, _, _, _, _, _, _, h => h
  | (i, lo) :: L, pre, D, D', a, σ, hpl, hS, h => by
    simp only [planOkB, Bool.and_eq_true, List.all_eq_true] at hpl
    have hp : ∀ j ∈ pre, touchesAt ops j = true → dep i j = true ∨ memN j lo = true := by
      intro j hj ht
      have := hpl.1 j hj
      rw [ht] at this
      simpa using this
    simp only [runS] at h
    obtain ⟨o, ho, h⟩ := obind_spec h
    have hrest : ∀ {D D' : List Rec} {a : Act} {σ : Heap}, Slim ops (i :: pre) D D' → runS E ops base L D a σ K → runD E ops base dep (L.map (·.1)) D' a σ K := fun hS h => runS_ok L (i :: pre) _ _ _ _ hpl.2 hS h
    have prim : ∀ {p : Prim} {eff : Eff}, Region.wanted o (yielded ops a.tmps) = true → aop E (aeval a) o = some (.prim p) → p.run σ (base + i) = some eff → wrOk p eff = true →
        (touchK o i lo D (tchOf p eff (base + i)) (wrtOf eff (base + i)) fun D => runS E ops base L D (a.put o.dst eff.val) (σ.app (base + i) eff) K) → runD E ops base dep (i :: L.map (·.1)) D' a σ K := by
      intro p eff hw h1 h2 h3 h4
      obtain ⟨h5, D₁, h6, h7⟩ := touch_ok ho hS hp h4
      simp only [runD, ho, if_pos hw, aop_evOf, h1, h2]
      exact ⟨h3, h5, hrest h7 h6⟩
    have step : Region.wanted o (yielded ops a.tmps) = true → (stepS E a σ (base + i) i lo D o fun D a σ => runS E ops base L D a σ K) → runD E ops base dep (i :: L.map (·.1)) D' a σ K := by
      intro hw hs
      have hk : stepG E a σ (base + i) o (fun a σ tch wrt => touchK o i lo D tch wrt fun D => runS E ops base L D a σ K) → runD E ops base dep (i :: L.map (·.1)) D' a σ K := by
        rintro ⟨p, eff, h1, h2, h3, h4⟩
        exact prim hw h1 h2 h3 h4
      obtain ⟨dst, op, ty, pos, af, g⟩ := o
      unfold stepS at hs
      cases op <;> simp only at hs <;> first | exact hk (stepK_ok hs) | skip
      case call c =>
        obtain ⟨x, h1, h⟩ := obind_spec hs
        have hx : aop E (aeval a) ⟨dst, .call c, ty, pos, af, g⟩ = some x := h1
        cases x with
        | prim p =>
          obtain ⟨eff, h2, h3⟩ := obind_spec h
          exact prim hw hx h2 h3.1 h3.2
        | call f args =>
          simp only [runD, ho, if_pos hw, aop_evOf, hx]
          refine ⟨call_of hS hp h.1, h.2.mono fun v τ hv => ⟨kept_of hS hp hv.1, hrest hS.grow hv.2⟩⟩
        | defer f c args => exact h.elim
    show runD E ops base dep (i :: L.map (·.1)) D' a σ K
    split at h
    · rename_i hg
      exact step (by simp [Region.wanted, hg]) h
    · rename_i j b hg
      obtain ⟨d, h1, h⟩ := obind_spec h
      obtain ⟨v, h2, h⟩ := obind_spec h
      obtain ⟨t, h3, h⟩ := obind_spec h
      have hv := asB_spec h3
      subst hv
      have hy : Region.wanted o (yielded ops a.tmps) = (t == b) := by
        simp only [Region.wanted, hg, yielded]
        unfold gdst at h1
        rw [h1]
        simp only [aeval, Option.some.injEq] at h2
        simp only [Option.bind_some]
        rw [Array.getD_eq_getD_getElem?] at h2
        cases hd : a.tmps[d]? with
        | none => rw [hd] at h2; simp [undef] at h2
        | some u =>
          rw [hd] at h2
          simp only [Option.getD_some] at h2
          subst h2
          cases t <;> cases b <;> rfl
      cases hb : (t == b) with
      | true => exact step (by rw [hy, hb]) (h.1 hb)
      | false =>
        simp only [runD, ho]
        rw [if_neg (by rw [hy, hb]; simp)]
        exact hrest hS.grow (h.2 hb)

def drawPlanB (ops : Array Oper) (t : List Nat × List (List Nat)) (pl : List (Nat × List Nat)) : Bool :=
  drawOkB ops t && planOkB ops (depOf t.2) [] pl && (pl.map (·.1) == t.1)

theorem awp_draw_o {E : Env} (hE : EnvOk E) (hm : E.P.follows .mixedOrders = true) {id : Nat} {ops : Array Oper} {Q : AQ} {a : Act} {σ : Heap} {t : List Nat × List (List Nat)} {pl : List (Nat × List Nat)}
    (hp : drawPlanB ops t pl = true) (h : ∀ K : Act → Heap → Prop, (∀ a σ, Q .normal a σ → K a σ) → runS E ops σ.nxt pl [] a (σ.bump ops.size) K) : AWP E.P (.region id ops true) Q a σ := by
  simp only [drawPlanB, Bool.and_eq_true, beq_iff_eq] at hp
  obtain ⟨⟨h1, h2⟩, h3⟩ := hp
  refine awp_draw hE hm (drawOkB_sound h1) ?_
  rw [← h3]
  exact runS_ok pl [] [] [] a _ h2 (fun d hd => by cases hd) (h (Q .normal) fun _ _ h => h)

end Go.Proofs.YtfchjhfccnodpaaGreat
end
