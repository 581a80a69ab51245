/-
  plain laws of a log: whoever asks from where it ended. No condition.
-/
import Derived.Test.YtehmailaabjdjaaGreatLwB
open Go.Proofs
namespace Go.Proofs.YtehmailaabjdjaaGreat
set_option linter.unusedSimpArgs false
set_option linter.unusedVariables false

def after (r : Int) (es : List Evt) : List Evt := es.filter fun e => decide (r < e.rev)
def upTo (r : Int) (es : List Evt) : List Evt := es.filter fun e => decide (e.rev ≤ r)
def Asc (es : List Evt) : Prop := es.Pairwise fun a b => a.rev ≤ b.rev

theorem after_after {a b : Int} (es : List Evt) (h : a ≤ b) : after b (after a es) = after b es := by
  unfold after
  rw [List.filter_filter]
  refine List.filter_congr fun e _ => ?_
  by_cases h1 : b < e.rev
  · have : a < e.rev := by omega
    simp [h1, this]
  · simp [h1]
theorem split_asc : ∀ {es : List Evt} {r : Int}, Asc es → upTo r es ++ after r es = es
  | [], r, _ => rfl
  | e :: es, r, h => by
    have h' := List.pairwise_cons.1 h
    by_cases he : e.rev ≤ r
    · have : upTo r (e :: es) = e :: upTo r es := List.filter_cons_of_pos (by simpa using he)
      have h2 : after r (e :: es) = after r es := List.filter_cons_of_neg (by simp; omega)
      rw [this, h2, List.cons_append, split_asc h'.2]
    · have h1 : upTo r (e :: es) = [] := by
        unfold upTo
        rw [List.filter_eq_nil_iff]
        intro x hx
        rcases List.mem_cons.1 hx with rfl | hx
        · simp; omega
        · have := h'.1 x hx; simp; omega
      have h2 : after r (e :: es) = e :: es := by
        unfold after
        rw [List.filter_eq_self]
        intro x hx
        rcases List.mem_cons.1 hx with rfl | hx
        · simp; omega
        · have := h'.1 x hx; simp; omega
      rw [h1, h2, List.nil_append]
theorem upTo_all {es : List Evt} {r : Int} (h : ∀ e ∈ es, e.rev ≤ r) : upTo r es = es := by
  unfold upTo
  rw [List.filter_eq_self]
  intro e he
  simpa using h e he
theorem upTo_none {es : List Evt} {r : Int} (h : ∀ e ∈ es, r < e.rev) : upTo r es = [] := by
  unfold upTo
  rw [List.filter_eq_nil_iff]
  intro e he
  have := h e he
  simp; omega
theorem after_all {es : List Evt} {r : Int} (h : ∀ e ∈ es, r < e.rev) : after r es = es := by
  unfold after
  rw [List.filter_eq_self]
  intro e he
  simpa using h e he

/-- A log that holds what came behind its base. -/
structure LogI (L : Log) (all : List Evt) : Prop where
  evs : L.evs = after L.base all
  asc : Asc all
  top : ∀ e ∈ all, e.rev ≤ L.last
  base : 0 ≤ L.base ∧ L.base ≤ L.last

theorem LogI.cut {L : Log} {all : List Evt} {r : Int} (h : LogI L all) (h1 : L.base ≤ r) (h2 : r ≤ L.last) : LogI (L.cut r) all := by
  have hb := h.base
  have e : max L.base (min r L.last) = r := by omega
  refine ⟨?_, h.asc, h.top, ?_⟩
  · show L.evs.filter _ = after (max L.base (min r L.last)) all
    rw [e, h.evs, ← after_after all h1]
    rfl
  · show 0 ≤ max L.base (min r L.last) ∧ max L.base (min r L.last) ≤ L.last
    omega

theorem LogI.trim {all : List Evt} : ∀ {k : Nat} {L : Log}, LogI L all → LogI (Log.trim k L) all ∧ (Log.trim k L).last = L.last ∧ (Log.trim k L).most = L.most
  | 0, L, h => ⟨h, rfl, rfl⟩
  | k + 1, L, h => by
    unfold Log.trim
    split
    · split
      · exact ⟨h, rfl, rfl⟩
      · rename_i e r he
        have hm : e ∈ after L.base all := by rw [← h.evs, he]; exact List.mem_cons_self ..
        have h1 := (List.mem_filter.1 hm)
        have h2 : L.base < e.rev := by simpa using h1.2
        obtain ⟨a, b, c⟩ := LogI.trim (k := k) (h.cut (by omega) (h.top e h1.1))
        exact ⟨a, b, c⟩
    · exact ⟨h, rfl, rfl⟩

theorem LogI.add {L : Log} {all es : List Evt} {r : Int} (h : LogI L all) (hne : es ≠ []) (hr : ∀ e ∈ es, e.rev = r) (hl : L.last < r) : LogI (L.add es) (all ++ es) ∧ (L.add es).last = r ∧ (L.add es).most = L.most := by
  have hlast : (L.put es).last = r := lastRev_const hne hr
  have hp : LogI (L.put es) (all ++ es) := by
    have hb := h.base
    refine ⟨?_, ?_, ?_, ?_⟩
    · show L.evs ++ es = after L.base (all ++ es)
      unfold after
      rw [List.filter_append, h.evs]
      congr 1
      exact (after_all fun e he => by rw [hr e he]; omega).symm
    · refine List.pairwise_append.2 ⟨h.asc, ?_, fun a ha b hb => ?_⟩
      · exact List.pairwise_of_forall_mem_list fun a ha b hb => by rw [hr a ha, hr b hb]; exact Int.le_refl _
      · have := h.top a ha
        rw [hr b hb]; omega
    · intro e he
      rw [hlast]
      rcases List.mem_append.1 he with he | he
      · have := h.top e he; omega
      · rw [hr e he]; exact Int.le_refl _
    · rw [hlast]
      show 0 ≤ L.base ∧ L.base ≤ r
      omega
  obtain ⟨a, b, c⟩ := hp.trim (k := L.evs.length + es.length)
  exact ⟨a, b.trans hlast, c⟩

theorem LogI.from_ {L : Log} {all : List Evt} {r : Int} (h : LogI L all) (hl : r ≤ L.last) : L.from_ r = if r < L.base then ([], 7) else (after r all, 0) := by
  unfold Log.from_
  split
  · rfl
  · rw [if_neg (by omega), h.evs]
    congr 1
    exact after_after all (by omega)

theorem LogI.len {L : Log} {all : List Evt} (h : LogI L all) : L.evs.length ≤ all.length := by
  rw [h.evs]; exact List.length_filter_le _ _

theorem may_const {L : Log} {es : List Evt} {r : Int} (hne : es ≠ []) (hr : ∀ e ∈ es, e.rev = r) (hl : L.last < r) : L.may es := by
  cases es with
  | nil => exact absurd rfl hne
  | cons e es => exact ⟨⟨e, es, rfl, by rw [hr e (List.mem_cons_self ..)]; exact hl⟩, sorted_const hr⟩

/-- Events of one revision, each of one byte. -/
def bat (r : Int) (b : UInt8) (m : Nat) : List Evt := (List.range m).map fun k => ⟨r, [UInt8.ofNat (97 + k)], [b], false⟩
theorem bat_len (r : Int) (b : UInt8) (m : Nat) : (bat r b m).length = m := by simp [bat]
theorem bat_rev {r : Int} {b : UInt8} {m : Nat} : ∀ e ∈ bat r b m, e.rev = r := by
  intro e he
  simp only [bat, List.mem_map] at he
  obtain ⟨k, _, rfl⟩ := he
  rfl
theorem bat_succ (r : Int) (b : UInt8) (m : Nat) : bat r b (m + 1) = bat r b m ++ [⟨r, [UInt8.ofNat (97 + m)], [b], false⟩] := by
  simp [bat, List.range_succ]

theorem evs_plain {B : Value → List UInt8 → Prop} : ∀ {es : List Evt} {cs : List Value}, Rows 4 (EvC B) cs es → plainL oneCell cs = true
  | [], cs, h => by cases h; rfl
  | e :: es, cs, h => by
    obtain ⟨c, d, rfl, _, ⟨a, p, rfl, _⟩, h3⟩ := h
    have := evs_plain h3
    simp only [evtC, List.cons_append, List.nil_append, plainL, oneCell, Bool.true_and]
    exact this

/-! ### Rows that are hidden, and what is seen beside them -/

theorem Kp.toHid {g : Gm} {n : Nat} {p : Nat → Prop} (h : ∀ x o, p x → g x = some o → nb o) : Kp (fun x o => p x ∧ nb o) g n (hid g p) :=
  fun x o _ ho hf => hid_some.2 ⟨fun hx => hf ⟨hx, h x o hx ho⟩, ho⟩
theorem EvsRd.toHid {g : Gm} {n : Nat} {p : Nat → Prop} {v : Value} {es : List Evt} (h : EvsRd g v es) (hw : WF g n) (hp : ∀ x o, p x → g x = some o → nb o) (hv : ∀ x, vname v = some x → ¬ p x) : EvsRd (hid g p) v es :=
  h.kp (Kp.toHid hp) hw (fun x cl ro k => k.2 rfl) fun x o hx _ k => hv x hx k.1

theorem SlC.sub {g g' : Gm} {k n : Nat} {v : Value} {cs : List Value} (h : SlC g k v n cs) (hs : ∀ l o, g l = some o → g' l = some o) : SlC g' k v n cs := by
  obtain ⟨h1, h2 | h2 | ⟨l, o, c, h2, h3, h4 | ⟨cl, ro, h4, h5, h6⟩⟩⟩ := h
  · exact ⟨h1, .inl h2⟩
  · exact ⟨h1, .inr (.inl h2)⟩
  · exact ⟨h1, .inr (.inr ⟨l, o, c, h2, h3, .inl h4⟩)⟩
  · exact ⟨h1, .inr (.inr ⟨l, o, c, h2, h3, .inr ⟨cl, ro, hs _ _ h4, h5, h6⟩⟩)⟩
theorem EvsRd.sub {g g' : Gm} {v : Value} {es : List Evt} (h : EvsRd g v es) (hs : ∀ l o, g l = some o → g' l = some o) : EvsRd g' v es := by
  obtain ⟨cs, h1, h2⟩ := h
  exact ⟨cs, h1.sub hs, h2.mono fun c x _ hx => hx.mono fun _ _ k => SlC.sub k hs⟩
theorem EvsRd.ofHid {g : Gm} {p : Nat → Prop} {v : Value} {es : List Evt} (h : EvsRd (hid g p) v es) : EvsRd g v es := h.sub fun l o hl => (hid_some.1 hl).2

end Go.Proofs.YtehmailaabjdjaaGreat
