/-
  package log: what a log is in memory; New, Base, Last, Cut (with slices.IndexFunc, slices.DeleteFunc), by contract. No condition.
-/
import Derived.Test.YtehmailaabjdjaaGreatEv
open Go.Proofs
namespace Go.Proofs.YtehmailaabjdjaaGreat
set_option linter.unusedSimpArgs false
set_option linter.unusedVariables false
set_option maxRecDepth 100000

structure Log where
  evs : List Evt
  most : Int
  base : Int
  last : Int

def logC (sl : Value) (L : Log) : AObj := .cells [sl, .int .i64 L.most, .int .i64 L.base, .int .i64 L.last] 0 false

/-- Name l holds a log, its events lie at sl, from b on. -/
structure LogAt (b : Nat) (g : Gm) (l : Nat) (sl : Value) (L : Log) : Prop where
  cell : g l = some (logC sl L)
  evs : EvsOwn b g sl L.evs

def Log.cut (L : Log) (rev : Int) : Log := { L with evs := L.evs.filter fun e => decide (rev < e.rev), base := max L.base (min rev L.last) }

/-- Not a row of bytes. -/
def nb : AObj → Prop
  | .cells _ z _ => z ≠ 1
  | _ => True
/-- A log's own names. -/
def FL (l : Nat) (sl : Value) (x : Nat) (o : AObj) : Prop := (x = l ∨ vname sl = some x) ∧ nb o
def FV (sl : Value) (x : Nat) (o : AObj) : Prop := vname sl = some x ∧ nb o
theorem FL.nob (l : Nat) (sl : Value) : NoB (FL l sl) := fun x cl ro h => h.2 rfl
theorem FV.nob (sl : Value) : NoB (FV sl) := fun x cl ro h => h.2 rfl

section
variable {F : Nat → AObj → Prop} {g g' : Gm} {n n' b l : Nat} {sl : Value} {L : Log}

theorem LogAt.kp (h : LogAt b g l sl L) (hk : Kp F g n g') (hw : WF g n) (hF : ∀ x cl ro, b ≤ x → ¬ F x (.cells cl 1 ro)) (hl : ∀ o, ¬ F l o) (hs : Off F g sl) : LogAt b g' l sl L :=
  ⟨hk.at hw h.cell (hl _), h.evs.kp hk hw hF hs⟩
theorem LogAt.kp0 (h : LogAt b g l sl L) (hk : K0 g n g') (hw : WF g n) : LogAt b g' l sl L := h.kp hk hw (fun _ _ _ _ h => h) (fun _ h => h) (Off.z g sl)
theorem LogAt.up {b' : Nat} (h : LogAt b g l sl L) (hb : b' ≤ b) : LogAt b' g l sl L := ⟨h.cell, h.evs.up hb⟩
theorem EvsOwn.len (h : EvsOwn b g sl L.evs) : ∃ a c, sl = .slice a L.evs.length c := h.rd.len
theorem EvsOwn.lenE {es : List Evt} (h : EvsOwn b g sl es) : ∃ a c, sl = .slice a es.length c := h.rd.len
/-- A log's cell is no row of events. -/
theorem LogAt.ne (h : LogAt b g l sl L) : vname sl ≠ some l := by
  intro e
  obtain ⟨⟨cs, ⟨_, ⟨rfl, _⟩ | ⟨l', o, c, cl, rfl, _, h4, _⟩⟩, _⟩, _⟩ := h.evs
  · cases e
  · simp only [vname, Option.some.injEq] at e
    subst e
    rw [h.cell] at h4; cases h4
theorem EvsOwn.nv {es : List Evt} {x : Nat} {c : List Value} {z : Nat} {ro : Bool} (h : EvsOwn b g sl es) (hx : g x = some (.cells c z ro)) (hz : z ≠ 4) : vname sl ≠ some x := by
  intro e
  obtain ⟨⟨cs, ⟨_, ⟨rfl, _⟩ | ⟨l', o, c, cl, rfl, _, h4, _⟩⟩, _⟩, _⟩ := h
  · cases e
  · simp only [vname, Option.some.injEq] at e
    subst e
    rw [hx] at h4; cases h4; exact hz rfl

theorem log_new (g : Gm) (n : Nat) (m : Int) : C 42 #[.int .i64 m] g n fun u g' n' => ∃ l, u = .pointer (some ⟨l, 0, none⟩) ∧ n ≤ l ∧ LogAt n g' l (.slice none 0 0) ⟨[], min (max m 1) 1000, 0, 0⟩ ∧ K0 g n g' := by
  refine c_in1 Tryz.func42 rfl Tryz.ntmps42 rfl fun hw => ?_
  repeat (first | refine w_seq ?_ | refine w_blk ?_ | refine z_seq ?_ | refine z_blk ?_ | refine w_skip ?_)
  refine w_reg 1 rfl rfl (j' := 1) ?_
  refine n_op .no (q := 0) rfl (s_as rfl ?_)
  refine n_nil ?_
  repeat (first | refine w_seq ?_ | refine w_blk ?_ | refine z_seq ?_ | refine z_blk ?_ | refine w_skip ?_)
  refine w_reg 6 rfl rfl (j' := 7) ?_
  refine n_op .no (q := 1) rfl (s_mv rfl ?_)
  refine n_op .no (q := 2) rfl (s_max rfl rfl rfl ?_)
  refine n_op .no (q := 3) rfl (s_min rfl rfl rfl ?_)
  refine n_op .no (q := 4) rfl (s_bld pl_166 zl_166 rfl rfl rfl ?_)
  refine n_op .no (q := 5) rfl (s_boxa rfl ?_)
  refine n_op .no (q := 6) rfl (s_as rfl ?_)
  refine n_nil ?_
  repeat (first | refine w_ret ?_ | refine w_seq ?_ | refine w_blk ?_ | refine z_seq ?_ | refine z_blk ?_ | refine w_skip ?_)
  refine z_r1 rfl rfl ?_
  exact ⟨_, rfl, by omega, ⟨gs_same _ _ _, ⟨⟨[], SlOwn.nil _ _, rfl⟩, fun l h => by cases h⟩⟩, (by repeat (first | exact Kp.refl _ _ _ | refine Kp.new ?_ (by omega) _))⟩

theorem log_base (h : LogAt b g l sl L) : C 48 #[.pointer (some ⟨l, 0, none⟩)] g n fun u g' n' => u = .int .i64 L.base ∧ K0 g n g' := by
  have hl := h.cell
  refine c_in1 Tryz.func48 rfl Tryz.ntmps48 rfl fun hw => ?_
  repeat (first | refine w_seq ?_ | refine w_blk ?_ | refine z_seq ?_ | refine z_blk ?_ | refine w_skip ?_)
  refine w_reg 1 rfl rfl (j' := 1) ?_
  refine n_op .no (q := 0) rfl (s_as rfl ?_)
  refine n_nil ?_
  repeat (first | refine w_seq ?_ | refine w_blk ?_ | refine z_seq ?_ | refine z_blk ?_ | refine w_skip ?_)
  refine w_reg 2 rfl rfl (j' := 3) ?_
  refine n_op .no (q := 1) rfl (s_mv rfl ?_)
  refine n_op .no (q := 2) rfl (s_bin rfl rfl (bi_d un_78 rfl) ?_)
  refine n_nil ?_
  repeat (first | refine w_seq ?_ | refine w_blk ?_ | refine z_seq ?_ | refine z_blk ?_ | refine w_skip ?_)
  refine w_no rfl (rfl) ?_
  repeat (first | refine w_seq ?_ | refine w_blk ?_ | refine z_seq ?_ | refine z_blk ?_ | refine w_skip ?_)
  refine w_reg 5 rfl rfl (j' := 8) ?_
  refine n_op .no (q := 3) rfl (s_mv rfl ?_)
  refine n_op .no (q := 4) rfl (s_nil rfl ?_)
  first | refine n_op .no (q := 5) rfl (s_fa0 rfl fo_166_2 ?_) | refine n_op .no (q := 5) rfl (s_fa rfl fo_166_2 ?_)
  refine n_op .no (q := 6) rfl (s_ld rfl (by repeat (first | exact gs_same _ _ _ | exact hl | refine (gs_ne (by omega) _).trans ?_)) ag_2 (by first | exact rfl | exact hl) ?_)
  refine n_op .no (q := 7) rfl (s_as rfl ?_)
  refine n_nil ?_
  repeat (first | refine w_ret ?_ | refine w_seq ?_ | refine w_blk ?_ | refine z_seq ?_ | refine z_blk ?_ | refine w_skip ?_)
  refine z_r1 rfl rfl ?_
  exact ⟨rfl, (by repeat (first | exact Kp.refl _ _ _ | refine Kp.new ?_ (by omega) _))⟩

theorem log_last (h : LogAt b g l sl L) : C 54 #[.pointer (some ⟨l, 0, none⟩)] g n fun u g' n' => u = .int .i64 L.last ∧ K0 g n g' := by
  have hl := h.cell
  refine c_in1 Tryz.func54 rfl Tryz.ntmps54 rfl fun hw => ?_
  repeat (first | refine w_seq ?_ | refine w_blk ?_ | refine z_seq ?_ | refine z_blk ?_ | refine w_skip ?_)
  refine w_reg 1 rfl rfl (j' := 1) ?_
  refine n_op .no (q := 0) rfl (s_as rfl ?_)
  refine n_nil ?_
  repeat (first | refine w_seq ?_ | refine w_blk ?_ | refine z_seq ?_ | refine z_blk ?_ | refine w_skip ?_)
  refine w_reg 2 rfl rfl (j' := 3) ?_
  refine n_op .no (q := 1) rfl (s_mv rfl ?_)
  refine n_op .no (q := 2) rfl (s_bin rfl rfl (bi_d un_78 rfl) ?_)
  refine n_nil ?_
  repeat (first | refine w_seq ?_ | refine w_blk ?_ | refine z_seq ?_ | refine z_blk ?_ | refine w_skip ?_)
  refine w_no rfl (rfl) ?_
  repeat (first | refine w_seq ?_ | refine w_blk ?_ | refine z_seq ?_ | refine z_blk ?_ | refine w_skip ?_)
  refine w_reg 5 rfl rfl (j' := 8) ?_
  refine n_op .no (q := 3) rfl (s_mv rfl ?_)
  refine n_op .no (q := 4) rfl (s_nil rfl ?_)
  first | refine n_op .no (q := 5) rfl (s_fa0 rfl fo_166_3 ?_) | refine n_op .no (q := 5) rfl (s_fa rfl fo_166_3 ?_)
  refine n_op .no (q := 6) rfl (s_ld rfl (by repeat (first | exact gs_same _ _ _ | exact hl | refine (gs_ne (by omega) _).trans ?_)) ag_2 (by first | exact rfl | exact hl) ?_)
  refine n_op .no (q := 7) rfl (s_as rfl ?_)
  refine n_nil ?_
  repeat (first | refine w_ret ?_ | refine w_seq ?_ | refine w_blk ?_ | refine z_seq ?_ | refine z_blk ?_ | refine w_skip ?_)
  refine z_r1 rfl rfl ?_
  exact ⟨rfl, (by repeat (first | exact Kp.refl _ _ _ | refine Kp.new ?_ (by omega) _))⟩

theorem cut1_c {e : Evt} {v : Value} {r : Nat} {rev : Int} (hr : g r = some (.cells [.int .i64 rev] 0 false)) :
    C 91 #[.agg (evtC e v).toArray, .pointer (some ⟨r, 0, none⟩)] g n fun u g' n' => u = .bool (decide (e.rev ≤ rev)) ∧ K0 g n g' := by
  refine c_in2 Tryz.func91 rfl Tryz.ntmps91 rfl fun hw => ?_
  have hl := hw _ _ hr
  repeat (first | refine w_seq ?_ | refine w_blk ?_ | refine z_seq ?_ | refine z_blk ?_ | refine w_skip ?_)
  refine w_reg 2 rfl rfl (j' := 2) ?_
  refine n_op .no (q := 0) rfl (s_boxa rfl ?_)
  refine n_op .no (q := 1) rfl (s_as rfl ?_)
  refine n_nil ?_
  repeat (first | refine w_seq ?_ | refine w_blk ?_ | refine z_seq ?_ | refine z_blk ?_ | refine w_skip ?_)
  refine w_reg 5 rfl rfl (j' := 7) ?_
  first | refine n_op .no (q := 2) rfl (s_fa0 rfl fo_82_0 ?_) | refine n_op .no (q := 2) rfl (s_fa rfl fo_82_0 ?_)
  refine n_op .no (q := 3) rfl (s_ld rfl (by repeat (first | exact gs_same _ _ _ | exact hr | refine (gs_ne (by omega) _).trans ?_)) ag_2 (by first | exact rfl | exact hr) ?_)
  refine n_op .no (q := 4) rfl (s_ld rfl (by repeat (first | exact gs_same _ _ _ | exact hr | refine (gs_ne (by omega) _).trans ?_)) ag_2 (by first | exact rfl | exact hr) ?_)
  refine n_op .no (q := 5) rfl (s_bin rfl rfl rfl ?_)
  refine n_op .no (q := 6) rfl (s_as rfl ?_)
  refine n_nil ?_
  repeat (first | refine w_ret ?_ | refine w_seq ?_ | refine w_blk ?_ | refine z_seq ?_ | refine z_blk ?_ | refine w_skip ?_)
  refine z_r1 rfl rfl ?_
  exact ⟨rfl, (by repeat (first | exact Kp.refl _ _ _ | refine Kp.new ?_ (by omega) _))⟩
end

def idxI (p : Evt → Bool) : List Evt → Nat → Int
  | [], _ => -1
  | e :: es, i => if p e then i else idxI p es (i + 1)

theorem idxF_c {g : Gm} {n : Nat} {sl : Value} {es : List Evt} {r : Nat} {rev : Int} (h : EvsRd g sl es) (hr : g r = some (.cells [.int .i64 rev] 0 false)) (hn : es.length ≤ 2 ^ 40) :
    C 112 #[sl, .func (.func 91) #[] #[.pointer (some ⟨r, 0, none⟩)]] g n fun u g' n' => u = .int .i64 (idxI (fun e => decide (e.rev ≤ rev)) es 0) ∧ K0 g n g' := by
  obtain ⟨a, c, rfl⟩ := h.len
  refine c_in2 Tryz.func112 rfl Tryz.ntmps112 rfl fun hw => ?_
  have hl := hw _ _ hr
  repeat (first | refine w_seq ?_ | refine w_blk ?_ | refine z_seq ?_ | refine z_blk ?_ | refine w_skip ?_)
  refine w_reg 1 rfl rfl (j' := 1) ?_
  refine n_op .no (q := 0) rfl (s_as rfl ?_)
  refine n_nil ?_
  repeat (first | refine w_seq ?_ | refine w_blk ?_ | refine z_seq ?_ | refine z_blk ?_ | refine w_skip ?_)
  refine w_reg 3 rfl rfl (j' := 4) ?_
  refine n_op .no (q := 1) rfl (s_mv rfl ?_)
  refine n_op .no (q := 2) rfl (s_len rfl rfl un_65 rfl ?_)
  refine n_op .no (q := 3) rfl (s_mv rfl ?_)
  refine n_nil ?_
  repeat (first | refine w_seq ?_ | refine w_blk ?_ | refine z_seq ?_ | refine z_blk ?_ | refine w_skip ?_)
  refine w_loop (β := Nat) (fun i => [(0, .slice a es.length c), (1, .func (.func 91) #[] #[.pointer (some ⟨r, 0, none⟩)]), (7, .int .i64 es.length), (8, .int .i64 i)])
    (fun i g' n' => i ≤ es.length ∧ n ≤ n' ∧ K0 g n g' ∧ idxI (fun e => decide (e.rev ≤ rev)) es 0 = idxI (fun e => decide (e.rev ≤ rev)) (es.drop i) i) (fun i => es.length - i) 0 ⟨rfl, rfl, rfl, rfl, trivial⟩ ⟨by omega, by omega, (by repeat (first | exact Kp.refl _ _ _ | refine Kp.new ?_ (by omega) _)), rfl⟩ ?_
  rintro i f g1 n1 hw1 ⟨hi, hn1, k1, hx⟩
  repeat (first | refine w_seq ?_ | refine w_blk ?_ | refine z_seq ?_ | refine z_blk ?_ | refine w_skip ?_)
  refine w_reg 1 rfl rfl (j' := 1) ?_
  refine n_op .no (q := 0) rfl (s_bin rfl rfl rfl ?_)
  refine n_nil ?_
  repeat (first | refine w_seq ?_ | refine w_blk ?_ | refine z_seq ?_ | refine z_blk ?_ | refine w_skip ?_)
  refine w_if rfl (fun hb => ?_) (fun hb => ?_)
  · have hi : i < es.length := by simpa using hb
    obtain ⟨l, o, c', cl, ro, p, q, e1, hc', e2, e3⟩ := (h.kp0 k1 hw).at hi
    cases e1
    have c0 := e3.len
    have c1 := e3.all
    repeat (first | refine w_seq ?_ | refine w_blk ?_ | refine z_seq ?_ | refine z_blk ?_ | refine w_skip ?_)
    refine w_reg 2 rfl rfl (j' := 3) ?_
    refine n_op .no (q := 1) rfl (s_mv rfl ?_)
    refine n_op .no (q := 2) rfl (s_as rfl ?_)
    refine n_nil ?_
    repeat (first | refine w_seq ?_ | refine w_blk ?_ | refine z_seq ?_ | refine z_blk ?_ | refine w_skip ?_)
    refine w_reg 6 rfl rfl (j' := 9) ?_
    refine n_op .no (q := 3) rfl (s_mv rfl ?_)
    refine n_op .no (q := 4) rfl (s_mv rfl ?_)
    refine n_op .no (q := 5) rfl (s_mv rfl ?_)
    refine n_op .no (q := 6) rfl (s_ia rfl rfl el_65 (by first | assumption | omega) ?_)
    refine n_op .no (q := 7) rfl (s_lda rfl (by repeat (first | exact gs_same _ _ _ | exact e2 | exact c1 | refine (gs_ne (by omega) _).trans ?_)) ag_82 sz_82 (by first | exact Nat.le_of_ble_eq_true rfl | assumption | omega) (by first | exact e2 | exact c1 | exact rfl) ?_)
    refine n_callv .no rfl rfl rfl rfl rfl rfl ?_
    refine C.use (cut1_c (e := es[i]) (rev := rev) (r := r) (by first | exact (gs_ne (by omega) _).trans (k1.lt hl hr) | exact k1.lt hl hr)) fun v g2 n2 hw2 hn2 hq => ?_
    obtain ⟨rfl, k2⟩ := hq
    refine n_nil ?_
    have k3 : K0 g n g2 := k1.trans0 k2 (by omega)
    have e0 := List.drop_eq_getElem_cons hi
    repeat (first | refine w_seq ?_ | refine w_blk ?_ | refine z_seq ?_ | refine z_blk ?_ | refine w_skip ?_)
    refine w_if rfl (fun hd => ?_) (fun hd => ?_)
    · repeat (first | refine w_seq ?_ | refine w_blk ?_ | refine z_seq ?_ | refine z_blk ?_ | refine w_skip ?_)
      refine w_reg 2 rfl rfl (j' := 2) ?_
      refine n_op .no (q := 0) rfl (s_mv rfl ?_)
      refine n_op .no (q := 1) rfl (s_as rfl ?_)
      refine n_nil ?_
      repeat (first | refine w_ret ?_ | refine w_seq ?_ | refine w_blk ?_ | refine z_seq ?_ | refine z_blk ?_ | refine w_skip ?_)
      refine z_r1 rfl rfl ?_
      refine ⟨?_, k3⟩
      rw [hx, e0]
      simp only [idxI, hd, if_true]
    · repeat (first | refine w_seq ?_ | refine w_blk ?_ | refine z_seq ?_ | refine z_blk ?_ | refine w_skip ?_)
      repeat (first | refine w_seq ?_ | refine w_blk ?_ | refine z_seq ?_ | refine z_blk ?_ | refine w_skip ?_)
      refine w_reg 2 rfl rfl (j' := 2) ?_
      first | refine n_op .no (q := 0) rfl (s_bin rfl rfl (bi_inc (by omega)) ?_) | refine n_op .no (q := 0) rfl (s_bin rfl rfl (bi_add rfl (by omega) (by omega)) ?_)
      refine n_op .no (q := 1) rfl (s_mv rfl ?_)
      refine n_nil ?_
      refine z_round (i + 1) ⟨rfl, rfl, rfl, rfl, trivial⟩ ⟨by omega, by omega, k3, ?_⟩ (by omega)
      rw [hx, e0]
      simp only [idxI, hd, Bool.false_eq_true, if_false]
  · refine w_exit rfl ?_
    repeat (first | refine w_seq ?_ | refine w_blk ?_ | refine z_seq ?_ | refine z_blk ?_ | refine w_skip ?_)
    refine w_reg 1 rfl rfl (j' := 2) ?_
    refine n_op .no (q := 1) rfl (s_as rfl ?_)
    refine n_nil ?_
    repeat (first | refine w_ret ?_ | refine w_seq ?_ | refine w_blk ?_ | refine z_seq ?_ | refine z_blk ?_ | refine w_skip ?_)
    refine z_r1 rfl rfl ?_
    have : i = es.length := by simp at hb; omega
    subst this
    refine ⟨?_, k1⟩
    rw [hx, List.drop_length]
    simp [idxI]

end Go.Proofs.YtehmailaabjdjaaGreat
