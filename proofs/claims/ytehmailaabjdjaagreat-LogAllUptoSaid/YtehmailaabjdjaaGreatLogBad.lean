/-
  LogBad answers true where the bytes that came in are not too long. No condition but that begun does.
-/
import Derived.Test.YtehmailaabjdjaaGreatLogQ
import Derived.Test.YtehmailaabjdjaaGreatEqs
open Go.Proofs
namespace Go.Proofs.YtehmailaabjdjaaGreat
set_option linter.unusedSimpArgs false
set_option linter.unusedVariables false
set_option maxRecDepth 100000

/-- What a call may have beside it. -/
def callB (lo : List Nat) : List Rec → Bool
  | [] => true
  | d :: D => (match memN d.i lo with
    | true => d.alloc || (match d.wrt with
      | [] => true
      | _ :: _ => false)
    | false => true) && callB lo D
theorem call_b {lo : List Nat} : ∀ {D : List Rec}, callB lo D = true → callS lo D
  | [], _ => trivial
  | d :: D, h => by
    simp only [callB, Bool.and_eq_true] at h
    refine ⟨?_, call_b h.2⟩
    have h1 := h.1
    cases hm : memN d.i lo with
    | false => exact trivial
    | true =>
      rw [hm] at h1
      simp only [Bool.or_eq_true] at h1
      show d.alloc = true ∨ d.wrt = []
      rcases h1 with h1 | h1
      · exact .inl h1
      · right
        split at h1
        · assumption
        · cases h1

section
variable {N : Nat} {f : Nat → Value} {s : Sls} {g : Gm} {n nm : Nat} {k : Sls → Gm → List Nat → List Nat → Prop} {d : Tmp} {ty : TypeId} {pos : String} {af : Array Edge} {gd : Option (Nat × Bool)}
/-- es[:j] -/
theorem s_hiE {x hi : Operand} {v : Value} {es : List Evt} {j : Nat} (hx : ov N s x = some v) (hb : EvsRd g v es) (hj : ov N s hi = some (.int .i64 (j : Int))) (hjl : j ≤ es.length)
    (h : ∀ w, EvsRd g w (es.take j) → (∀ x, vname w = some x → vname v = some x) → k ((d, w) :: s) g [] []) : ST N f s g n nm ⟨some d, .slice 65 x none (some hi) none, ty, pos, af, gd⟩ k := by
  obtain ⟨cs, ⟨h1, ⟨rfl, h2⟩ | ⟨rfl, h2⟩ | ⟨l, o, c, rfl, h3, h4⟩⟩, hR⟩ := hb
  · have : es = [] := List.eq_nil_of_length_eq_zero h2
    subst this
    have : j = 0 := by simpa using hjl
    subst this
    exact s_slh0 un_65 sz_82 hx hj (h _ ⟨[], SlC.nil _ _, rfl⟩ fun x hx => hx)
  · have : es = [] := List.eq_nil_of_length_eq_zero h2
    subst this
    have : j = 0 := by simpa using hjl
    subst this
    exact s_slhE un_65 sz_82 hx hj (h _ ⟨[], ⟨rfl, .inr (.inl ⟨rfl, rfl⟩)⟩, rfl⟩ fun x hx => hx)
  · have hl : (es.take j).length = j := by rw [List.length_take]; omega
    refine s_slh un_65 sz_82 hx hj (by omega) (h _ ⟨cs.take (j * 4), ⟨by rw [List.length_take, hl]; omega, .inr (.inr ⟨l, o, c, by rw [hl], by omega, ?_⟩)⟩, hR.take j⟩ fun x hx => hx)
    rw [hl]
    rcases h4 with h4 | ⟨cl, ro, h4, h5, h6⟩
    · left; omega
    · refine .inr ⟨cl, ro, h4, by omega, ?_⟩
      rw [← h6, List.take_take, Nat.min_eq_left (by omega)]
end

theorem add_small {L : Log} {es : List Evt} (h : ((L.evs.length + es.length : Nat) : Int) ≤ L.most) : L.add es = L.put es := by
  refine Log.trim_done ?_
  show ¬ L.most < ((L.evs ++ es).length : Int)
  rw [List.length_append]; omega

structure BadI (L : Log) (last : Int) (i : Nat) : Prop where
  base : L.base = 0
  most : L.most = 50
  lst : L.last = last
  nn : 0 ≤ last
  len : L.evs.length ≤ i
  pos : ∀ e ∈ L.evs, 0 < e.rev

theorem BadI.from_ {L : Log} {last : Int} {i : Nat} (h : BadI L last i) : L.from_ 0 = (L.evs, 0) := by
  have h1 := h.base
  have h2 := h.lst
  have h3 := h.nn
  rw [Log.from_, if_neg (by omega), if_neg (by omega)]
  congr 1
  rw [List.filter_eq_self]
  intro e he
  have := h.pos e he
  simpa using this

def kE (z : Int) : Evt := ⟨z, [107], [], false⟩

theorem BadI.add {L : Log} {last z : Int} {i : Nat} (h : BadI L last i) (hi : i < 20) (hz : last < z) : BadI (L.add [kE z]) z (i + 1) := by
  have h1 := h.most
  have h2 := h.len
  have h3 := h.nn
  rw [add_small (by simp only [List.length_singleton]; omega)]
  refine ⟨h.base, h.most, rfl, by omega, ?_, fun e he => ?_⟩
  · show (L.evs ++ [kE z]).length ≤ i + 1
    rw [List.length_append, List.length_singleton]; omega
  · rcases List.mem_append.1 he with he | he
    · exact h.pos e he
    · simp only [List.mem_singleton] at he
      subst he
      show 0 < z
      omega

theorem sorted_ge {es : List Evt} (h : SortedE es) : ∀ (i : Nat) (hi : i < es.length), (es[0]'(by omega)).rev ≤ es[i].rev
  | 0, hi => Int.le_refl _
  | i + 1, hi => Int.le_trans (sorted_ge h i (by omega)) (h i hi)

theorem may_from {L : Log} {last : Int} {i : Nat} {fs : List Evt} (h : BadI L last i) (hi : i ≤ 20) (hf : fs.length ≤ 6) (hm : L.may fs) : (L.add fs).base = 0 ∧ (L.add fs).evs = L.evs ++ fs ∧ (L.add fs).from_ 0 = (L.evs ++ fs, 0) := by
  have h1 := h.most
  have h2 := h.len
  have h3 := h.nn
  have h4 := h.lst
  have h5 := h.base
  rw [add_small (by omega)]
  refine ⟨h.base, rfl, ?_⟩
  obtain ⟨⟨e, r, rfl, hlt⟩, hs⟩ := hm
  have hge : ∀ x ∈ e :: r, 0 < x.rev := fun x hx => by
    obtain ⟨j, hj, rfl⟩ := List.mem_iff_getElem.1 hx
    have := sorted_ge hs j hj
    simp only [List.getElem_cons_zero] at this
    omega
  have hl : 0 < (L.put (e :: r)).last := by
    show 0 < lastRev (e :: r)
    rw [lastRev_eq (by simp)]
    exact hge _ (List.getElem_mem _)
  have hb : (L.put (e :: r)).base = 0 := h.base
  rw [Log.from_, if_neg (by omega), if_neg (by omega)]
  congr 1
  show (L.evs ++ (e :: r)).filter _ = _
  rw [List.filter_eq_self]
  intro x hx
  rcases List.mem_append.1 hx with hx | hx
  · simpa using h.pos x hx
  · simpa using hge x hx

theorem logBad_c (hB : BegunOk) {g : Gm} {n : Nat} {v w : Value} {xs : List Int} {es : List Evt} (h : IntsAt g v xs) (h' : EvsRd g w es) (hlen : es.length < 2 ^ 60) : C 15 #[v, w] g n fun u g' n' => u = .bool true := by
  obtain ⟨a, c, rfl⟩ := h.len
  obtain ⟨a', c', rfl⟩ := h'.len
  refine c_in2 Tryz.func15 rfl Tryz.ntmps15 rfl fun hw => ?_
  repeat (first | refine w_seq ?_ | refine w_blk ?_ | refine z_seq ?_ | refine z_blk ?_ | refine w_skip ?_)
  refine w_reg 1 rfl rfl (j' := 1) ?_
  refine n_op .no (q := 0) rfl (s_as rfl ?_)
  refine n_nil ?_
  repeat (first | refine w_seq ?_ | refine w_blk ?_ | refine z_seq ?_ | refine z_blk ?_ | refine w_skip ?_)
  refine w_reg 2 rfl rfl (j' := 3) ?_
  refine n_call .no rfl rfl rfl ?_
  refine C.use (hB _ _) fun v g1 n1 hw1 hn1 hq => ?_
  obtain ⟨rfl, rfl⟩ := hq
  refine n_op .no (q := 2) rfl (s_as rfl ?_)
  refine n_nil ?_
  repeat (first | refine w_seq ?_ | refine w_blk ?_ | refine z_seq ?_ | refine z_blk ?_ | refine w_skip ?_)
  refine w_reg 2 rfl rfl (j' := 2) ?_
  refine n_op .no (q := 0) rfl (s_mv rfl ?_)
  refine n_op .no (q := 1) rfl (s_not rfl ?_)
  refine n_nil ?_
  repeat (first | refine w_seq ?_ | refine w_blk ?_ | refine z_seq ?_ | refine z_blk ?_ | refine w_skip ?_)
  refine w_no rfl (rfl) ?_
  have h1 : IntsAt g1 (.slice a xs.length c) xs := h
  have h1' : EvsRd g1 (.slice a' es.length c') es := h'
  repeat (first | refine w_seq ?_ | refine w_blk ?_ | refine z_seq ?_ | refine z_blk ?_ | refine w_skip ?_)
  refine w_reg 2 rfl rfl (j' := 4) ?_
  refine n_call .no rfl rfl rfl ?_
  refine C.use (log_new g1 _ 50) fun v g2 n2 hw2 hn2 hq => ?_
  obtain ⟨l, rfl, hl, hA, k2⟩ := hq
  refine n_op .no (q := 3) rfl (s_as rfl ?_)
  refine n_nil ?_
  repeat (first | refine w_seq ?_ | refine w_blk ?_ | refine z_seq ?_ | refine z_blk ?_ | refine w_skip ?_)
  refine w_reg 1 rfl rfl (j' := 1) ?_
  refine n_op .no (q := 0) rfl (s_as rfl ?_)
  refine n_nil ?_
  repeat (first | refine w_seq ?_ | refine w_blk ?_ | refine z_seq ?_ | refine z_blk ?_ | refine w_skip ?_)
  refine w_reg 1 rfl rfl (j' := 2) ?_
  refine n_op .no (q := 1) rfl (s_as rfl ?_)
  refine n_nil ?_
  refine z_seq ?_
  refine z_meet (β := Nat × Int) (fun x => [(1, .slice a' es.length c'), (6, .pointer (some ⟨l, 0, none⟩)), (7, .int .i64 x.2)])
    (fun x g' n' => n1 ≤ n' ∧ K0 g1 n1 g' ∧ ∃ L sl, LogAt n1 g' l sl L ∧ BadI L x.2 x.1 ∧ x.1 ≤ 20) ?_ ?_
  · repeat (first | refine w_seq ?_ | refine w_blk ?_ | refine z_seq ?_ | refine z_blk ?_ | refine w_skip ?_)
    refine w_loop (β := Nat × Int) (fun x => [(0, .slice a xs.length c), (1, .slice a' es.length c'), (6, .pointer (some ⟨l, 0, none⟩)), (7, .int .i64 x.2), (8, .int .i64 (x.1 : Int))])
      (fun x g' n' => n1 ≤ n' ∧ K0 g1 n1 g' ∧ ∃ L sl, LogAt n1 g' l sl L ∧ BadI L x.2 x.1 ∧ x.1 ≤ 20) (fun x => 20 - x.1) (0, 0) ⟨rfl, rfl, rfl, rfl, rfl, trivial⟩
      ⟨by omega, k2.dn (by omega), _, _, (LogAt.up (hA.kp0 (n := n2) (Kp.refl _ _ _) hw2) (by omega)), ⟨rfl, rfl, rfl, Int.le_refl _, Nat.le_refl _, (fun e he => by cases he)⟩, by omega⟩ ?_
    rintro ⟨i, last⟩ f g3 n3 hw3 ⟨hn3, k3, L, sl, hA3, hb, hi20⟩
    simp only at hb hi20
    by_cases c1 : i < xs.length
    · by_cases c2 : i < 20
      · repeat (first | refine w_seq ?_ | refine w_blk ?_ | refine z_seq ?_ | refine z_blk ?_ | refine w_skip ?_)
        refine w_reg 8 rfl rfl (j' := 8) ?_
        refine n_op .no (q := 0) rfl (s_mv rfl ?_)
        refine n_op .no (q := 1) rfl (s_mv rfl ?_)
        refine n_op .no (q := 2) rfl (s_len rfl rfl un_91 rfl ?_)
        refine n_op .no (q := 3) rfl (s_bin rfl rfl rfl ?_)
        refine n_op .no (q := 4) rfl (s_mv rfl ?_)
        refine n_op (.yes rfl rfl (decide_eq_true (by omega))) (q := 5) rfl (s_mv rfl ?_)
        refine n_op (.yes rfl rfl (decide_eq_true (by omega))) (q := 6) rfl (s_bin rfl rfl rfl ?_)
        refine n_op .no (q := 7) rfl (s_pt rfl (decide_eq_true (by omega)) rfl ?_)
        refine n_nil ?_
        repeat (first | refine w_seq ?_ | refine w_blk ?_ | refine z_seq ?_ | refine z_blk ?_ | refine w_skip ?_)
        refine w_yes rfl (decide_eq_true (by omega)) ?_
        obtain ⟨lx, ox, cx, clx, rox, q1, q2, q3⟩ := (h1.kp0 (k3.dn (by omega)) hw1).at c1
        obtain ⟨z, hz⟩ : ∃ z, xs[i]'c1 = z := ⟨_, rfl⟩
        rw [hz] at q3
        clear hz
        cases q1
        have hlx := hw3 _ _ q2
        have hev := hA3.evs
        have hcell := hA3.cell
        have hll := hw3 _ _ hcell
        have hlst := hb.lst
        have hmo := hb.most
        have hln := hb.len
        have hsm : (kE z).small := Nat.zero_le _
        have hsl : ∀ x, vname sl = some x → x < n3 := fun x hx => hA3.evs.lt hw3 hx
        by_cases hz : last < z
        · repeat (first | refine w_seq ?_ | refine w_blk ?_ | refine z_seq ?_ | refine z_blk ?_ | refine w_skip ?_)
          refine w_drw (T6 15 9) [(0, []), (1, []), (2, []), (3, []), (4, []), (5, []), (8, [4]), (9, [4]), (10, [4]), (11, [4]), (12, [4, 11]), (13, [4]), (6, [11]), (7, [11]), (14, [])] 15 (by kernel_rfl) rfl rfl (j' := 23) ?_
          refine d_op rfl rfl .no (q := 8) rfl (s_mv rfl ⟨⟨rfl, rfl⟩, ?_⟩)
          refine d_op rfl rfl .no (q := 9) rfl (s_mv rfl ⟨⟨rfl, rfl⟩, ?_⟩)
          refine d_op rfl rfl .no (q := 10) rfl (s_mv rfl ⟨⟨rfl, rfl⟩, ?_⟩)
          refine d_op rfl rfl .no (q := 11) rfl (s_ia rfl rfl el_91 (by first | assumption | omega) ⟨⟨rfl, rfl⟩, ?_⟩)
          refine d_tc rfl rfl rfl .no (q := 12) rfl (s_ld rfl (by repeat (first | exact gs_same _ _ _ | exact q2 | exact q3 | refine (gs_ne (by omega) _).trans ?_)) ag_2 (by first | exact rfl | exact q2 | exact q3) ⟨clash_nil, ?_⟩)
          refine d_op rfl rfl .no (q := 13) rfl (s_bld pl_82 zl_82 rfl rfl rfl ⟨⟨rfl, rfl⟩, ?_⟩)
          refine d_op rfl rfl .no (q := 16) rfl (s_mv rfl ⟨⟨rfl, rfl⟩, ?_⟩)
          refine d_op rfl rfl .no (q := 17) rfl (s_mv rfl ⟨⟨rfl, rfl⟩, ?_⟩)
          refine d_op rfl rfl .no (q := 18) rfl (s_ia rfl rfl el_91 (by first | assumption | omega) ⟨⟨rfl, rfl⟩, ?_⟩)
          refine d_tc rfl rfl rfl .no (q := 19) rfl (s_ld rfl (by repeat (first | exact gs_same _ _ _ | exact q2 | exact q3 | refine (gs_ne (by omega) _).trans ?_)) ag_2 (by first | exact rfl | exact q2 | exact q3) ⟨clash_rd rfl, ?_⟩)
          refine d_op rfl rfl .no (q := 20) rfl (s_mv rfl ⟨⟨rfl, rfl⟩, ?_⟩)
          refine d_op rfl rfl .no (q := 21) rfl (s_bin rfl rfl rfl ⟨⟨rfl, rfl⟩, ?_⟩)
          refine d_al rfl rfl rfl .no (q := 14) rfl (s_bs el_65 ez_65 rfl rfl rfl ?_)
          refine d_call rfl .no rfl rfl rfl (call_b rfl) ?_
          refine C.use (log_add_yes (es := [kE z]) (hA3.kp0 (n := n3) (by repeat (first | exact Kp.refl _ _ _ | refine Kp.new ?_ (by omega) _)) hw3) (by omega) (evs_one (e := kE z) (a := none) (p := 0) (gs_same _ _ _) rfl (SlC.nil _ _) hsm) (fun x hx e => by cases hx; have := hsl _ e; omega) (by simp only [List.length_singleton]; omega) (by omega) (may_const (r := z) (by simp) (fun e he => by simp only [List.mem_singleton] at he; subst he; rfl) (by omega))) fun v g4 n4 hw4 hn4 hq => ?_
          obtain ⟨rfl, sl', hA4, hM4, k4⟩ := hq
          refine ⟨?_, ?_⟩
          · have q4 : g4 lx = some (.cells clx 1 rox) := k4 lx (.cells clx 1 rox) (by omega) (by repeat (first | exact gs_same _ _ _ | exact q2 | refine (gs_ne (by omega) _).trans ?_)) fun h => h.2 rfl
            exact ⟨trivial, ⟨q4.trans (Eq.symm (by repeat (first | exact gs_same _ _ _ | exact q2 | refine (gs_ne (by omega) _).trans ?_))), trivial⟩, trivial, trivial⟩
          have q4 : g4 lx = some (.cells clx 1 rox) := k4 lx (.cells clx 1 rox) (by omega) (by repeat (first | exact gs_same _ _ _ | exact q2 | refine (gs_ne (by omega) _).trans ?_)) fun h => h.2 rfl
          refine d_op rfl rfl .no (q := 22) rfl (s_bin rfl rfl (bi_d un_4 rfl) ⟨⟨rfl, rfl⟩, ?_⟩)
          refine d_nil ?_
          repeat (first | refine w_seq ?_ | refine w_blk ?_ | refine z_seq ?_ | refine z_blk ?_ | refine w_skip ?_)
          refine w_no rfl (by simp [hz]) ?_
          repeat (first | refine w_seq ?_ | refine w_blk ?_ | refine z_seq ?_ | refine z_blk ?_ | refine w_skip ?_)
          refine w_reg 7 rfl rfl (j' := 7) ?_
          refine n_op .no (q := 0) rfl (s_mv rfl ?_)
          refine n_op .no (q := 1) rfl (s_mv rfl ?_)
          refine n_op .no (q := 2) rfl (s_mv rfl ?_)
          refine n_op .no (q := 3) rfl (s_ia rfl rfl el_91 (by first | assumption | omega) ?_)
          refine n_op .no (q := 4) rfl (s_ld rfl (by repeat (first | exact gs_same _ _ _ | exact q4 | exact q3 | refine (gs_ne (by omega) _).trans ?_)) ag_2 (by first | exact rfl | exact q4 | exact q3) ?_)
          refine n_op .no (q := 5) rfl (s_max rfl rfl rfl ?_)
          refine n_op .no (q := 6) rfl (s_as rfl ?_)
          refine n_nil ?_
          repeat (first | refine w_seq ?_ | refine w_blk ?_ | refine z_seq ?_ | refine z_blk ?_ | refine w_skip ?_)
          repeat (first | refine w_seq ?_ | refine w_blk ?_ | refine z_seq ?_ | refine z_blk ?_ | refine w_skip ?_)
          refine w_reg 3 rfl rfl (j' := 10) ?_
          refine n_op .no (q := 7) rfl (s_mv rfl ?_)
          first | refine n_op .no (q := 8) rfl (s_bin rfl rfl (bi_inc (by omega)) ?_) | refine n_op .no (q := 8) rfl (s_bin rfl rfl (bi_add rfl (by omega) (by omega)) ?_)
          refine n_op .no (q := 9) rfl (s_as rfl ?_)
          refine n_nil ?_
          have hmx : max last z = z := by omega
          exact z_round (i + 1, max last z) ⟨rfl, rfl, rfl, rfl, rfl, trivial⟩ ⟨by omega, fun x o hx ho hf => k4 x o (by omega) ((Kp.new k3 (by omega) _) x o hx ho hf) (fun h => by
            rcases h.1 with e | e
            · omega
            · have := hA3.evs.from_ x e; omega), _, sl', hA4, by rw [hmx]; exact hb.add c2 hz, by show i + 1 ≤ 20; omega⟩ (by show 20 - (i + 1) < 20 - i; omega)
        · have hnmay : ¬ L.may [kE z] := fun hm => by
            obtain ⟨⟨e, r, he, hlt⟩, _⟩ := hm
            cases he
            have hlt : L.last < z := hlt
            omega
          repeat (first | refine w_seq ?_ | refine w_blk ?_ | refine z_seq ?_ | refine z_blk ?_ | refine w_skip ?_)
          refine w_drw (T6 15 9) [(0, []), (1, []), (2, []), (3, []), (4, []), (5, []), (8, [4]), (9, [4]), (10, [4]), (11, [4]), (12, [4, 11]), (13, [4]), (6, [11]), (7, [11]), (14, [])] 15 (by kernel_rfl) rfl rfl (j' := 23) ?_
          refine d_op rfl rfl .no (q := 8) rfl (s_mv rfl ⟨⟨rfl, rfl⟩, ?_⟩)
          refine d_op rfl rfl .no (q := 9) rfl (s_mv rfl ⟨⟨rfl, rfl⟩, ?_⟩)
          refine d_op rfl rfl .no (q := 10) rfl (s_mv rfl ⟨⟨rfl, rfl⟩, ?_⟩)
          refine d_op rfl rfl .no (q := 11) rfl (s_ia rfl rfl el_91 (by first | assumption | omega) ⟨⟨rfl, rfl⟩, ?_⟩)
          refine d_tc rfl rfl rfl .no (q := 12) rfl (s_ld rfl (by repeat (first | exact gs_same _ _ _ | exact q2 | exact q3 | refine (gs_ne (by omega) _).trans ?_)) ag_2 (by first | exact rfl | exact q2 | exact q3) ⟨clash_nil, ?_⟩)
          refine d_op rfl rfl .no (q := 13) rfl (s_bld pl_82 zl_82 rfl rfl rfl ⟨⟨rfl, rfl⟩, ?_⟩)
          refine d_op rfl rfl .no (q := 16) rfl (s_mv rfl ⟨⟨rfl, rfl⟩, ?_⟩)
          refine d_op rfl rfl .no (q := 17) rfl (s_mv rfl ⟨⟨rfl, rfl⟩, ?_⟩)
          refine d_op rfl rfl .no (q := 18) rfl (s_ia rfl rfl el_91 (by first | assumption | omega) ⟨⟨rfl, rfl⟩, ?_⟩)
          refine d_tc rfl rfl rfl .no (q := 19) rfl (s_ld rfl (by repeat (first | exact gs_same _ _ _ | exact q2 | exact q3 | refine (gs_ne (by omega) _).trans ?_)) ag_2 (by first | exact rfl | exact q2 | exact q3) ⟨clash_rd rfl, ?_⟩)
          refine d_op rfl rfl .no (q := 20) rfl (s_mv rfl ⟨⟨rfl, rfl⟩, ?_⟩)
          refine d_op rfl rfl .no (q := 21) rfl (s_bin rfl rfl rfl ⟨⟨rfl, rfl⟩, ?_⟩)
          refine d_al rfl rfl rfl .no (q := 14) rfl (s_bs el_65 ez_65 rfl rfl rfl ?_)
          refine d_call rfl .no rfl rfl rfl (call_b rfl) ?_
          refine C.use (log_add_no (es := [kE z]) (hA3.kp0 (n := n3) (by repeat (first | exact Kp.refl _ _ _ | refine Kp.new ?_ (by omega) _)) hw3) (evs_one (e := kE z) (a := none) (p := 0) (gs_same _ _ _) rfl (SlC.nil _ _) hsm) (by show 1 < 2 ^ 40; decide) hnmay) fun v g4 n4 hw4 hn4 hq => ?_
          obtain ⟨rfl, k4⟩ := hq
          refine ⟨?_, ?_⟩
          · have q4 : g4 lx = some (.cells clx 1 rox) := k4 lx (.cells clx 1 rox) (by omega) (by repeat (first | exact gs_same _ _ _ | exact q2 | refine (gs_ne (by omega) _).trans ?_)) id
            exact ⟨trivial, ⟨q4.trans (Eq.symm (by repeat (first | exact gs_same _ _ _ | exact q2 | refine (gs_ne (by omega) _).trans ?_))), trivial⟩, trivial, trivial⟩
          have q4 : g4 lx = some (.cells clx 1 rox) := k4 lx (.cells clx 1 rox) (by omega) (by repeat (first | exact gs_same _ _ _ | exact q2 | refine (gs_ne (by omega) _).trans ?_)) id
          refine d_op rfl rfl .no (q := 22) rfl (s_bin rfl rfl (bi_d un_4 rfl) ⟨⟨rfl, rfl⟩, ?_⟩)
          refine d_nil ?_
          repeat (first | refine w_seq ?_ | refine w_blk ?_ | refine z_seq ?_ | refine z_blk ?_ | refine w_skip ?_)
          refine w_no rfl (by simp [hz]) ?_
          repeat (first | refine w_seq ?_ | refine w_blk ?_ | refine z_seq ?_ | refine z_blk ?_ | refine w_skip ?_)
          refine w_reg 7 rfl rfl (j' := 7) ?_
          refine n_op .no (q := 0) rfl (s_mv rfl ?_)
          refine n_op .no (q := 1) rfl (s_mv rfl ?_)
          refine n_op .no (q := 2) rfl (s_mv rfl ?_)
          refine n_op .no (q := 3) rfl (s_ia rfl rfl el_91 (by first | assumption | omega) ?_)
          refine n_op .no (q := 4) rfl (s_ld rfl (by repeat (first | exact gs_same _ _ _ | exact q4 | exact q3 | refine (gs_ne (by omega) _).trans ?_)) ag_2 (by first | exact rfl | exact q4 | exact q3) ?_)
          refine n_op .no (q := 5) rfl (s_max rfl rfl rfl ?_)
          refine n_op .no (q := 6) rfl (s_as rfl ?_)
          refine n_nil ?_
          repeat (first | refine w_seq ?_ | refine w_blk ?_ | refine z_seq ?_ | refine z_blk ?_ | refine w_skip ?_)
          repeat (first | refine w_seq ?_ | refine w_blk ?_ | refine z_seq ?_ | refine z_blk ?_ | refine w_skip ?_)
          refine w_reg 3 rfl rfl (j' := 10) ?_
          refine n_op .no (q := 7) rfl (s_mv rfl ?_)
          first | refine n_op .no (q := 8) rfl (s_bin rfl rfl (bi_inc (by omega)) ?_) | refine n_op .no (q := 8) rfl (s_bin rfl rfl (bi_add rfl (by omega) (by omega)) ?_)
          refine n_op .no (q := 9) rfl (s_as rfl ?_)
          refine n_nil ?_
          have hmx : max last z = last := by omega
          have k34 : K0 g3 n3 g4 := Kp.trans0 (by repeat (first | exact Kp.refl _ _ _ | refine Kp.new ?_ (by omega) _)) k4 (by omega)
          exact z_round (i + 1, max last z) ⟨rfl, rfl, rfl, rfl, rfl, trivial⟩ ⟨by omega, fun x o hx ho hf => k34 x o (by omega) (k3 x o hx ho hf) id, L, sl, hA3.kp0 k34 hw3, by rw [hmx]; exact { hb with len := by have := hb.len; omega }, by show i + 1 ≤ 20; omega⟩ (by show 20 - (i + 1) < 20 - i; omega)
      · repeat (first | refine w_seq ?_ | refine w_blk ?_ | refine z_seq ?_ | refine z_blk ?_ | refine w_skip ?_)
        refine w_reg 8 rfl rfl (j' := 8) ?_
        refine n_op .no (q := 0) rfl (s_mv rfl ?_)
        refine n_op .no (q := 1) rfl (s_mv rfl ?_)
        refine n_op .no (q := 2) rfl (s_len rfl rfl un_91 rfl ?_)
        refine n_op .no (q := 3) rfl (s_bin rfl rfl rfl ?_)
        refine n_op .no (q := 4) rfl (s_mv rfl ?_)
        refine n_op (.yes rfl rfl (decide_eq_true (by omega))) (q := 5) rfl (s_mv rfl ?_)
        refine n_op (.yes rfl rfl (decide_eq_true (by omega))) (q := 6) rfl (s_bin rfl rfl rfl ?_)
        refine n_op .no (q := 7) rfl (s_pt rfl (decide_eq_true (by omega)) rfl ?_)
        refine n_nil ?_
        repeat (first | refine w_seq ?_ | refine w_blk ?_ | refine z_seq ?_ | refine z_blk ?_ | refine w_skip ?_)
        refine w_no rfl (decide_eq_false (by omega)) ?_
        refine w_exit rfl ?_
        exact z_met (i, last) ⟨rfl, rfl, rfl, trivial⟩ ⟨by omega, k3, L, sl, hA3, hb, hi20⟩
    · repeat (first | refine w_seq ?_ | refine w_blk ?_ | refine z_seq ?_ | refine z_blk ?_ | refine w_skip ?_)
      refine w_reg 8 rfl rfl (j' := 8) ?_
      refine n_op .no (q := 0) rfl (s_mv rfl ?_)
      refine n_op .no (q := 1) rfl (s_mv rfl ?_)
      refine n_op .no (q := 2) rfl (s_len rfl rfl un_91 rfl ?_)
      refine n_op .no (q := 3) rfl (s_bin rfl rfl rfl ?_)
      refine n_op .no (q := 4) rfl (s_mv rfl ?_)
      refine n_sk rfl rfl (decide_eq_false (by omega)) ?_
      refine n_sk rfl rfl (decide_eq_false (by omega)) ?_
      refine n_op .no (q := 7) rfl (s_pf rfl (decide_eq_false (by omega)) rfl ?_)
      refine n_nil ?_
      repeat (first | refine w_seq ?_ | refine w_blk ?_ | refine z_seq ?_ | refine z_blk ?_ | refine w_skip ?_)
      refine w_no rfl (rfl) ?_
      refine w_exit rfl ?_
      exact z_met (i, last) ⟨rfl, rfl, rfl, trivial⟩ ⟨by omega, k3, L, sl, hA3, hb, hi20⟩
  rintro ⟨i, last⟩ f g3 n3 hw3 ⟨hn3, k3, L, sl, hA3, hb, hi20⟩
  simp only at hb hi20
  have hln := hb.len
  repeat (first | refine w_seq ?_ | refine w_blk ?_ | refine z_seq ?_ | refine z_blk ?_ | refine w_skip ?_)
  refine w_reg 9 rfl rfl (j' := 9) ?_
  refine n_op .no (q := 0) rfl (s_mv rfl ?_)
  refine n_op .no (q := 1) rfl (s_mv rfl ?_)
  refine n_call .no rfl rfl rfl ?_
  refine C.use (log_base hA3) fun v g4 n4 hw4 hn4 hq => ?_
  obtain ⟨rfl, k4⟩ := hq
  rw [hb.base]
  refine n_call .no rfl rfl rfl ?_
  refine C.use (log_from (rev := 0) (hA3.kp0 (k4.dn (by omega)) hw3) (by omega)) fun v g5 n5 hw5 hn5 hq => ?_
  obtain ⟨v5, rfl, hE5, k5⟩ := hq
  rw [hb.from_] at hE5 ⊢
  obtain ⟨a5, c5, rfl⟩ := hE5.lenE
  have hA5 := (hA3.kp0 (k4.dn (by omega)) hw3).kp0 (k5.dn (by omega)) hw4
  have k15 : K0 g1 n1 g5 := fun x o hx ho hf => k5 x o (by omega) (k4 x o (by omega) (k3 x o hx ho hf) id) id
  have hI := h1'.kp0 k15 hw1
  refine n_op .no (q := 4) rfl (s_mv rfl ?_)
  refine n_op .no (q := 5) rfl (s_ext rfl rfl ?_)
  refine n_op .no (q := 6) rfl (s_ext rfl rfl ?_)
  refine n_op .no (q := 7) rfl (s_as rfl ?_)
  refine n_op .no (q := 8) rfl (s_as rfl ?_)
  refine n_nil ?_
  repeat (first | refine w_seq ?_ | refine w_blk ?_ | refine z_seq ?_ | refine z_blk ?_ | refine w_skip ?_)
  refine w_reg 6 rfl rfl (j' := 6) ?_
  refine n_op .no (q := 0) rfl (s_mv rfl ?_)
  refine n_op .no (q := 1) rfl (s_mv rfl ?_)
  refine n_op .no (q := 2) rfl (s_len rfl rfl un_65 rfl ?_)
  refine n_op .no (q := 3) rfl (s_min rfl rfl (c := ((min es.length 6 : Nat) : Int)) (by omega) ?_)
  refine n_op .no (q := 4) rfl (s_hiE rfl hI rfl (Nat.min_le_left _ _) fun w hw2 hnm => ?_)
  have hlen6 : (es.take (min es.length 6)).length ≤ 6 := by rw [List.length_take]; omega
  have hnm1 : 0 < (es.take (min es.length 6)).length → ∀ x, vname w = some x → x < n1 := fun h0 x hx => by
    have h0' : 0 < es.length := by rw [List.length_take] at h0; omega
    obtain ⟨l2, o2, c2, cl2, ro2, p2, q2, y1, y2, y3, y4⟩ := h1'.at0 h0'
    have := hnm x hx
    rw [y1] at this
    cases this
    exact hw1 _ _ y3
  generalize es.take (min es.length 6) = fs at *
  obtain ⟨aw, cw, rfl⟩ := hw2.len
  refine n_op .no (q := 5) rfl (s_as rfl ?_)
  refine n_nil ?_
  refine z_seq ?_
  refine w_seq ?_
  refine z_meet (β := Bool) (fun b => [(1, .slice aw fs.length cw), (6, .pointer (some ⟨l, 0, none⟩)), (7, .int .i64 last), (9, .slice a5 L.evs.length c5), (10, .int .i64 0), (11, .bool b)])
    (fun b g' n' => n5 ≤ n' ∧ K0 g5 n5 g' ∧ (b = true ↔ ∃ e r, fs = e :: r ∧ last < e.rev)) ?_ ?_
  · rcases fs with _ | ⟨e, r⟩
    · repeat (first | refine w_seq ?_ | refine w_blk ?_ | refine z_seq ?_ | refine z_blk ?_ | refine w_skip ?_)
      refine w_reg 12 rfl rfl (j' := 18) ?_
      refine n_op .no (q := 6) rfl (s_mv rfl ?_)
      refine n_op .no (q := 7) rfl (s_len rfl rfl un_65 rfl ?_)
      refine n_op .no (q := 8) rfl (s_bin rfl rfl rfl ?_)
      refine n_op .no (q := 9) rfl (s_mv rfl ?_)
      refine n_sk rfl rfl (rfl) ?_
      refine n_sk rfl rfl (rfl) ?_
      refine n_sk rfl rfl (rfl) ?_
      refine n_sk rfl rfl (rfl) ?_
      refine n_sk rfl rfl (rfl) ?_
      refine n_sk rfl rfl (rfl) ?_
      refine n_op .no (q := 16) rfl (s_pf rfl (rfl) rfl ?_)
      refine n_op .no (q := 17) rfl (s_as rfl ?_)
      refine n_nil ?_
      exact z_met false ⟨rfl, rfl, rfl, rfl, rfl, rfl, trivial⟩ ⟨by omega, (by repeat (first | exact Kp.refl _ _ _ | refine Kp.new ?_ (by omega) _)), by simp⟩
    · obtain ⟨l2, o2, c2, cl2, ro2, p2, q2, y1, y2, y3, y4⟩ := hw2.at0 (Nat.succ_pos _)
      cases y1
      have d0 := y4.c0'
      have hpos : 0 < (e :: r).length := Nat.succ_pos _
      repeat (first | refine w_seq ?_ | refine w_blk ?_ | refine z_seq ?_ | refine z_blk ?_ | refine w_skip ?_)
      refine w_reg 12 rfl rfl (j' := 18) ?_
      refine n_op .no (q := 6) rfl (s_mv rfl ?_)
      refine n_op .no (q := 7) rfl (s_len rfl rfl un_65 rfl ?_)
      refine n_op .no (q := 8) rfl (s_bin rfl rfl rfl ?_)
      refine n_op .no (q := 9) rfl (s_mv rfl ?_)
      refine n_op (.yes rfl rfl (decide_eq_true (by omega))) (q := 10) rfl (s_mv rfl ?_)
      refine n_op (.yes rfl rfl (decide_eq_true (by omega))) (q := 11) rfl (s_ia0 rfl rfl el_65 (by first | assumption | omega) ?_)
      first | refine n_op (.yes rfl rfl (decide_eq_true (by omega))) (q := 12) rfl (s_fa0 rfl fo_82_0 ?_) | refine n_op (.yes rfl rfl (decide_eq_true (by omega))) (q := 12) rfl (s_fa rfl fo_82_0 ?_)
      refine n_op (.yes rfl rfl (decide_eq_true (by omega))) (q := 13) rfl (s_ld rfl (by repeat (first | exact gs_same _ _ _ | exact y3 | exact d0 | refine (gs_ne (by omega) _).trans ?_)) ag_2 (by first | exact rfl | exact y3 | exact d0) ?_)
      refine n_op (.yes rfl rfl (decide_eq_true (by omega))) (q := 14) rfl (s_mv rfl ?_)
      refine n_op (.yes rfl rfl (decide_eq_true (by omega))) (q := 15) rfl (s_bin rfl rfl rfl ?_)
      refine n_op .no (q := 16) rfl (s_pt rfl (decide_eq_true (by omega)) rfl ?_)
      refine n_op .no (q := 17) rfl (s_as rfl ?_)
      refine n_nil ?_
      exact z_met (decide (e.rev > last)) ⟨rfl, rfl, rfl, rfl, rfl, rfl, trivial⟩ ⟨by omega, (by repeat (first | exact Kp.refl _ _ _ | refine Kp.new ?_ (by omega) _)), by simp⟩
  rintro b f g6 n6 hw6 ⟨hn6, k6, hb6⟩
  repeat (first | refine w_seq ?_ | refine w_blk ?_ | refine z_seq ?_ | refine z_blk ?_ | refine w_skip ?_)
  refine w_reg 1 rfl rfl (j' := 1) ?_
  refine n_op .no (q := 0) rfl (s_as rfl ?_)
  refine n_nil ?_
  refine z_seq ?_
  refine z_meet (β := Bool) (fun b => [(1, .slice aw fs.length cw), (6, .pointer (some ⟨l, 0, none⟩)), (9, .slice a5 L.evs.length c5), (10, .int .i64 0), (11, .bool b)])
    (fun b g' n' => n5 ≤ n' ∧ K0 g5 n5 g' ∧ (b = true ↔ L.may fs)) ?_ ?_
  · repeat (first | refine w_seq ?_ | refine w_blk ?_ | refine z_seq ?_ | refine z_blk ?_ | refine w_skip ?_)
    refine w_loop (β := Nat × Bool) (fun x => [(1, .slice aw fs.length cw), (6, .pointer (some ⟨l, 0, none⟩)), (9, .slice a5 L.evs.length c5), (10, .int .i64 0), (11, .bool x.2), (12, .int .i64 (x.1 : Int))])
      (fun x g' n' => n5 ≤ n' ∧ K0 g5 n5 g' ∧ 1 ≤ x.1 ∧ x.1 ≤ 7 ∧ (x.2 = true ↔ (∃ e r, fs = e :: r ∧ last < e.rev) ∧ ∀ j, (h : j + 1 < fs.length) → j + 1 < x.1 → fs[j].rev ≤ fs[j + 1].rev)) (fun x => 7 - x.1) (1, b) ⟨rfl, rfl, rfl, rfl, rfl, rfl, trivial⟩
      ⟨by omega, k6, Nat.le_refl _, by omega, by simp only; rw [hb6]; exact ⟨fun h => ⟨h, fun j _ h => absurd h (by omega)⟩, fun h => h.1⟩⟩ ?_
    rintro ⟨i7, b7⟩ f g7 n7 hw7 ⟨hn7, k7, hi7, hi77, hb7⟩
    simp only at hi7 hi77 hb7
    repeat (first | refine w_seq ?_ | refine w_blk ?_ | refine z_seq ?_ | refine z_blk ?_ | refine w_skip ?_)
    refine w_reg 4 rfl rfl (j' := 4) ?_
    refine n_op .no (q := 0) rfl (s_mv rfl ?_)
    refine n_op .no (q := 1) rfl (s_mv rfl ?_)
    refine n_op .no (q := 2) rfl (s_len rfl rfl un_65 rfl ?_)
    refine n_op .no (q := 3) rfl (s_bin rfl rfl rfl ?_)
    refine n_nil ?_
    repeat (first | refine w_seq ?_ | refine w_blk ?_ | refine z_seq ?_ | refine z_blk ?_ | refine w_skip ?_)
    refine w_if rfl (fun hc => ?_) (fun hc => ?_)
    · have hc : i7 < fs.length := by simpa using hc
      have hv7 := hw2.kp0 (k7.dn (by omega)) hw5
      obtain ⟨l3, o3, c3, cl3, ro3, p3, q3, x1, _, x2, x3⟩ := hv7.at hc
      obtain ⟨l4, o4, c4, cl4, ro4, p4, q4, x4, _, x5, x6⟩ := hv7.at (show i7 - 1 < fs.length by omega)
      cases x1
      cases x4
      have x7 := x2.symm.trans x5
      cases x7
      have y0 := x3.c0'
      have z0 := x6.c0'
      cases b7
      · repeat (first | refine w_seq ?_ | refine w_blk ?_ | refine z_seq ?_ | refine z_blk ?_ | refine w_skip ?_)
        refine w_drw (T6 15 18) [(0, []), (1, []), (2, []), (3, []), (4, []), (5, []), (6, []), (7, [6]), (8, [6]), (9, [6]), (10, [6]), (11, [6]), (12, [6]), (13, []), (14, []), (15, [])] 16 (by kernel_rfl) rfl rfl (j' := 20) ?_
        refine d_op rfl rfl .no (q := 4) rfl (s_mv rfl ⟨⟨rfl, rfl⟩, ?_⟩)
        refine d_op rfl rfl .no (q := 5) rfl (s_mv rfl ⟨⟨rfl, rfl⟩, ?_⟩)
        refine d_sk rfl rfl rfl (rfl) ?_
        refine d_sk rfl rfl rfl (rfl) ?_
        refine d_sk rfl rfl rfl (rfl) ?_
        refine d_sk rfl rfl rfl (rfl) ?_
        refine d_sk rfl rfl rfl (rfl) ?_
        refine d_sk rfl rfl rfl (rfl) ?_
        refine d_sk rfl rfl rfl (rfl) ?_
        refine d_sk rfl rfl rfl (rfl) ?_
        refine d_sk rfl rfl rfl (rfl) ?_
        refine d_sk rfl rfl rfl (rfl) ?_
        refine d_sk rfl rfl rfl (rfl) ?_
        refine d_sk rfl rfl rfl (rfl) ?_
        refine d_op rfl rfl .no (q := 18) rfl (s_pf rfl (rfl) rfl ⟨⟨rfl, rfl⟩, ?_⟩)
        refine d_op rfl rfl .no (q := 19) rfl (s_as rfl ⟨⟨rfl, rfl⟩, ?_⟩)
        refine d_nil ?_
        repeat (first | refine w_seq ?_ | refine w_blk ?_ | refine z_seq ?_ | refine z_blk ?_ | refine w_skip ?_)
        repeat (first | refine w_seq ?_ | refine w_blk ?_ | refine z_seq ?_ | refine z_blk ?_ | refine w_skip ?_)
        refine w_reg 3 rfl rfl (j' := 23) ?_
        refine n_op .no (q := 20) rfl (s_mv rfl ?_)
        first | refine n_op .no (q := 21) rfl (s_bin rfl rfl (bi_inc (by omega)) ?_) | refine n_op .no (q := 21) rfl (s_bin rfl rfl (bi_add rfl (by omega) (by omega)) ?_)
        refine n_op .no (q := 22) rfl (s_as rfl ?_)
        refine n_nil ?_
        exact z_round (i7 + 1, false) ⟨rfl, rfl, rfl, rfl, rfl, rfl, trivial⟩ ⟨by omega, k7, by show 1 ≤ i7 + 1; omega, by show i7 + 1 ≤ 7; omega, ⟨fun h => (by cases h), fun h => hb7.2 ⟨h.1, fun j hj hlt => h.2 j hj (by show j + 1 < i7 + 1; omega)⟩⟩⟩ (by show 7 - (i7 + 1) < 7 - i7; omega)
      · repeat (first | refine w_seq ?_ | refine w_blk ?_ | refine z_seq ?_ | refine z_blk ?_ | refine w_skip ?_)
        refine w_drw (T6 15 18) [(0, []), (1, []), (2, []), (3, []), (4, []), (5, []), (6, []), (7, [6]), (8, [6]), (9, [6]), (10, [6]), (11, [6]), (12, [6]), (13, []), (14, []), (15, [])] 16 (by kernel_rfl) rfl rfl (j' := 20) ?_
        refine d_op rfl rfl .no (q := 4) rfl (s_mv rfl ⟨⟨rfl, rfl⟩, ?_⟩)
        refine d_op rfl rfl .no (q := 5) rfl (s_mv rfl ⟨⟨rfl, rfl⟩, ?_⟩)
        refine d_op rfl rfl (.yes rfl rfl (rfl)) (q := 6) rfl (s_mv rfl ⟨⟨rfl, rfl⟩, ?_⟩)
        refine d_op rfl rfl (.yes rfl rfl (rfl)) (q := 7) rfl (s_mv rfl ⟨⟨rfl, rfl⟩, ?_⟩)
        refine d_op rfl rfl (.yes rfl rfl (rfl)) (q := 8) rfl (s_ia rfl rfl el_65 (by first | assumption | omega) ⟨⟨rfl, rfl⟩, ?_⟩)
        first | refine d_op rfl rfl (.yes rfl rfl (rfl)) (q := 9) rfl (s_fa0 rfl fo_82_0 ⟨⟨rfl, rfl⟩, ?_⟩) | refine d_op rfl rfl (.yes rfl rfl (rfl)) (q := 9) rfl (s_fa rfl fo_82_0 ⟨⟨rfl, rfl⟩, ?_⟩)
        refine d_tc rfl rfl rfl (.yes rfl rfl (rfl)) (q := 10) rfl (s_ld rfl (by repeat (first | exact gs_same _ _ _ | exact x2 | exact y0 | exact z0 | refine (gs_ne (by omega) _).trans ?_)) ag_2 (by first | exact rfl | exact x2 | exact y0 | exact z0) ⟨clash_nil, ?_⟩)
        refine d_op rfl rfl (.yes rfl rfl (rfl)) (q := 11) rfl (s_mv rfl ⟨⟨rfl, rfl⟩, ?_⟩)
        refine d_op rfl rfl (.yes rfl rfl (rfl)) (q := 12) rfl (s_mv rfl ⟨⟨rfl, rfl⟩, ?_⟩)
        first | refine d_op rfl rfl (.yes rfl rfl (rfl)) (q := 13) rfl (s_bin rfl rfl (bi_dec (by omega) (by omega)) ⟨⟨rfl, rfl⟩, ?_⟩) | refine d_op rfl rfl (.yes rfl rfl (rfl)) (q := 13) rfl (s_bin rfl rfl (bi_sub rfl (by omega) (by omega)) ⟨⟨rfl, rfl⟩, ?_⟩)
        refine d_op rfl rfl (.yes rfl rfl (rfl)) (q := 14) rfl (s_ia rfl rfl el_65 (by first | assumption | omega) ⟨⟨rfl, rfl⟩, ?_⟩)
        first | refine d_op rfl rfl (.yes rfl rfl (rfl)) (q := 15) rfl (s_fa0 rfl fo_82_0 ⟨⟨rfl, rfl⟩, ?_⟩) | refine d_op rfl rfl (.yes rfl rfl (rfl)) (q := 15) rfl (s_fa rfl fo_82_0 ⟨⟨rfl, rfl⟩, ?_⟩)
        refine d_tc rfl rfl rfl (.yes rfl rfl (rfl)) (q := 16) rfl (s_ld rfl (by repeat (first | exact gs_same _ _ _ | exact x2 | exact y0 | exact z0 | refine (gs_ne (by omega) _).trans ?_)) ag_2 (by first | exact rfl | exact x2 | exact y0 | exact z0) ⟨clash_rd rfl, ?_⟩)
        refine d_op rfl rfl (.yes rfl rfl (rfl)) (q := 17) rfl (s_bin rfl rfl rfl ⟨⟨rfl, rfl⟩, ?_⟩)
        refine d_op rfl rfl .no (q := 18) rfl (s_pt rfl (rfl) rfl ⟨⟨rfl, rfl⟩, ?_⟩)
        refine d_op rfl rfl .no (q := 19) rfl (s_as rfl ⟨⟨rfl, rfl⟩, ?_⟩)
        refine d_nil ?_
        repeat (first | refine w_seq ?_ | refine w_blk ?_ | refine z_seq ?_ | refine z_blk ?_ | refine w_skip ?_)
        repeat (first | refine w_seq ?_ | refine w_blk ?_ | refine z_seq ?_ | refine z_blk ?_ | refine w_skip ?_)
        refine w_reg 3 rfl rfl (j' := 23) ?_
        refine n_op .no (q := 20) rfl (s_mv rfl ?_)
        first | refine n_op .no (q := 21) rfl (s_bin rfl rfl (bi_inc (by omega)) ?_) | refine n_op .no (q := 21) rfl (s_bin rfl rfl (bi_add rfl (by omega) (by omega)) ?_)
        refine n_op .no (q := 22) rfl (s_as rfl ?_)
        refine n_nil ?_
        have hb8 := hb7.1 rfl
        refine z_round (i7 + 1, decide (fs[i7].rev ≥ fs[i7 - 1].rev)) ⟨rfl, rfl, rfl, rfl, rfl, rfl, trivial⟩ ⟨by omega, k7, by show 1 ≤ i7 + 1; omega, by show i7 + 1 ≤ 7; omega, ⟨fun h => ⟨hb8.1, fun j hj hlt => ?_⟩, fun h => ?_⟩⟩ (by show 7 - (i7 + 1) < 7 - i7; omega)
        · have h : fs[i7 - 1].rev ≤ fs[i7].rev := of_decide_eq_true h
          have hlt : j + 1 < i7 + 1 := hlt
          by_cases e : j + 1 = i7
          · subst e; exact h
          · exact hb8.2 j hj (by omega)
        · have := h.2 (i7 - 1) (by omega) (by show i7 - 1 + 1 < i7 + 1; omega)
          simp only [Nat.sub_add_cancel hi7] at this
          exact decide_eq_true this
    refine w_exit rfl ?_
    have hc : fs.length ≤ i7 := by simpa using hc
    exact z_met b7 ⟨rfl, rfl, rfl, rfl, rfl, trivial⟩ ⟨by omega, k7, by
      rw [hb7]
      have := hb.lst
      unfold Log.may
      rw [this]
      exact ⟨fun h => ⟨h.1, fun j hj => h.2 j hj (by omega)⟩, fun h => ⟨h.1, fun j hj _ => h.2 j hj⟩⟩⟩
  rintro b f g7 n7 hw7 ⟨hn7, k7, hb7⟩
  have hv7 := hw2.kp0 (k7.dn (by omega)) hw5
  have hA7 := hA5.kp0 (k7.dn (by omega)) hw5
  have hE7 := hE5.rd.kp0 (k7.dn (by omega)) hw5
  by_cases hm : L.may fs
  · obtain rfl : b = true := hb7.2 hm
    have h0 : 0 < fs.length := by obtain ⟨⟨e, r, he, _⟩, _⟩ := hm; rw [he]; simp
    obtain ⟨u1, u2, u3⟩ := may_from hb hi20 hlen6 hm
    repeat (first | refine w_seq ?_ | refine w_blk ?_ | refine z_seq ?_ | refine z_blk ?_ | refine w_skip ?_)
    refine w_reg 5 rfl rfl (j' := 5) ?_
    refine n_op .no (q := 0) rfl (s_mv rfl ?_)
    refine n_op .no (q := 1) rfl (s_mv rfl ?_)
    refine n_call .no rfl rfl rfl ?_
    refine C.use (log_add_yes hA7 (by omega) hv7 (fun x hx e => by have := hnm1 h0 x hx; have := hA7.evs.from_ x e; omega) (by omega) (by have := hb.most; omega) hm) fun v g8 n8 hw8 hn8 hq => ?_
    obtain ⟨rfl, sl', hA8, hM8, k8⟩ := hq
    refine n_op .no (q := 3) rfl (s_mv rfl ?_)
    refine n_op .no (q := 4) rfl (s_bin rfl rfl (bi_d un_4 rfl) ?_)
    refine n_nil ?_
    repeat (first | refine w_seq ?_ | refine w_blk ?_ | refine z_seq ?_ | refine z_blk ?_ | refine w_skip ?_)
    refine w_no rfl (rfl) ?_
    repeat (first | refine w_seq ?_ | refine w_blk ?_ | refine z_seq ?_ | refine z_blk ?_ | refine w_skip ?_)
    refine w_reg 9 rfl rfl (j' := 9) ?_
    refine n_op .no (q := 0) rfl (s_mv rfl ?_)
    refine n_op .no (q := 1) rfl (s_mv rfl ?_)
    refine n_call .no rfl rfl rfl ?_
    refine C.use (log_base hA8) fun v g9 n9 hw9 hn9 hq => ?_
    obtain ⟨rfl, k9⟩ := hq
    rw [u1]
    refine n_call .no rfl rfl rfl ?_
    refine C.use (log_from (rev := 0) (hA8.kp0 (k9.dn (by omega)) hw8) (by rw [u2, List.length_append]; omega)) fun v g10 n10 hw10 hn10 hq => ?_
    obtain ⟨v10, rfl, hE10, k10⟩ := hq
    rw [u3] at hE10 ⊢
    obtain ⟨a10, c10, rfl⟩ := hE10.lenE
    refine n_op .no (q := 4) rfl (s_mv rfl ?_)
    refine n_op .no (q := 5) rfl (s_ext rfl rfl ?_)
    refine n_op .no (q := 6) rfl (s_ext rfl rfl ?_)
    refine n_op .no (q := 7) rfl (s_as rfl ?_)
    refine n_op .no (q := 8) rfl (s_as rfl ?_)
    refine n_nil ?_
    repeat (first | refine w_seq ?_ | refine w_blk ?_ | refine z_seq ?_ | refine z_blk ?_ | refine w_skip ?_)
    refine w_reg 29 rfl rfl (j' := 29) ?_
    refine n_op .no (q := 0) rfl (s_mv rfl ?_)
    refine n_op .no (q := 1) rfl (s_bin rfl rfl rfl ?_)
    refine n_op .no (q := 2) rfl (s_mv rfl ?_)
    refine n_op (.yes rfl rfl (rfl)) (q := 3) rfl (s_mv rfl ?_)
    refine n_op (.yes rfl rfl (rfl)) (q := 4) rfl (s_bin rfl rfl rfl ?_)
    refine n_op .no (q := 5) rfl (s_pt rfl (rfl) rfl ?_)
    refine n_op .no (q := 6) rfl (s_mv rfl ?_)
    refine n_op (.yes rfl rfl (rfl)) (q := 7) rfl (s_mv rfl ?_)
    refine n_op (.yes rfl rfl (rfl)) (q := 8) rfl (s_mv rfl ?_)
    refine n_sk rfl rfl (rfl) ?_
    refine n_sk rfl rfl (rfl) ?_
    refine n_sk rfl rfl (rfl) ?_
    refine n_op (.yes rfl rfl (rfl)) (q := 12) rfl (s_pt rfl (rfl) rfl ?_)
    refine n_op .no (q := 13) rfl (s_pt rfl (rfl) rfl ?_)
    refine n_op .no (q := 14) rfl (s_mv rfl ?_)
    refine n_op (.yes rfl rfl (rfl)) (q := 15) rfl (s_mv rfl ?_)
    refine n_op (.yes rfl rfl (rfl)) (q := 16) rfl (s_not rfl ?_)
    refine n_op (.yes rfl rfl (rfl)) (q := 17) rfl (s_mv rfl ?_)
    refine n_op (.yes rfl rfl (rfl)) (q := 18) rfl (s_mv rfl ?_)
    refine n_op (.yes rfl rfl (rfl)) (q := 19) rfl (s_len rfl rfl un_65 rfl ?_)
    refine n_op (.yes rfl rfl (rfl)) (q := 20) rfl (s_mv rfl ?_)
    refine n_op (.yes rfl rfl (rfl)) (q := 21) rfl (s_len rfl rfl un_65 rfl ?_)
    refine n_op (.yes rfl rfl (rfl)) (q := 22) rfl (s_mv rfl ?_)
    refine n_op (.yes rfl rfl (rfl)) (q := 23) rfl (s_len rfl rfl un_65 rfl ?_)
    refine n_op (.yes rfl rfl (rfl)) (q := 24) rfl (s_bin rfl rfl (r := .int .i64 (((L.evs.length : Int) + (fs.length : Int)))) (by first | exact bi_add (by omega) (by omega) (by omega) | exact bi_sub (by omega) (by omega) (by omega) | exact bi_add rfl (by omega) (by omega) | exact bi_sub rfl (by omega) (by omega)) ?_)
    refine n_op (.yes rfl rfl (rfl)) (q := 25) rfl (s_bin rfl rfl rfl ?_)
    refine n_op (.yes rfl rfl (rfl)) (q := 26) rfl (s_pf rfl (rfl) rfl ?_)
    refine n_op .no (q := 27) rfl (s_pt rfl (rfl) rfl ?_)
    refine n_op .no (q := 28) rfl (s_as rfl ?_)
    refine n_nil ?_
    repeat (first | refine w_ret ?_ | refine w_seq ?_ | refine w_blk ?_ | refine z_seq ?_ | refine z_blk ?_ | refine w_skip ?_)
    refine z_r1 rfl rfl ?_
    simp [List.length_append]
  · obtain rfl : b = false := by
      cases b
      · rfl
      · exact absurd (hb7.1 rfl) hm
    repeat (first | refine w_seq ?_ | refine w_blk ?_ | refine z_seq ?_ | refine z_blk ?_ | refine w_skip ?_)
    refine w_reg 5 rfl rfl (j' := 5) ?_
    refine n_op .no (q := 0) rfl (s_mv rfl ?_)
    refine n_op .no (q := 1) rfl (s_mv rfl ?_)
    refine n_call .no rfl rfl rfl ?_
    refine C.use (log_add_no hA7 hv7 (by omega) hm) fun v g8 n8 hw8 hn8 hq => ?_
    obtain ⟨rfl, k8⟩ := hq
    have hA8 := hA7.kp0 (k8.dn (by omega)) hw7
    refine n_op .no (q := 3) rfl (s_mv rfl ?_)
    refine n_op .no (q := 4) rfl (s_bin rfl rfl (bi_d un_4 rfl) ?_)
    refine n_nil ?_
    repeat (first | refine w_seq ?_ | refine w_blk ?_ | refine z_seq ?_ | refine z_blk ?_ | refine w_skip ?_)
    refine w_no rfl (rfl) ?_
    repeat (first | refine w_seq ?_ | refine w_blk ?_ | refine z_seq ?_ | refine z_blk ?_ | refine w_skip ?_)
    refine w_reg 9 rfl rfl (j' := 9) ?_
    refine n_op .no (q := 0) rfl (s_mv rfl ?_)
    refine n_op .no (q := 1) rfl (s_mv rfl ?_)
    refine n_call .no rfl rfl rfl ?_
    refine C.use (log_base hA8) fun v g9 n9 hw9 hn9 hq => ?_
    obtain ⟨rfl, k9⟩ := hq
    rw [hb.base]
    refine n_call .no rfl rfl rfl ?_
    refine C.use (log_from (rev := 0) (hA8.kp0 (k9.dn (by omega)) hw8) (by omega)) fun v g10 n10 hw10 hn10 hq => ?_
    obtain ⟨v10, rfl, hE10, k10⟩ := hq
    rw [hb.from_] at hE10 ⊢
    obtain ⟨a10, c10, rfl⟩ := hE10.lenE
    refine n_op .no (q := 4) rfl (s_mv rfl ?_)
    refine n_op .no (q := 5) rfl (s_ext rfl rfl ?_)
    refine n_op .no (q := 6) rfl (s_ext rfl rfl ?_)
    refine n_op .no (q := 7) rfl (s_as rfl ?_)
    refine n_op .no (q := 8) rfl (s_as rfl ?_)
    refine n_nil ?_
    have hE10' := ((hE7.kp0 (k8.dn (by omega)) hw7).kp0 (k9.dn (by omega)) hw8).kp0 (k10.dn (by omega)) hw9
    repeat (first | refine w_seq ?_ | refine w_blk ?_ | refine z_seq ?_ | refine z_blk ?_ | refine w_skip ?_)
    refine w_reg 29 rfl rfl (j' := 29) ?_
    refine n_op .no (q := 0) rfl (s_mv rfl ?_)
    refine n_op .no (q := 1) rfl (s_bin rfl rfl rfl ?_)
    refine n_op .no (q := 2) rfl (s_mv rfl ?_)
    refine n_op (.yes rfl rfl (rfl)) (q := 3) rfl (s_mv rfl ?_)
    refine n_op (.yes rfl rfl (rfl)) (q := 4) rfl (s_bin rfl rfl rfl ?_)
    refine n_op .no (q := 5) rfl (s_pt rfl (rfl) rfl ?_)
    refine n_op .no (q := 6) rfl (s_mv rfl ?_)
    refine n_op (.yes rfl rfl (rfl)) (q := 7) rfl (s_mv rfl ?_)
    refine n_op (.yes rfl rfl (rfl)) (q := 8) rfl (s_mv rfl ?_)
    refine n_op (.yes rfl rfl (rfl)) (q := 9) rfl (s_mv rfl ?_)
    refine n_op (.yes rfl rfl (rfl)) (q := 10) rfl (s_mv rfl ?_)
    refine n_call (.yes rfl rfl (rfl)) rfl rfl rfl ?_
    refine C.use (eqEvents_c hE10' hE10.rd (by show L.evs.length < 2 ^ 40; omega)) fun v g11 n11 hw11 hn11 hq => ?_
    obtain ⟨⟨rr, rfl, hrr⟩, k11⟩ := hq
    obtain rfl : rr = true := hrr.2 rfl
    refine n_op (.yes rfl rfl (rfl)) (q := 12) rfl (s_pf rfl (rfl) rfl ?_)
    refine n_op .no (q := 13) rfl (s_pt rfl (rfl) rfl ?_)
    refine n_op .no (q := 14) rfl (s_mv rfl ?_)
    refine n_op (.yes rfl rfl (rfl)) (q := 15) rfl (s_mv rfl ?_)
    refine n_op (.yes rfl rfl (rfl)) (q := 16) rfl (s_not rfl ?_)
    refine n_op (.yes rfl rfl (rfl)) (q := 17) rfl (s_mv rfl ?_)
    refine n_sk rfl rfl (rfl) ?_
    refine n_sk rfl rfl (rfl) ?_
    refine n_sk rfl rfl (rfl) ?_
    refine n_sk rfl rfl (rfl) ?_
    refine n_sk rfl rfl (rfl) ?_
    refine n_sk rfl rfl (rfl) ?_
    refine n_sk rfl rfl (rfl) ?_
    refine n_sk rfl rfl (rfl) ?_
    refine n_op (.yes rfl rfl (rfl)) (q := 26) rfl (s_pt rfl (rfl) rfl ?_)
    refine n_op .no (q := 27) rfl (s_pt rfl (rfl) rfl ?_)
    refine n_op .no (q := 28) rfl (s_as rfl ?_)
    refine n_nil ?_
    repeat (first | refine w_ret ?_ | refine w_seq ?_ | refine w_blk ?_ | refine z_seq ?_ | refine z_blk ?_ | refine w_skip ?_)
    refine z_r1 rfl rfl ?_
    rfl

end Go.Proofs.YtehmailaabjdjaaGreat
