/-
  LogOn answers true. No condition but that begun does.
-/
import Derived.Test.YtehmailaabjdjaaGreatLogQ
import Derived.Test.YtehmailaabjdjaaGreatEqs
open Go.Proofs
namespace Go.Proofs.YtehmailaabjdjaaGreat
set_option linter.unusedSimpArgs false
set_option linter.unusedVariables false
set_option maxRecDepth 100000

/-- The names of the rows that the law itself writes. -/
def two (a b : Value) (x : Nat) : Prop := vname a = some x ∨ vname b = some x

structure OnI (g1 : Gm) (n1 l i : Nat) (av gv : Value) (at_ : Int) (all : List Evt) (L : Log) (sl : Value) (g' : Gm) (n' : Nat) : Prop where
  nn : n1 ≤ n'
  kp : K0 g1 n1 g'
  al : EvsW g' av all
  go : EvsW g' gv (upTo at_ all)
  an : ∀ x, vname av = some x → n1 ≤ x ∧ vname gv ≠ some x
  gn : ∀ x, vname gv = some x → n1 ≤ x
  lg : LogAt n1 (hid g' (two av gv)) l sl L
  li : LogI L all
  at_ : 0 ≤ at_ ∧ at_ ≤ L.last
  most : 1 ≤ L.most ∧ L.most ≤ 20
  len : all.length ≤ 2 * i
  top : L.last ≤ 3 * i

theorem OnI.after {g1 : Gm} {n1 l i : Nat} {av gv : Value} {at_ : Int} {all : List Evt} {L : Log} {sl : Value} {g' g'' : Gm} {n' m n'' : Nat} (H : OnI g1 n1 l i av gv at_ all L sl g' n') (hw : WF g' n') (hk : K0 (hid g' (two av gv)) m (hid g'' (two av gv))) (hs : ∀ x, two av gv x → g'' x = g' x) (hm : n' ≤ m) (hn : m ≤ n'') :
    OnI g1 n1 l i av gv at_ all L sl g'' n'' := by
  have k := Kp.show0 (q := n') hk hs hm
  have := H.nn
  exact ⟨by omega, fun x o hx ho hf => k x o (by omega) (H.kp x o hx ho hf) id, H.al.kp0 k hw, H.go.kp0 k hw, H.an, H.gn, H.lg.kp0 (hk.dn hm) hw.unhid, H.li, H.at_, H.most, H.len, H.top⟩

/-- What was told is put behind what was told before. -/
theorem OnI.told {g1 : Gm} {n1 l i : Nat} {av gv w' : Value} {at_ : Int} {all fs : List Evt} {L : Log} {sl : Value} {g' g'' : Gm} {n' nm n'' : Nat} {csG csE : List Value} (H : OnI g1 n1 l i av gv at_ all L sl g' n') (hw : WF g' n') (hG : Gr g' g'' nm gv w') (hnm : n' ≤ nm) (hn : n' ≤ n'')
    (hRG : Rows 4 (EvC (BytesAt g')) csG (upTo at_ all)) (hRE : Rows 4 (EvC (BytesAt g')) csE fs) (hrow : SlOwn g'' 4 w' ((upTo at_ all).length + fs.length) (csG ++ csE)) (hfs : upTo at_ all ++ fs = all) :
    OnI g1 n1 l i av w' L.last all L sl g'' n'' := by
  have hnn := H.nn
  have hb := H.li.base
  have hgv : ∀ x, vname gv = some x → x < n' := fun x hx => H.go.lt hw hx
  have hav : ∀ x, vname av = some x → x < n' := fun x hx => H.al.lt hw hx
  have kF : Kp (fun y o => vname gv = some y ∧ nb o) g' n' g'' := hG.kp (Kp.refl _ _ _) hnm fun y hy => .inr fun o ho => ⟨hy, H.go.nbo hy ho⟩
  have hnam : ∀ x, vname w' = some x → vname gv = some x ∨ x = nm := fun x hx => by
    rcases hG.name with q | q | q
    · rw [q] at hx; cases hx
    · rw [q] at hx; exact .inl hx
    · rw [q] at hx; cases hx; exact .inr rfl
  refine ⟨by omega, fun x o hx ho hf => (hG.same x (by omega) (fun e => by have := H.gn x e; omega)).trans (H.kp x o hx ho hf), H.al.kp kF hw (fun x cl ro h => h.2 rfl) (fun x o hx _ h => (H.an x hx).2 h.1), ?_, ?_, ?_, ?_, H.li, ⟨by omega, Int.le_refl _⟩, H.most, H.len, H.top⟩
  · rw [upTo_all H.li.top, ← hfs]
    exact EvsW.app hRG hw kF (fun x cl ro h => h.2 rfl) (hRE.mono fun c x _ hx => hx.mono fun _ _ k => k.kp kF hw fun x cl ro h => h.2 rfl) hrow
  · intro x hx
    refine ⟨(H.an x hx).1, fun e => ?_⟩
    rcases hnam x e with q | q
    · exact (H.an x hx).2 q
    · have := hav x hx; omega
  · intro x hx
    rcases hnam x hx with q | q
    · exact H.gn x q
    · omega
  · refine H.lg.kp0 (n := n') (K0.unhid fun x o hx hp ho => ⟨fun e => ?_, (hG.same x (by omega) fun e => hp (.inr e)).trans ho⟩) hw.unhid
    rcases e with e | e
    · exact hp (.inl e)
    · rcases hnam x e with q | q
      · exact hp (.inr q)
      · omega

theorem upTo_len (r : Int) (es : List Evt) : (upTo r es).length ≤ es.length := List.length_filter_le _ _
theorem after_len (r : Int) (es : List Evt) : (after r es).length ≤ es.length := List.length_filter_le _ _

theorem u8c_nat (i : Nat) (hi : i < 256) : ([.int .u8 (IntKind.u8.wrap (i : Int))] : List Value) = u8c [UInt8.ofNat i] := by
  rw [u8_wrap (by omega) (by omega), Int.toNat_natCast]
  rfl

theorem logOn_c (hB : BegunOk) {g : Gm} {n : Nat} {most : Int} {v w : Value} {xs : List Int} {bs : List Bool} (h : IntsAt g v xs) (h' : BoolsAt g w bs) : C 17 #[.int .i64 most, v, w] g n fun u g' n' => u = .bool true := by
  obtain ⟨a, c, rfl⟩ := h.len
  obtain ⟨a', c', rfl⟩ := h'.len
  refine c_in3 Tryz.func17 rfl Tryz.ntmps17 rfl fun hw => ?_
  repeat (first | refine w_seq ?_ | refine w_blk ?_ | refine z_seq ?_ | refine z_blk ?_ | refine w_skip ?_)
  refine w_reg 1 rfl rfl (j' := 1) ?_
  refine n_op .no (q := 0) rfl (s_as rfl ?_)
  refine n_nil ?_
  repeat (first | refine w_seq ?_ | refine w_blk ?_ | refine z_seq ?_ | refine z_blk ?_ | refine w_skip ?_)
  refine w_reg 2 rfl rfl (j' := 3) ?_
  refine n_call .no rfl rfl rfl ?_
  refine C.use (hB _ _) fun v g1 n1 hw1 hn1 hq => ?_
  obtain ⟨rfl, rfl⟩ := hq
  refine n_op .no (q := 2) rfl (s_as rfl ?_)
  refine n_nil ?_
  repeat (first | refine w_seq ?_ | refine w_blk ?_ | refine z_seq ?_ | refine z_blk ?_ | refine w_skip ?_)
  refine w_reg 2 rfl rfl (j' := 2) ?_
  refine n_op .no (q := 0) rfl (s_mv rfl ?_)
  refine n_op .no (q := 1) rfl (s_not rfl ?_)
  refine n_nil ?_
  repeat (first | refine w_seq ?_ | refine w_blk ?_ | refine z_seq ?_ | refine z_blk ?_ | refine w_skip ?_)
  refine w_no rfl (rfl) ?_
  have h1 : IntsAt g1 (.slice a xs.length c) xs := h
  have h1' : BoolsAt g1 (.slice a' bs.length c') bs := h'
  have t1 := tmod_lt (a := most) (b := 20) (by decide)
  have t2 := tmod_nn (a := most.tmod 20 + 20) (b := 20) (by omega) (by decide)
  repeat (first | refine w_seq ?_ | refine w_blk ?_ | refine z_seq ?_ | refine z_blk ?_ | refine w_skip ?_)
  refine w_reg 6 rfl rfl (j' := 8) ?_
  refine n_op .no (q := 2) rfl (s_mv rfl ?_)
  refine n_op .no (q := 3) rfl (s_bin rfl rfl rfl ?_)
  refine n_op .no (q := 4) rfl (s_bin rfl rfl (r := .int .i64 (most.tmod 20 + 20)) (by first | exact bi_add (by omega) (by omega) (by omega) | exact bi_sub (by omega) (by omega) (by omega) | exact bi_add rfl (by omega) (by omega) | exact bi_sub rfl (by omega) (by omega)) ?_)
  refine n_op .no (q := 5) rfl (s_bin rfl rfl rfl ?_)
  refine n_op .no (q := 6) rfl (s_bin rfl rfl (r := .int .i64 (1 + (most.tmod 20 + 20).tmod 20)) (by first | exact bi_add (by omega) (by omega) (by omega) | exact bi_sub (by omega) (by omega) (by omega) | exact bi_add rfl (by omega) (by omega) | exact bi_sub rfl (by omega) (by omega)) ?_)
  refine n_op .no (q := 7) rfl (s_as rfl ?_)
  refine n_nil ?_
  generalize hM : 1 + (most.tmod 20 + 20).tmod 20 = M at *
  have hM1 : 1 ≤ M ∧ M ≤ 20 := by omega
  clear t1 t2 hM
  repeat (first | refine w_seq ?_ | refine w_blk ?_ | refine z_seq ?_ | refine z_blk ?_ | refine w_skip ?_)
  refine w_reg 3 rfl rfl (j' := 11) ?_
  refine n_op .no (q := 8) rfl (s_mv rfl ?_)
  refine n_call .no rfl rfl rfl ?_
  refine C.use (log_new g1 _ M) fun v g2 n2 hw2 hn2 hq => ?_
  obtain ⟨l, rfl, hl, hA, k2⟩ := hq
  refine n_op .no (q := 10) rfl (s_as rfl ?_)
  refine n_nil ?_
  have hm : min (max M 1) 1000 = M := by omega
  rw [hm] at hA
  repeat (first | refine w_seq ?_ | refine w_blk ?_ | refine z_seq ?_ | refine z_blk ?_ | refine w_skip ?_)
  refine w_reg 2 rfl rfl (j' := 2) ?_
  refine n_op .no (q := 0) rfl (s_as rfl ?_)
  refine n_op .no (q := 1) rfl (s_as rfl ?_)
  refine n_nil ?_
  repeat (first | refine w_seq ?_ | refine w_blk ?_ | refine z_seq ?_ | refine z_blk ?_ | refine w_skip ?_)
  refine w_reg 2 rfl rfl (j' := 4) ?_
  refine n_op .no (q := 2) rfl (s_as rfl ?_)
  refine n_op .no (q := 3) rfl (s_as rfl ?_)
  refine n_nil ?_
  repeat (first | refine w_seq ?_ | refine w_blk ?_ | refine z_seq ?_ | refine z_blk ?_ | refine w_skip ?_)
  refine w_reg 1 rfl rfl (j' := 5) ?_
  refine n_op .no (q := 4) rfl (s_as rfl ?_)
  refine n_nil ?_
  repeat (first | refine w_seq ?_ | refine w_blk ?_ | refine z_seq ?_ | refine z_blk ?_ | refine w_skip ?_)
  refine w_reg 1 rfl rfl (j' := 6) ?_
  refine n_op .no (q := 5) rfl (s_as rfl ?_)
  refine n_nil ?_
  have hA0 : LogAt n1 (hid g2 (two (.slice none 0 0) (.slice none 0 0))) l (.slice none 0 0) ⟨[], M, 0, 0⟩ :=
    (LogAt.kp0 (n := n2) (g' := hid g2 (two (.slice none 0 0) (.slice none 0 0))) hA (fun x o hx ho _ => hid_some.2 ⟨(fun e => by rcases e with e | e <;> cases e), ho⟩) hw2).up (by omega)
  refine z_seq ?_
  refine z_meet (β := Nat × Value × Value × Int × Bool) (fun x => [(8, .pointer (some ⟨l, 0, none⟩)), (9, x.2.1), (10, x.2.2.1), (12, .int .i64 x.2.2.2.1), (13, .bool x.2.2.2.2)])
    (fun x g' n' => ∃ all L sl, x.1 ≤ 60 ∧ OnI g1 n1 l x.1 x.2.1 x.2.2.1 x.2.2.2.1 all L sl g' n' ∧ (x.2.2.2.2 = true → x.2.2.2.1 < L.base)) ?_ ?_
  · repeat (first | refine w_seq ?_ | refine w_blk ?_ | refine z_seq ?_ | refine z_blk ?_ | refine w_skip ?_)
    refine w_loop (β := Nat × Value × Value × Int × Int) (fun x => [(1, .slice a xs.length c), (2, .slice a' bs.length c'), (8, .pointer (some ⟨l, 0, none⟩)), (9, x.2.1), (10, x.2.2.1), (11, .int .i64 x.2.2.2.2), (12, .int .i64 x.2.2.2.1), (13, .bool false), (14, .int .i64 (x.1 : Int))])
      (fun x g' n' => x.1 ≤ 60 ∧ ∃ all L sl, OnI g1 n1 l x.1 x.2.1 x.2.2.1 x.2.2.2.1 all L sl g' n' ∧ L.last = x.2.2.2.2) (fun x => 60 - x.1) (0, .slice none 0 0, .slice none 0 0, 0, 0) ⟨rfl, rfl, rfl, rfl, rfl, rfl, rfl, rfl, rfl, trivial⟩
      ⟨by omega, [], ⟨[], M, 0, 0⟩, _, ⟨by omega, k2.dn (by omega), EvsW.nil _, EvsW.nil _, (fun x hx => by cases hx), (fun x hx => by cases hx), hA0, ⟨rfl, List.Pairwise.nil, (fun e he => by cases he), ⟨Int.le_refl _, Int.le_refl _⟩⟩, ⟨Int.le_refl _, Int.le_refl _⟩, hM1, Nat.le_refl _, Int.le_refl _⟩, rfl⟩ ?_
    rintro ⟨i, av, gv, tt, rv⟩ f g3 n3 hw3 ⟨hi60, all, L, sl, H, hrv⟩
    simp only at H hrv hi60
    subst hrv
    by_cases c1 : i < xs.length
    · by_cases c2 : i < bs.length
      · by_cases c3 : i < 60
        · have hat := H.at_
          have hnn := H.nn
          have htop := H.top
          have hL0 := H.li.base
          have hmost := H.most
          repeat (first | refine w_seq ?_ | refine w_blk ?_ | refine z_seq ?_ | refine z_blk ?_ | refine w_skip ?_)
          refine w_reg 14 rfl rfl (j' := 14) ?_
          refine n_op .no (q := 0) rfl (s_mv rfl ?_)
          refine n_op .no (q := 1) rfl (s_mv rfl ?_)
          refine n_op .no (q := 2) rfl (s_len rfl rfl un_102 rfl ?_)
          refine n_op .no (q := 3) rfl (s_bin rfl rfl rfl ?_)
          refine n_op .no (q := 4) rfl (s_mv rfl ?_)
          refine n_op (.yes rfl rfl (decide_eq_true (by omega))) (q := 5) rfl (s_mv rfl ?_)
          refine n_op (.yes rfl rfl (decide_eq_true (by omega))) (q := 6) rfl (s_mv rfl ?_)
          refine n_op (.yes rfl rfl (decide_eq_true (by omega))) (q := 7) rfl (s_len rfl rfl un_103 rfl ?_)
          refine n_op (.yes rfl rfl (decide_eq_true (by omega))) (q := 8) rfl (s_bin rfl rfl rfl ?_)
          refine n_op .no (q := 9) rfl (s_pt rfl (decide_eq_true (by omega)) rfl ?_)
          refine n_op .no (q := 10) rfl (s_mv rfl ?_)
          refine n_op (.yes rfl rfl (decide_eq_true (by omega))) (q := 11) rfl (s_mv rfl ?_)
          refine n_op (.yes rfl rfl (decide_eq_true (by omega))) (q := 12) rfl (s_bin rfl rfl rfl ?_)
          refine n_op .no (q := 13) rfl (s_pt rfl (decide_eq_true (by omega)) rfl ?_)
          refine n_nil ?_
          repeat (first | refine w_seq ?_ | refine w_blk ?_ | refine z_seq ?_ | refine z_blk ?_ | refine w_skip ?_)
          refine w_yes rfl (decide_eq_true (by omega)) ?_
          obtain ⟨lx, ox, cx, clx, rox, q1, q2, q3⟩ := (h1.kp0 (H.kp.dn (by omega)) hw1).at c1
          obtain ⟨z, hz⟩ : ∃ z, xs[i]'c1 = z := ⟨_, rfl⟩
          rw [hz] at q3
          clear hz
          cases q1
          obtain ⟨ly, oy, cy, cly, roy, p1, p2, p3⟩ := (h1'.kp0 (H.kp.dn (by omega)) hw1).at c2
          cases p1
          have t1 := tmod_lt (a := z) (b := 3) (by decide)
          have t2 := tmod_nn (a := z.tmod 3 + 3) (b := 3) (by omega) (by decide)
          have t3 := tmod_lt (a := z) (b := 2) (by decide)
          have t4 := tmod_nn (a := z.tmod 2 + 2) (b := 2) (by omega) (by decide)
          repeat (first | refine w_seq ?_ | refine w_blk ?_ | refine z_seq ?_ | refine z_blk ?_ | refine w_skip ?_)
          refine w_reg 11 rfl rfl (j' := 25) ?_
          refine n_op .no (q := 14) rfl (s_mv rfl ?_)
          refine n_op .no (q := 15) rfl (s_mv rfl ?_)
          refine n_op .no (q := 16) rfl (s_mv rfl ?_)
          refine n_op .no (q := 17) rfl (s_ia rfl rfl el_102 (by first | assumption | omega) ?_)
          refine n_op .no (q := 18) rfl (s_ld rfl (by repeat (first | exact gs_same _ _ _ | exact q2 | exact q3 | refine (gs_ne (by omega) _).trans ?_)) ag_3 (by first | exact rfl | exact q2 | exact q3) ?_)
          refine n_op .no (q := 19) rfl (s_bin rfl rfl rfl ?_)
          refine n_op .no (q := 20) rfl (s_bin rfl rfl (r := .int .i64 (z.tmod 3 + 3)) (by first | exact bi_add (by omega) (by omega) (by omega) | exact bi_sub (by omega) (by omega) (by omega) | exact bi_add rfl (by omega) (by omega) | exact bi_sub rfl (by omega) (by omega)) ?_)
          refine n_op .no (q := 21) rfl (s_bin rfl rfl rfl ?_)
          refine n_op .no (q := 22) rfl (s_bin rfl rfl (r := .int .i64 (1 + (z.tmod 3 + 3).tmod 3)) (by first | exact bi_add (by omega) (by omega) (by omega) | exact bi_sub (by omega) (by omega) (by omega) | exact bi_add rfl (by omega) (by omega) | exact bi_sub rfl (by omega) (by omega)) ?_)
          refine n_op .no (q := 23) rfl (s_bin rfl rfl (r := .int .i64 (L.last + (1 + (z.tmod 3 + 3).tmod 3))) (by first | exact bi_add (by omega) (by omega) (by omega) | exact bi_sub (by omega) (by omega) (by omega) | exact bi_add rfl (by omega) (by omega) | exact bi_sub rfl (by omega) (by omega)) ?_)
          refine n_op .no (q := 24) rfl (s_as rfl ?_)
          refine n_nil ?_
          generalize hr : L.last + (1 + (z.tmod 3 + 3).tmod 3) = r at *
          have hr1 : L.last < r ∧ r ≤ L.last + 3 := by omega
          repeat (first | refine w_seq ?_ | refine w_blk ?_ | refine z_seq ?_ | refine z_blk ?_ | refine w_skip ?_)
          refine w_reg 1 rfl rfl (j' := 26) ?_
          refine n_op .no (q := 25) rfl (s_as rfl ?_)
          refine n_nil ?_
          repeat (first | refine w_seq ?_ | refine w_blk ?_ | refine z_seq ?_ | refine z_blk ?_ | refine w_skip ?_)
          refine w_reg 1 rfl rfl (j' := 27) ?_
          refine n_op .no (q := 26) rfl (s_as rfl ?_)
          refine n_nil ?_
          repeat (first | refine w_seq ?_ | refine w_blk ?_ | refine z_seq ?_ | refine z_blk ?_ | refine w_skip ?_)
          obtain ⟨mm, hmm⟩ : ∃ mm : Nat, (z.tmod 2 + 2).tmod 2 = (mm : Int) := ⟨_, (Int.toNat_of_nonneg t4.1).symm⟩
          have hmm1 : mm ≤ 1 := by omega
          clear hr t1 t2
          refine w_loop (β := Nat × Value) (fun x => [(1, .slice (some ⟨lx, ox, none⟩) xs.length c), (2, .slice (some ⟨ly, oy, none⟩) bs.length c'), (8, .pointer (some ⟨l, 0, none⟩)), (9, av), (10, gv), (11, .int .i64 r), (12, .int .i64 tt), (13, .bool false), (14, .int .i64 (i : Int)), (15, x.2), (16, .int .i64 (x.1 : Int))])
            (fun x g' n' => x.1 ≤ mm + 1 ∧ n3 ≤ n' ∧ EvsW g' x.2 (bat r (UInt8.ofNat i) x.1) ∧ (∀ y, vname x.2 = some y → n3 ≤ y) ∧ K0 g3 n3 g') (fun x => mm + 1 - x.1) (0, .slice none 0 0) ⟨rfl, rfl, rfl, rfl, rfl, rfl, rfl, rfl, rfl, rfl, rfl, trivial⟩
            ⟨Nat.zero_le _, by omega, EvsW.nil _, (fun y hy => by cases hy), (by repeat (first | exact Kp.refl _ _ _ | refine Kp.new ?_ (by omega) _))⟩ ?_
          rintro ⟨k, ev⟩ f g4 n4 hw4 ⟨hkm, hn4, hE4, hf4, k4⟩
          simp only at hkm hE4 hf4
          have q24 := k4.at0 hw3 q2
          repeat (first | refine w_seq ?_ | refine w_blk ?_ | refine z_seq ?_ | refine z_blk ?_ | refine w_skip ?_)
          refine w_reg 9 rfl rfl (j' := 9) ?_
          refine n_op .no (q := 0) rfl (s_mv rfl ?_)
          refine n_op .no (q := 1) rfl (s_mv rfl ?_)
          refine n_op .no (q := 2) rfl (s_mv rfl ?_)
          refine n_op .no (q := 3) rfl (s_ia rfl rfl el_102 (by first | assumption | omega) ?_)
          refine n_op .no (q := 4) rfl (s_ld rfl (by repeat (first | exact gs_same _ _ _ | exact q24 | exact q3 | refine (gs_ne (by omega) _).trans ?_)) ag_3 (by first | exact rfl | exact q24 | exact q3) ?_)
          refine n_op .no (q := 5) rfl (s_bin rfl rfl rfl ?_)
          refine n_op .no (q := 6) rfl (s_bin rfl rfl (r := .int .i64 (z.tmod 2 + 2)) (by first | exact bi_add (by omega) (by omega) (by omega) | exact bi_sub (by omega) (by omega) (by omega) | exact bi_add rfl (by omega) (by omega) | exact bi_sub rfl (by omega) (by omega)) ?_)
          refine n_op .no (q := 7) rfl (s_bin rfl rfl rfl ?_)
          refine n_op .no (q := 8) rfl (s_bin rfl rfl rfl ?_)
          refine n_nil ?_
          rw [hmm]
          repeat (first | refine w_seq ?_ | refine w_blk ?_ | refine z_seq ?_ | refine z_blk ?_ | refine w_skip ?_)
          refine w_if rfl (fun hb => ?_) (fun hb => ?_)
          · have hk : k ≤ mm := by simpa using hb
            have hi1 : i < 256 := by omega
            repeat (first | refine w_seq ?_ | refine w_blk ?_ | refine z_seq ?_ | refine z_blk ?_ | refine w_skip ?_)
            refine w_reg 14 rfl rfl (j' := 23) ?_
            refine n_op .no (q := 9) rfl (s_mv rfl ?_)
            refine n_op .no (q := 10) rfl (s_mv rfl ?_)
            refine n_op .no (q := 11) rfl (s_mv rfl ?_)
            refine n_op .no (q := 12) rfl (s_bin rfl rfl (r := .int .i64 (97 + (k : Int))) (by first | exact bi_add (by omega) (by omega) (by omega) | exact bi_sub (by omega) (by omega) (by omega) | exact bi_add rfl (by omega) (by omega) | exact bi_sub rfl (by omega) (by omega)) ?_)
            refine n_op .no (q := 13) rfl (s_i2b un_3 un_5 rfl ?_)
            refine n_op .no (q := 14) rfl (s_bs el_26 ez_26 rfl rfl rfl ?_)
            refine n_op .no (q := 15) rfl (s_b2s un_26 un_9 un_5 rfl (BytesNew.at (bytes_row (b := 0) (bs := [UInt8.ofNat (97 + k)]) (gs_same _ _ _) (u8c_one1 k (by omega)) (by omega))) fun tc => ?_)
            refine n_op .no (q := 16) rfl (s_mv rfl ?_)
            refine n_op .no (q := 17) rfl (s_i2b un_3 un_5 rfl ?_)
            refine n_op .no (q := 18) rfl (s_bs el_26 ez_26 rfl rfl rfl ?_)
            refine n_op .no (q := 19) rfl (s_bld pl_82 zl_82 rfl rfl rfl ?_)
            refine n_op .no (q := 20) rfl (s_bs el_65 ez_65 rfl rfl rfl ?_)
            obtain ⟨cs, hs, hR⟩ := id hE4
            rw [bat_len] at hs
            refine n_op .no (q := 21) rfl (s_app app65 rfl rfl (hs.kp0 (n := n4) (by repeat (first | exact Kp.refl _ _ _ | refine Kp.new ?_ (by omega) _)) hw4) (src_one (gs_same _ _ _) rfl) rfl (by omega) fun a5 c5 g5 tc5 wr5 hrow hgr => ?_)
            refine n_op .no (q := 22) rfl (s_as rfl ?_)
            refine n_nil ?_
            repeat (first | refine w_seq ?_ | refine w_blk ?_ | refine z_seq ?_ | refine z_blk ?_ | refine w_skip ?_)
            repeat (first | refine w_seq ?_ | refine w_blk ?_ | refine z_seq ?_ | refine z_blk ?_ | refine w_skip ?_)
            refine w_reg 3 rfl rfl (j' := 26) ?_
            refine n_op .no (q := 23) rfl (s_mv rfl ?_)
            first | refine n_op .no (q := 24) rfl (s_bin rfl rfl (bi_inc (by omega)) ?_) | refine n_op .no (q := 24) rfl (s_bin rfl rfl (bi_add rfl (by omega) (by omega)) ?_)
            refine n_op .no (q := 25) rfl (s_as rfl ?_)
            refine n_nil ?_
            have hev : ∀ y, vname ev = some y → y < n4 := fun y hy => hE4.lt hw4 hy
            have k5 : K0 g3 n3 g5 := hgr.kp (Kp.new (Kp.new (Kp.new k4 (by omega) _) (by omega) _) (by omega) _) (by omega) fun y hy => .inl (hf4 y hy)
            have kF : Kp (fun y o => vname ev = some y ∧ nb o) g4 n4 g5 := hgr.kp (Kp.new (Kp.new (Kp.new (Kp.refl _ _ _) (by omega) _) (by omega) _) (by omega) _) (by omega) fun y hy => .inr fun o ho => ⟨hy, hE4.nbo hy ho⟩
            have hby : BytesAt g5 (.slice (some ⟨n4 + 18, 0, none⟩) 1 1) [UInt8.ofNat i] := BytesNew.at (bytes_row (b := 0) (bs := [UInt8.ofNat i]) ((hgr.same _ (by omega) (fun e => by have := hev _ e; omega)).trans (by repeat (first | exact gs_same _ _ _ | refine (gs_ne (by omega) _).trans ?_))) (u8c_nat i hi1) (by omega))
            refine z_round (k + 1, .slice a5 (k + 1) c5) ⟨rfl, rfl, rfl, rfl, rfl, rfl, rfl, rfl, rfl, rfl, rfl, trivial⟩ ⟨by show k + 1 ≤ mm + 1; omega, by omega, ?_, ?_, k5⟩ (by simp only; omega)
            · simp only
              rw [bat_succ]
              refine EvsW.app hR hw4 kF (fun x cl ro h => h.2 rfl) (Rows.one rfl ⟨_, _, rfl, hby, by show 1 ≤ 2 ^ 46; decide⟩) ?_
              rw [bat_len]
              exact hrow
            · intro y hy
              rcases hgr.name with e | e | e
              · rw [e] at hy; cases hy
              · rw [e] at hy; exact hf4 y hy
              · rw [e] at hy; cases hy; omega
          refine w_exit rfl ?_
          have hkm : k = mm + 1 := by simp at hb; omega
          subst hkm
          have hne : bat r (UInt8.ofNat i) (mm + 1) ≠ [] := fun e => by have := bat_len r (UInt8.ofNat i) (mm + 1); rw [e] at this; simp at this
          obtain ⟨hLI, hlast, hmo⟩ := H.li.add hne bat_rev hr1.1
          have hav : ∀ x, vname av = some x → x < n3 := fun x hx => H.al.lt hw3 hx
          have hgv : ∀ x, vname gv = some x → x < n3 := fun x hx => H.go.lt hw3 hx
          have hp3 : ∀ x, two av gv x → x < n3 := fun x hx => hx.elim (hav x) (hgv x)
          have hal4 := H.al.kp0 k4 hw3
          have hgo4 := H.go.kp0 k4 hw3
          have hA4 : LogAt n1 (hid g4 (two av gv)) l sl L := H.lg.kp0 (n := n3) (K0.unhid fun x o hx hp ho => ⟨hp, k4 x o hx ho id⟩) hw3.unhid
          have hsl : ∀ x, vname sl = some x → x < n3 := fun x hx => H.lg.evs.lt hw3.unhid hx
          have hnbp : ∀ x o, two av gv x → g4 x = some o → nb o := fun x o hx ho => hx.elim (fun e => hal4.nbo e ho) (fun e => hgo4.nbo e ho)
          have hE4' : EvsRd (hid g4 (two av gv)) ev (bat r (UInt8.ofNat i) (mm + 1)) := hE4.rd.toHid hw4 hnbp fun x hx hp => by have := hf4 x hx; have := hp3 x hp; omega
          have hev : ∀ y, vname ev = some y → y < n4 := fun y hy => hE4.lt hw4 hy
          have hlen := H.li.len
          have hlen2 := H.len
          repeat (first | refine w_seq ?_ | refine w_blk ?_ | refine z_seq ?_ | refine z_blk ?_ | refine w_skip ?_)
          refine w_reg 4 rfl rfl (j' := 13) ?_
          refine n_op .no (q := 9) rfl (s_mv rfl ?_)
          refine n_op .no (q := 10) rfl (s_mv rfl ?_)
          refine n_call .no rfl rfl rfl ?_
          refine C.use ((C.frame (p := two av gv) (fun x hx => by have := hp3 x hx; omega) (log_add_yes hA4 (by omega) hE4' (fun x hx e => by have := hf4 x hx; have := hsl x e; omega) (by rw [bat_len]; omega) (by omega) (may_const hne bat_rev hr1.1)))) fun v g5 n5 hw5 hn5 hq => ?_
          obtain ⟨⟨rfl, sl', hA5, hM5, k5⟩, hsame⟩ := hq
          refine n_op .no (q := 12) rfl (s_not rfl ?_)
          refine n_nil ?_
          repeat (first | refine w_seq ?_ | refine w_blk ?_ | refine z_seq ?_ | refine z_blk ?_ | refine w_skip ?_)
          refine w_no rfl (rfl) ?_
          have k5' : K0 g4 n1 g5 := k5.logHid hsame (by omega) hA4.evs.from_ (by omega)
          have k6 : K0 g1 n1 g5 := fun x o hx ho hf => k5' x o hx (k4 x o (by have := H.nn; omega) (H.kp x o hx ho hf) id) id
          have kP := k5.logFP hsame
          have hal5 : EvsW g5 av all := hal4.kp (kP.dn (by omega)) hw4 (FP.nob _) fun x o hx _ e => e.1 (.inl hx)
          have hgo5 : EvsW g5 gv (upTo tt all) := hgo4.kp (kP.dn (by omega)) hw4 (FP.nob _) fun x o hx _ e => e.1 (.inr hx)
          have hE5 : EvsRd g5 ev (bat r (UInt8.ofNat i) (mm + 1)) := by
            refine EvsRd.ofHid (p := two av gv) (hE4'.kp (k5.dn (n := _) (m := n4) (by omega)) hw4.unhid (FL.nob _ _) fun x o hx _ e => ?_)
            rcases e.1 with e | e
            · have := hf4 x hx
              have := hw3.unhid _ _ H.lg.cell
              omega
            · have := hf4 x hx
              have := hsl x e
              omega
          repeat (first | refine w_seq ?_ | refine w_blk ?_ | refine z_seq ?_ | refine z_blk ?_ | refine w_skip ?_)
          refine w_reg 4 rfl rfl (j' := 4) ?_
          refine n_op .no (q := 0) rfl (s_mv rfl ?_)
          refine n_op .no (q := 1) rfl (s_mv rfl ?_)
          obtain ⟨csA, hsA, hRA⟩ := id hal5
          obtain ⟨csE, hsE, hRE⟩ := id hE5
          rw [bat_len] at hsE
          refine n_op .no (q := 2) rfl (s_app app65 rfl rfl (hsA.kp0 (n := n5) (by repeat (first | exact Kp.refl _ _ _ | refine Kp.new ?_ (by omega) _)) hw5) hsE.src (evs_plain hRE) (by omega) fun a6 c6 g6 tc6 wr6 hrow6 hgr6 => ?_)
          refine n_op .no (q := 3) rfl (s_as rfl ?_)
          refine n_nil ?_
          have hnm6 : ∀ x, vname (.slice a6 (all.length + (mm + 1)) c6) = some x → vname av = some x ∨ n5 ≤ x := fun x hx => by
            rcases hgr6.name with q | q | q
            · rw [q] at hx; cases hx
            · rw [q] at hx; exact .inl hx
            · rw [q] at hx; cases hx; exact .inr (by omega)
          have kF6 : Kp (fun y o => vname av = some y ∧ nb o) g5 n5 g6 := hgr6.kp (Kp.refl _ _ _) (by omega) fun y hy => .inr fun o ho => ⟨hy, hal5.nbo hy ho⟩
          repeat (first | refine w_seq ?_ | refine w_blk ?_ | refine z_seq ?_ | refine z_blk ?_ | refine w_skip ?_)
          refine w_wf fun hw6 => ?_
          have H6 : OnI g1 n1 l (i + 1) (.slice a6 (all.length + (mm + 1)) c6) gv tt (all ++ bat r (UInt8.ofNat i) (mm + 1)) (L.add (bat r (UInt8.ofNat i) (mm + 1))) sl' g6 (n5 + 4) := by
            refine ⟨by omega, fun x o hx ho hf => (hgr6.same x (by omega) (fun e => by have := (H.an x e).1; omega)).trans (k6 x o hx ho hf), ?_, ?_, ?_, H.gn, ?_, hLI, ⟨by omega, by omega⟩, by rw [hmo]; exact hmost, by rw [List.length_append, bat_len]; omega, by omega⟩
            · exact EvsW.app hRA hw5 kF6 (fun x cl ro h => h.2 rfl) (hRE.mono fun c x _ hx => hx.mono fun _ _ k => k.kp kF6 hw5 fun x cl ro h => h.2 rfl) (by rw [bat_len]; exact hrow6)
            · have e : upTo tt (all ++ bat r (UInt8.ofNat i) (mm + 1)) = upTo tt all := by
                unfold upTo
                rw [List.filter_append]
                have : (bat r (UInt8.ofNat i) (mm + 1)).filter (fun e => decide (e.rev ≤ tt)) = [] := upTo_none fun e he => by rw [bat_rev e he]; omega
                rw [this, List.append_nil]
              rw [e]
              exact hgo5.kp kF6 hw5 (fun x cl ro h => h.2 rfl) fun x o hx _ h => (H.an x h.1).2 hx
            · intro x hx
              rcases hnm6 x hx with q | q
              · exact H.an x q
              · exact ⟨by omega, fun e => by have := hgv x e; omega⟩
            · refine hA5.kp0 (n := n5) (K0.unhid fun x o hx hp ho => ⟨fun e => ?_, (hgr6.same x (by omega) fun e => hp (.inl e)).trans ho⟩) hw5.unhid
              rcases e with e | e
              · rcases hnm6 x e with q | q
                · exact hp (.inl q)
                · omega
              · exact hp (.inr e)
          generalize hav6 : (.slice a6 (all.length + (mm + 1)) c6 : Value) = av6 at *
          generalize hall6 : all ++ bat r (UInt8.ofNat i) (mm + 1) = all6 at *
          generalize hL6 : L.add (bat r (UInt8.ofNat i) (mm + 1)) = L6 at *
          clear hLI hmo hE4' hE5 hE4 hRE hRA hsA hsE hrow6 hgr6 kF6 hnm6 hA5 hA4 hal4 hgo4 hal5 hgo5 k5 k5' kP hM5 H hav6 hall6 hL6
          have hp6 : ∀ x, two av6 gv x → x < n5 + 4 := fun x hx => hx.elim (fun e => H6.al.lt hw6 e) (fun e => H6.go.lt hw6 e)
          have hlen6 := H6.len
          have hlv6 := H6.li.len
          have hat6 := H6.at_
          obtain ⟨_, _, _, cly6, roy6, p16, p26, p36⟩ := (h1'.kp0 (H6.kp.dn (by omega)) hw1).at c2
          cases p16
          repeat (first | refine w_seq ?_ | refine w_blk ?_ | refine z_seq ?_ | refine z_blk ?_ | refine w_skip ?_)
          refine w_reg 4 rfl rfl (j' := 8) ?_
          refine n_op .no (q := 4) rfl (s_mv rfl ?_)
          refine n_op .no (q := 5) rfl (s_mv rfl ?_)
          refine n_op .no (q := 6) rfl (s_ia rfl rfl el_103 (by first | assumption | omega) ?_)
          refine n_op .no (q := 7) rfl (s_ld rfl (by repeat (first | exact gs_same _ _ _ | exact p26 | exact p36 | refine (gs_ne (by omega) _).trans ?_)) ag_4 (by first | exact rfl | exact p26 | exact p36) ?_)
          refine n_nil ?_
          repeat (first | refine w_seq ?_ | refine w_blk ?_ | refine z_seq ?_ | refine z_blk ?_ | refine w_skip ?_)
          refine w_if rfl (fun hb2 => ?_) (fun hb2 => ?_)
          · repeat (first | refine w_seq ?_ | refine w_blk ?_ | refine z_seq ?_ | refine z_blk ?_ | refine w_skip ?_)
            refine w_reg 8 rfl rfl (j' := 16) ?_
            refine n_op .no (q := 8) rfl (s_mv rfl ?_)
            refine n_op .no (q := 9) rfl (s_mv rfl ?_)
            refine n_call .no rfl rfl rfl ?_
            refine C.use ((C.frame (p := two av6 gv) (fun x hx => by have := hp6 x hx; omega) (log_from (rev := tt) H6.lg (by omega)))) fun v g8 n8 hw8 hn8 hq => ?_
            obtain ⟨⟨v8, rfl, hE8, k8⟩, hs8⟩ := hq
            have H8 := H6.after hw6 k8 hs8 (by omega) (Nat.le_of_lt_succ (Nat.lt_succ_of_le hn8))
            rw [H6.li.from_ hat6.2] at hE8 ⊢
            by_cases hlate : tt < L6.base
            · rw [if_pos hlate] at hE8 ⊢
              obtain ⟨a8, c8, rfl⟩ := hE8.lenE
              refine n_op .no (q := 11) rfl (s_mv rfl ?_)
              refine n_op .no (q := 12) rfl (s_ext rfl rfl ?_)
              refine n_op .no (q := 13) rfl (s_ext rfl rfl ?_)
              refine n_op .no (q := 14) rfl (s_as rfl ?_)
              refine n_op .no (q := 15) rfl (s_as rfl ?_)
              refine n_nil ?_
              repeat (first | refine w_seq ?_ | refine w_blk ?_ | refine z_seq ?_ | refine z_blk ?_ | refine w_skip ?_)
              refine w_reg 2 rfl rfl (j' := 2) ?_
              refine n_op .no (q := 0) rfl (s_mv rfl ?_)
              refine n_op .no (q := 1) rfl (s_bin rfl rfl rfl ?_)
              refine n_nil ?_
              repeat (first | refine w_seq ?_ | refine w_blk ?_ | refine z_seq ?_ | refine z_blk ?_ | refine w_skip ?_)
              refine w_yes rfl (rfl) ?_
              repeat (first | refine w_seq ?_ | refine w_blk ?_ | refine z_seq ?_ | refine z_blk ?_ | refine w_skip ?_)
              refine w_reg 1 rfl rfl (j' := 3) ?_
              refine n_op .no (q := 2) rfl (s_as rfl ?_)
              refine n_nil ?_
              repeat (first | refine w_seq ?_ | refine w_blk ?_ | refine z_seq ?_ | refine z_blk ?_ | refine w_skip ?_)
              refine w_exit rfl ?_
              exact z_met (i + 1, av6, gv, tt, true) ⟨rfl, rfl, rfl, rfl, rfl, trivial⟩ ⟨all6, L6, sl', by show i + 1 ≤ 60; omega, { H8 with nn := by have := H8.nn; omega }, fun _ => hlate⟩
            · rw [if_neg hlate] at hE8 ⊢
              obtain ⟨a8, c8, rfl⟩ := hE8.lenE
              refine n_op .no (q := 11) rfl (s_mv rfl ?_)
              refine n_op .no (q := 12) rfl (s_ext rfl rfl ?_)
              refine n_op .no (q := 13) rfl (s_ext rfl rfl ?_)
              refine n_op .no (q := 14) rfl (s_as rfl ?_)
              refine n_op .no (q := 15) rfl (s_as rfl ?_)
              refine n_nil ?_
              repeat (first | refine w_seq ?_ | refine w_blk ?_ | refine z_seq ?_ | refine z_blk ?_ | refine w_skip ?_)
              refine w_reg 2 rfl rfl (j' := 2) ?_
              refine n_op .no (q := 0) rfl (s_mv rfl ?_)
              refine n_op .no (q := 1) rfl (s_bin rfl rfl rfl ?_)
              refine n_nil ?_
              repeat (first | refine w_seq ?_ | refine w_blk ?_ | refine z_seq ?_ | refine z_blk ?_ | refine w_skip ?_)
              refine w_no rfl (rfl) ?_
              repeat (first | refine w_seq ?_ | refine w_blk ?_ | refine z_seq ?_ | refine z_blk ?_ | refine w_skip ?_)
              refine w_reg 2 rfl rfl (j' := 4) ?_
              refine n_op .no (q := 2) rfl (s_mv rfl ?_)
              refine n_op .no (q := 3) rfl (s_bin rfl rfl rfl ?_)
              refine n_nil ?_
              repeat (first | refine w_seq ?_ | refine w_blk ?_ | refine z_seq ?_ | refine z_blk ?_ | refine w_skip ?_)
              refine w_no rfl (rfl) ?_
              obtain ⟨csG, hsG, hRG⟩ := id H8.go
              obtain ⟨csF, hsF, hRF⟩ := hE8.rd.ofHid
              have u1 := upTo_len tt all6
              have u2 := after_len tt all6
              have u3 : ((after tt all6, (0 : Int)).1).length ≤ all6.length := u2
              repeat (first | refine w_seq ?_ | refine w_blk ?_ | refine z_seq ?_ | refine z_blk ?_ | refine w_skip ?_)
              refine w_reg 4 rfl rfl (j' := 8) ?_
              refine n_op .no (q := 4) rfl (s_mv rfl ?_)
              refine n_op .no (q := 5) rfl (s_mv rfl ?_)
              refine n_op .no (q := 6) rfl (s_app app65 rfl rfl (hsG.kp0 (n := n8) (by repeat (first | exact Kp.refl _ _ _ | refine Kp.new ?_ (by omega) _)) hw8) hsF.src (evs_plain hRF) (by omega) fun a9 c9 g9 tc9 wr9 hrow9 hgr9 => ?_)
              refine n_op .no (q := 7) rfl (s_as rfl ?_)
              refine n_nil ?_
              repeat (first | refine w_seq ?_ | refine w_blk ?_ | refine z_seq ?_ | refine z_blk ?_ | refine w_skip ?_)
              refine w_wf fun hw9 => ?_
              have H9 := H8.told (n'' := n8 + 8) hw8 hgr9 (by omega) (by omega) hRG hRF hrow9 (split_asc H8.li.asc)
              repeat (first | refine w_seq ?_ | refine w_blk ?_ | refine z_seq ?_ | refine z_blk ?_ | refine w_skip ?_)
              refine w_reg 3 rfl rfl (j' := 11) ?_
              refine n_op .no (q := 8) rfl (s_mv rfl ?_)
              refine n_call .no rfl rfl rfl ?_
              refine C.use ((C.frame (p := two av6 (.slice a9 ((upTo tt all6).length + (after tt all6).length) c9)) (fun x hx => hx.elim (fun e => by have := H9.al.lt hw9 e; omega) (fun e => by have := H9.go.lt hw9 e; omega)) (log_last H9.lg))) fun v g10 n10 hw10 hn10 hq => ?_
              obtain ⟨⟨rfl, k10⟩, hs10⟩ := hq
              refine n_op .no (q := 10) rfl (s_as rfl ?_)
              refine n_nil ?_
              repeat (first | refine w_seq ?_ | refine w_blk ?_ | refine z_seq ?_ | refine z_blk ?_ | refine w_skip ?_)
              repeat (first | refine w_seq ?_ | refine w_blk ?_ | refine z_seq ?_ | refine z_blk ?_ | refine w_skip ?_)
              refine w_reg 3 rfl rfl (j' := 3) ?_
              refine n_op .no (q := 0) rfl (s_mv rfl ?_)
              first | refine n_op .no (q := 1) rfl (s_bin rfl rfl (bi_inc (by omega)) ?_) | refine n_op .no (q := 1) rfl (s_bin rfl rfl (bi_add rfl (by omega) (by omega)) ?_)
              refine n_op .no (q := 2) rfl (s_as rfl ?_)
              refine n_nil ?_
              have H10 := H9.after (n'' := n10) hw9 k10 hs10 (by omega) (by omega)
              refine z_round (i + 1, av6, .slice a9 ((upTo tt all6).length + (after tt all6).length) c9, L6.last, r) ⟨rfl, rfl, rfl, rfl, rfl, rfl, rfl, rfl, rfl, trivial⟩ ⟨by show i + 1 ≤ 60; omega, all6, L6, sl', { H10 with nn := by have := H10.nn; omega }, hlast⟩ (by show 60 - (i + 1) < 60 - i; omega)
          · repeat (first | refine w_seq ?_ | refine w_blk ?_ | refine z_seq ?_ | refine z_blk ?_ | refine w_skip ?_)
            repeat (first | refine w_seq ?_ | refine w_blk ?_ | refine z_seq ?_ | refine z_blk ?_ | refine w_skip ?_)
            refine w_reg 3 rfl rfl (j' := 11) ?_
            refine n_op .no (q := 8) rfl (s_mv rfl ?_)
            first | refine n_op .no (q := 9) rfl (s_bin rfl rfl (bi_inc (by omega)) ?_) | refine n_op .no (q := 9) rfl (s_bin rfl rfl (bi_add rfl (by omega) (by omega)) ?_)
            refine n_op .no (q := 10) rfl (s_as rfl ?_)
            refine n_nil ?_
            refine z_round (i + 1, av6, gv, tt, r) ⟨rfl, rfl, rfl, rfl, rfl, rfl, rfl, rfl, rfl, trivial⟩ ⟨by show i + 1 ≤ 60; omega, all6, L6, sl', { H6 with nn := by have := H6.nn; omega }, hlast⟩ (by show 60 - (i + 1) < 60 - i; omega)
        · repeat (first | refine w_seq ?_ | refine w_blk ?_ | refine z_seq ?_ | refine z_blk ?_ | refine w_skip ?_)
          refine w_reg 14 rfl rfl (j' := 14) ?_
          refine n_op .no (q := 0) rfl (s_mv rfl ?_)
          refine n_op .no (q := 1) rfl (s_mv rfl ?_)
          refine n_op .no (q := 2) rfl (s_len rfl rfl un_102 rfl ?_)
          refine n_op .no (q := 3) rfl (s_bin rfl rfl rfl ?_)
          refine n_op .no (q := 4) rfl (s_mv rfl ?_)
          refine n_op (.yes rfl rfl (decide_eq_true (by omega))) (q := 5) rfl (s_mv rfl ?_)
          refine n_op (.yes rfl rfl (decide_eq_true (by omega))) (q := 6) rfl (s_mv rfl ?_)
          refine n_op (.yes rfl rfl (decide_eq_true (by omega))) (q := 7) rfl (s_len rfl rfl un_103 rfl ?_)
          refine n_op (.yes rfl rfl (decide_eq_true (by omega))) (q := 8) rfl (s_bin rfl rfl rfl ?_)
          refine n_op .no (q := 9) rfl (s_pt rfl (decide_eq_true (by omega)) rfl ?_)
          refine n_op .no (q := 10) rfl (s_mv rfl ?_)
          refine n_op (.yes rfl rfl (decide_eq_true (by omega))) (q := 11) rfl (s_mv rfl ?_)
          refine n_op (.yes rfl rfl (decide_eq_true (by omega))) (q := 12) rfl (s_bin rfl rfl rfl ?_)
          refine n_op .no (q := 13) rfl (s_pt rfl (decide_eq_true (by omega)) rfl ?_)
          refine n_nil ?_
          repeat (first | refine w_seq ?_ | refine w_blk ?_ | refine z_seq ?_ | refine z_blk ?_ | refine w_skip ?_)
          refine w_no rfl (decide_eq_false (by omega)) ?_
          refine w_exit rfl ?_
          exact z_met (i, av, gv, tt, false) ⟨rfl, rfl, rfl, rfl, rfl, trivial⟩ ⟨all, L, sl, hi60, { H with nn := by have := H.nn; omega }, fun h => by cases h⟩
      · repeat (first | refine w_seq ?_ | refine w_blk ?_ | refine z_seq ?_ | refine z_blk ?_ | refine w_skip ?_)
        refine w_reg 14 rfl rfl (j' := 14) ?_
        refine n_op .no (q := 0) rfl (s_mv rfl ?_)
        refine n_op .no (q := 1) rfl (s_mv rfl ?_)
        refine n_op .no (q := 2) rfl (s_len rfl rfl un_102 rfl ?_)
        refine n_op .no (q := 3) rfl (s_bin rfl rfl rfl ?_)
        refine n_op .no (q := 4) rfl (s_mv rfl ?_)
        refine n_op (.yes rfl rfl (decide_eq_true (by omega))) (q := 5) rfl (s_mv rfl ?_)
        refine n_op (.yes rfl rfl (decide_eq_true (by omega))) (q := 6) rfl (s_mv rfl ?_)
        refine n_op (.yes rfl rfl (decide_eq_true (by omega))) (q := 7) rfl (s_len rfl rfl un_103 rfl ?_)
        refine n_op (.yes rfl rfl (decide_eq_true (by omega))) (q := 8) rfl (s_bin rfl rfl rfl ?_)
        refine n_op .no (q := 9) rfl (s_pt rfl (decide_eq_true (by omega)) rfl ?_)
        refine n_op .no (q := 10) rfl (s_mv rfl ?_)
        refine n_sk rfl rfl (decide_eq_false (by omega)) ?_
        refine n_sk rfl rfl (decide_eq_false (by omega)) ?_
        refine n_op .no (q := 13) rfl (s_pf rfl (decide_eq_false (by omega)) rfl ?_)
        refine n_nil ?_
        repeat (first | refine w_seq ?_ | refine w_blk ?_ | refine z_seq ?_ | refine z_blk ?_ | refine w_skip ?_)
        refine w_no rfl (rfl) ?_
        refine w_exit rfl ?_
        exact z_met (i, av, gv, tt, false) ⟨rfl, rfl, rfl, rfl, rfl, trivial⟩ ⟨all, L, sl, hi60, { H with nn := by have := H.nn; omega }, fun h => by cases h⟩
    · repeat (first | refine w_seq ?_ | refine w_blk ?_ | refine z_seq ?_ | refine z_blk ?_ | refine w_skip ?_)
      refine w_reg 14 rfl rfl (j' := 14) ?_
      refine n_op .no (q := 0) rfl (s_mv rfl ?_)
      refine n_op .no (q := 1) rfl (s_mv rfl ?_)
      refine n_op .no (q := 2) rfl (s_len rfl rfl un_102 rfl ?_)
      refine n_op .no (q := 3) rfl (s_bin rfl rfl rfl ?_)
      refine n_op .no (q := 4) rfl (s_mv rfl ?_)
      refine n_sk rfl rfl (decide_eq_false (by omega)) ?_
      refine n_sk rfl rfl (decide_eq_false (by omega)) ?_
      refine n_sk rfl rfl (decide_eq_false (by omega)) ?_
      refine n_sk rfl rfl (decide_eq_false (by omega)) ?_
      refine n_op .no (q := 9) rfl (s_pf rfl (decide_eq_false (by omega)) rfl ?_)
      refine n_op .no (q := 10) rfl (s_mv rfl ?_)
      refine n_sk rfl rfl (rfl) ?_
      refine n_sk rfl rfl (rfl) ?_
      refine n_op .no (q := 13) rfl (s_pf rfl (rfl) rfl ?_)
      refine n_nil ?_
      repeat (first | refine w_seq ?_ | refine w_blk ?_ | refine z_seq ?_ | refine z_blk ?_ | refine w_skip ?_)
      refine w_no rfl (rfl) ?_
      refine w_exit rfl ?_
      exact z_met (i, av, gv, tt, false) ⟨rfl, rfl, rfl, rfl, rfl, trivial⟩ ⟨all, L, sl, hi60, { H with nn := by have := H.nn; omega }, fun h => by cases h⟩
  rintro ⟨i, av, gv, tt, late⟩ f g3 n3 hw3 ⟨all, L, sl, hi60, H, hlt⟩
  simp only at hi60 H hlt
  have hp3 : ∀ x, two av gv x → x < n3 := fun x hx => hx.elim (fun e => H.al.lt hw3 e) (fun e => H.go.lt hw3 e)
  have hlen := H.len
  have hlv := H.li.len
  cases late
  · repeat (first | refine w_seq ?_ | refine w_blk ?_ | refine z_seq ?_ | refine z_blk ?_ | refine w_skip ?_)
    refine w_reg 1 rfl rfl (j' := 1) ?_
    refine n_op .no (q := 0) rfl (s_mv rfl ?_)
    refine n_nil ?_
    repeat (first | refine w_seq ?_ | refine w_blk ?_ | refine z_seq ?_ | refine z_blk ?_ | refine w_skip ?_)
    refine w_no rfl (rfl) ?_
    repeat (first | refine w_seq ?_ | refine w_blk ?_ | refine z_seq ?_ | refine z_blk ?_ | refine w_skip ?_)
    refine w_reg 8 rfl rfl (j' := 9) ?_
    refine n_op .no (q := 1) rfl (s_mv rfl ?_)
    refine n_op .no (q := 2) rfl (s_mv rfl ?_)
    refine n_call .no rfl rfl rfl ?_
    refine C.use ((C.frame (p := two av gv) (fun x hx => by have := hp3 x hx; omega) (log_from (rev := tt) H.lg (by omega)))) fun v g4 n4 hw4 hn4 hq => ?_
    obtain ⟨⟨v4, rfl, hE4, k4⟩, hs4⟩ := hq
    have H4 := H.after (n'' := n4) hw3 k4 hs4 (by omega) (by omega)
    rw [H.li.from_ H.at_.2] at hE4 ⊢
    by_cases hlate : tt < L.base
    · rw [if_pos hlate] at hE4 ⊢
      obtain ⟨a4, c4, rfl⟩ := hE4.lenE
      refine n_op .no (q := 4) rfl (s_mv rfl ?_)
      refine n_op .no (q := 5) rfl (s_ext rfl rfl ?_)
      refine n_op .no (q := 6) rfl (s_ext rfl rfl ?_)
      refine n_op .no (q := 7) rfl (s_as rfl ?_)
      refine n_op .no (q := 8) rfl (s_as rfl ?_)
      refine n_nil ?_
      repeat (first | refine w_seq ?_ | refine w_blk ?_ | refine z_seq ?_ | refine z_blk ?_ | refine w_skip ?_)
      refine w_reg 2 rfl rfl (j' := 2) ?_
      refine n_op .no (q := 0) rfl (s_mv rfl ?_)
      refine n_op .no (q := 1) rfl (s_bin rfl rfl rfl ?_)
      refine n_nil ?_
      repeat (first | refine w_seq ?_ | refine w_blk ?_ | refine z_seq ?_ | refine z_blk ?_ | refine w_skip ?_)
      refine w_yes rfl (rfl) ?_
      repeat (first | refine w_seq ?_ | refine w_blk ?_ | refine z_seq ?_ | refine z_blk ?_ | refine w_skip ?_)
      refine w_reg 5 rfl rfl (j' := 7) ?_
      refine n_op .no (q := 2) rfl (s_mv rfl ?_)
      refine n_op .no (q := 3) rfl (s_mv rfl ?_)
      refine n_call .no rfl rfl rfl ?_
      refine C.use ((C.frame (p := two av gv) (fun x hx => by have := hp3 x hx; omega) (log_base H4.lg))) fun v g5 n5 hw5 hn5 hq => ?_
      obtain ⟨⟨rfl, k5⟩, hs5⟩ := hq
      refine n_op .no (q := 5) rfl (s_bin rfl rfl rfl ?_)
      refine n_op .no (q := 6) rfl (s_as rfl ?_)
      refine n_nil ?_
      repeat (first | refine w_ret ?_ | refine w_seq ?_ | refine w_blk ?_ | refine z_seq ?_ | refine z_blk ?_ | refine w_skip ?_)
      refine z_r1 rfl rfl ?_
      simp [hlate]
    · rw [if_neg hlate] at hE4 ⊢
      obtain ⟨a4, c4, rfl⟩ := hE4.lenE
      refine n_op .no (q := 4) rfl (s_mv rfl ?_)
      refine n_op .no (q := 5) rfl (s_ext rfl rfl ?_)
      refine n_op .no (q := 6) rfl (s_ext rfl rfl ?_)
      refine n_op .no (q := 7) rfl (s_as rfl ?_)
      refine n_op .no (q := 8) rfl (s_as rfl ?_)
      refine n_nil ?_
      repeat (first | refine w_seq ?_ | refine w_blk ?_ | refine z_seq ?_ | refine z_blk ?_ | refine w_skip ?_)
      refine w_reg 2 rfl rfl (j' := 2) ?_
      refine n_op .no (q := 0) rfl (s_mv rfl ?_)
      refine n_op .no (q := 1) rfl (s_bin rfl rfl rfl ?_)
      refine n_nil ?_
      repeat (first | refine w_seq ?_ | refine w_blk ?_ | refine z_seq ?_ | refine z_blk ?_ | refine w_skip ?_)
      refine w_no rfl (rfl) ?_
      obtain ⟨csG, hsG, hRG⟩ := id H4.go
      obtain ⟨csF, hsF, hRF⟩ := hE4.rd.ofHid
      have u1 := upTo_len tt all
      have u2 := after_len tt all
      have u3 : ((after tt all, (0 : Int)).1).length ≤ all.length := u2
      repeat (first | refine w_seq ?_ | refine w_blk ?_ | refine z_seq ?_ | refine z_blk ?_ | refine w_skip ?_)
      refine w_reg 10 rfl rfl (j' := 12) ?_
      refine n_op .no (q := 2) rfl (s_mv rfl ?_)
      refine n_op .no (q := 3) rfl (s_bin rfl rfl rfl ?_)
      refine n_op .no (q := 4) rfl (s_mv rfl ?_)
      refine n_op (.yes rfl rfl (rfl)) (q := 5) rfl (s_mv rfl ?_)
      refine n_op (.yes rfl rfl (rfl)) (q := 6) rfl (s_mv rfl ?_)
      refine n_op (.yes rfl rfl (rfl)) (q := 7) rfl (s_app app65 rfl rfl (hsG.kp0 (n := n4) (by repeat (first | exact Kp.refl _ _ _ | refine Kp.new ?_ (by omega) _)) hw4) hsF.src (evs_plain hRF) (by omega) fun a5 c5 g5 tc5 wr5 hrow5 hgr5 => ?_)
      have H5 := H4.told (n'' := n4 + 100) hw4 hgr5 (by omega) (by omega) hRG hRF hrow5 (split_asc H4.li.asc)
      have hgo5 := H5.go
      rw [upTo_all H5.li.top] at hgo5
      refine n_op (.yes rfl rfl (rfl)) (q := 8) rfl (s_mv rfl ?_)
      refine n_call (.yes rfl rfl (rfl)) rfl rfl rfl ?_
      refine C.use (eqEvents_c hgo5.rd H5.al.rd (by omega)) fun v g6 n6 hw6 hn6 hq => ?_
      obtain ⟨⟨rr, rfl, hrr⟩, k6⟩ := hq
      refine n_op .no (q := 10) rfl (s_pt rfl (rfl) rfl ?_)
      refine n_op .no (q := 11) rfl (s_as rfl ?_)
      refine n_nil ?_
      repeat (first | refine w_ret ?_ | refine w_seq ?_ | refine w_blk ?_ | refine z_seq ?_ | refine z_blk ?_ | refine w_skip ?_)
      refine z_r1 rfl rfl ?_
      rw [hrr.2 rfl]
  · repeat (first | refine w_seq ?_ | refine w_blk ?_ | refine z_seq ?_ | refine z_blk ?_ | refine w_skip ?_)
    refine w_reg 1 rfl rfl (j' := 1) ?_
    refine n_op .no (q := 0) rfl (s_mv rfl ?_)
    refine n_nil ?_
    repeat (first | refine w_seq ?_ | refine w_blk ?_ | refine z_seq ?_ | refine z_blk ?_ | refine w_skip ?_)
    refine w_yes rfl (rfl) ?_
    repeat (first | refine w_seq ?_ | refine w_blk ?_ | refine z_seq ?_ | refine z_blk ?_ | refine w_skip ?_)
    refine w_reg 5 rfl rfl (j' := 6) ?_
    refine n_op .no (q := 1) rfl (s_mv rfl ?_)
    refine n_op .no (q := 2) rfl (s_mv rfl ?_)
    refine n_call .no rfl rfl rfl ?_
    refine C.use ((C.frame (p := two av gv) (fun x hx => by have := hp3 x hx; omega) (log_base H.lg))) fun v g4 n4 hw4 hn4 hq => ?_
    obtain ⟨⟨rfl, k4⟩, hs4⟩ := hq
    refine n_op .no (q := 4) rfl (s_bin rfl rfl rfl ?_)
    refine n_op .no (q := 5) rfl (s_as rfl ?_)
    refine n_nil ?_
    repeat (first | refine w_ret ?_ | refine w_seq ?_ | refine w_blk ?_ | refine z_seq ?_ | refine z_blk ?_ | refine w_skip ?_)
    refine z_r1 rfl rfl ?_
    simp [hlt rfl]

end Go.Proofs.YtehmailaabjdjaaGreat
