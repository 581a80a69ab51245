/-
  StoreOnce answers true. No condition but that begun does.
-/
import Derived.Test.YtehmailaabjdjaaGreatSt9
open Go.Proofs
namespace Go.Proofs.YtehmailaabjdjaaGreat
set_option linter.unusedSimpArgs false
set_option linter.unusedVariables false
set_option maxRecDepth 100000

/-- A store of one key alone, that was written r times. -/
structure Sto.One (S : Sto) (k : Bs) (r : Int) (v : Bs) : Prop where
  rev : S.rev = r
  is : r = 0 ∧ S.now = [] ∧ S.last = [] ∨ 0 < r ∧ S.now = [(k, ⟨k, r, v⟩)] ∧ S.last = [(k, r)]

section
variable {S : Sto} {k v w : Bs} {r : Int} {un : Bool}
theorem Sto.One.find (h : S.One k r v) : ((findK k S.now).map SEnt.rev).getD 0 = r := by
  rcases h.is with ⟨h1, h2, _⟩ | ⟨h1, h2, _⟩
  · rw [h2, h1]; rfl
  · rw [h2]; simp [findK]
theorem once_yes (h : S.One k r v) (hk : keyOk k) (hr : 0 ≤ r) (hw : w.length ≤ 4000) : S.can [⟨k, r, un⟩] [⟨k, w, false⟩] = 0 := by
  refine can_ok (Sto.may_one (by simp) (fun x hx => by rw [List.mem_singleton.1 hx]; exact ⟨hk, hr⟩) ⟨hk, (fun q => (by cases q.1)), hw⟩) (fun x hx => ?_) (fun w hw q => by rw [List.mem_singleton.1 hw] at q; cases q)
  rw [List.mem_singleton.1 hx]
  unfold Sto.holds
  cases un with
  | false => exact h.find
  | true =>
    simp only [if_true]
    rcases h.is with ⟨_, _, h2⟩ | ⟨_, _, h2⟩
    · rw [h2]; intro p hp; cases hp
    · rw [h2]; intro p hp hlt; rw [List.mem_singleton.1 hp] at hlt; simp at hlt
theorem once_no (h : S.One k (r + 1) v) (hk : keyOk k) (hr : 0 ≤ r) (hw : w.length ≤ 4000) : S.can [⟨k, r, un⟩] [⟨k, w, false⟩] = 6 := by
  refine can_guard (Sto.may_one (by simp) (fun x hx => by rw [List.mem_singleton.1 hx]; exact ⟨hk, hr⟩) ⟨hk, (fun q => (by cases q.1)), hw⟩) ⟨_, List.mem_singleton.2 rfl, ?_⟩
  unfold Sto.holds
  cases un with
  | false =>
    intro q
    have := h.find
    simp only [Bool.false_eq_true, if_false] at q
    omega
  | true =>
    simp only [if_true]
    rcases h.is with ⟨e, _⟩ | ⟨_, _, h2⟩
    · omega
    · rw [h2]; intro q; exact q (k, r + 1) (List.mem_singleton.2 rfl) (by show r < r + 1; omega) (List.prefix_refl k)
theorem once_txn (h : S.One k r v) (hk : keyOk k) (hr : 0 ≤ r) (hw : w.length ≤ 4000) : (S.txn [⟨k, r, un⟩] [⟨k, w, false⟩]).2 = (r + 1, 0) ∧ (S.txn [⟨k, r, un⟩] [⟨k, w, false⟩]).1.One k (r + 1) w := by
  obtain ⟨h1, h2, h3, h4, _⟩ := Sto.txn_one (once_yes (un := un) h hk hr hw)
  refine ⟨by rw [h1, h.rev], by rw [h2, h.rev], .inr ⟨by omega, ?_, ?_⟩⟩
  · rw [h3]
    rcases h.is with ⟨_, e, _⟩ | ⟨_, e, _⟩ <;> rw [e, h.rev] <;> simp [setK]
  · rw [h4]
    rcases h.is with ⟨_, _, e⟩ | ⟨_, _, e⟩ <;> rw [e, h.rev] <;> simp [setK]
theorem once_txn_no (h : S.One k (r + 1) v) (hk : keyOk k) (hr : 0 ≤ r) (hw : w.length ≤ 4000) : (S.txn [⟨k, r, un⟩] [⟨k, w, false⟩]).2 = (0, 6) ∧ (S.txn [⟨k, r, un⟩] [⟨k, w, false⟩]).1.One k (r + 1) v := by
  have e := once_no (un := un) h hk hr hw
  rw [Sto.txn_no (by rw [e]; decide), e]
  exact ⟨rfl, h.rev, h.is⟩
end

theorem u8c_two (i j : Nat) (hi : i < 100) (hj : j < 100) : ([.int .u8 (IntKind.u8.wrap (i : Int)), .int .u8 (IntKind.u8.wrap (j : Int))] : List Value) = u8c [UInt8.ofNat i, UInt8.ofNat j] := by
  rw [u8_wrap (by omega) (by omega), u8_wrap (by omega) (by omega), Int.toNat_natCast, Int.toNat_natCast]
  rfl

theorem storeOnce_c (hB : BegunOk) {g : Gm} {n : Nat} {z : Int} {un : Bool} {kk : Bs} : C 3 #[.string (str kk), .int .i64 z, .bool un] g n fun u g' n' => u = .bool true := by
  refine c_in3 Tryz.func3 rfl Tryz.ntmps3 rfl fun hw => ?_
  repeat (first | refine w_seq ?_ | refine w_blk ?_ | refine z_seq ?_ | refine z_blk ?_ | refine w_skip ?_)
  refine w_reg 1 rfl rfl (j' := 1) ?_
  refine n_op .no (q := 0) rfl (s_as rfl ?_)
  refine n_nil ?_
  repeat (first | refine w_seq ?_ | refine w_blk ?_ | refine z_seq ?_ | refine z_blk ?_ | refine w_skip ?_)
  refine w_reg 2 rfl rfl (j' := 3) ?_
  refine n_call .no rfl rfl rfl ?_
  refine C.use (hB _ _) fun v g1 n1 hw1 hn1 hq => ?_
  obtain ⟨rfl, rfl⟩ := hq
  refine n_op .no (q := 2) rfl (s_as rfl ?_)
  refine n_nil ?_
  repeat (first | refine w_seq ?_ | refine w_blk ?_ | refine z_seq ?_ | refine z_blk ?_ | refine w_skip ?_)
  refine w_reg 2 rfl rfl (j' := 2) ?_
  refine n_op .no (q := 0) rfl (s_mv rfl ?_)
  refine n_op .no (q := 1) rfl (s_not rfl ?_)
  refine n_nil ?_
  repeat (first | refine w_seq ?_ | refine w_blk ?_ | refine z_seq ?_ | refine z_blk ?_ | refine w_skip ?_)
  refine w_no rfl (rfl) ?_
  repeat (first | refine w_seq ?_ | refine w_blk ?_ | refine z_seq ?_ | refine z_blk ?_ | refine w_skip ?_)
  refine w_reg 4 rfl rfl (j' := 6) ?_
  refine n_op .no (q := 2) rfl (s_mv rfl ?_)
  refine n_call .no rfl rfl rfl ?_
  refine C.use (text23_c (j := 10) kk) fun v g2 n2 hw2 hn2 hq => ?_
  obtain ⟨rfl, rfl⟩ := hq
  have hct : ([107] : Bs).length + (kk.take 10).length ≤ 9223372036854775807 := by rw [List.length_take]; simp only [List.length_cons, List.length_nil]; omega
  refine n_op .no (q := 4) rfl (s_bin rfl rfl (bi_cat (hct)) ?_)
  refine n_op .no (q := 5) rfl (s_as rfl ?_)
  refine n_nil ?_
  have hk : keyOk ([107] ++ kk.take 10) := by
    simp only [keyOk, List.length_append, List.length_take, List.length_cons, List.length_nil]; omega
  generalize ([107] ++ kk.take 10 : Bs) = k at *
  have t1 := tmod_lt (a := z) (b := 10) (by decide)
  have t2 := tmod_nn (a := z.tmod 10 + 10) (b := 10) (by omega) (by decide)
  repeat (first | refine w_seq ?_ | refine w_blk ?_ | refine z_seq ?_ | refine z_blk ?_ | refine w_skip ?_)
  refine w_reg 6 rfl rfl (j' := 6) ?_
  refine n_op .no (q := 0) rfl (s_mv rfl ?_)
  refine n_op .no (q := 1) rfl (s_bin rfl rfl rfl ?_)
  refine n_op .no (q := 2) rfl (s_bin rfl rfl (r := .int .i64 (z.tmod 10 + 10)) (by first | exact bi_add (by omega) (by omega) (by omega) | exact bi_sub (by omega) (by omega) (by omega) | exact bi_add rfl (by omega) (by omega) | exact bi_sub rfl (by omega) (by omega)) ?_)
  refine n_op .no (q := 3) rfl (s_bin rfl rfl rfl ?_)
  refine n_op .no (q := 4) rfl (s_bin rfl rfl (r := .int .i64 (1 + (z.tmod 10 + 10).tmod 10)) (by first | exact bi_add (by omega) (by omega) (by omega) | exact bi_sub (by omega) (by omega) (by omega) | exact bi_add rfl (by omega) (by omega) | exact bi_sub rfl (by omega) (by omega)) ?_)
  refine n_op .no (q := 5) rfl (s_as rfl ?_)
  refine n_nil ?_
  obtain ⟨m, hm4⟩ : ∃ m : Nat, 1 + (z.tmod 10 + 10).tmod 10 = (m : Int) := ⟨_, (Int.toNat_of_nonneg (by omega)).symm⟩
  rw [hm4]
  have hm5 : 1 ≤ m ∧ m ≤ 10 := by omega
  clear t1 t2 hm4
  repeat (first | refine w_seq ?_ | refine w_blk ?_ | refine z_seq ?_ | refine z_blk ?_ | refine w_skip ?_)
  refine w_reg 2 rfl rfl (j' := 8) ?_
  refine n_call .no rfl rfl rfl ?_
  refine C.use (st_newB _ _) fun v g3 n3 hw3 hn3 hq => ?_
  obtain ⟨s, m1, m2, l, rfl, hS3, hb3, k3⟩ := hq
  refine n_op .no (q := 7) rfl (s_as rfl ?_)
  refine n_nil ?_
  repeat (first | refine w_seq ?_ | refine w_blk ?_ | refine z_seq ?_ | refine z_blk ?_ | refine w_skip ?_)
  refine w_reg 1 rfl rfl (j' := 1) ?_
  refine n_op .no (q := 0) rfl (s_as rfl ?_)
  refine n_nil ?_
  repeat (first | refine w_seq ?_ | refine w_blk ?_ | refine z_seq ?_ | refine z_blk ?_ | refine w_skip ?_)
  refine w_loop (β := Nat) (fun i => [(0, .string (str k)), (1, .int .i64 (m : Int)), (2, .bool un), (8, .pointer (some ⟨s, 0, none⟩)), (9, .int .i64 (i : Int))])
    (fun i g' n' => i ≤ 5 ∧ n2 ≤ n' ∧ ∃ sl S v, StAt n2 g' s m1 m2 l sl S ∧ S.One k i v ∧ S.Inv (20 * i)) (fun i => 5 - i) 0 ⟨rfl, rfl, rfl, rfl, rfl, trivial⟩
    ⟨by omega, by omega, _, _, [], hS3.up (by omega), ⟨rfl, .inl ⟨rfl, rfl, rfl⟩⟩, Sto.Inv.new.up (by omega)⟩ ?_
  rintro i f gL nL hwL ⟨hi, hnL, sl, S, v, hS, hone, hinv⟩
  repeat (first | refine w_seq ?_ | refine w_blk ?_ | refine z_seq ?_ | refine z_blk ?_ | refine w_skip ?_)
  refine w_reg 2 rfl rfl (j' := 2) ?_
  refine n_op .no (q := 0) rfl (s_mv rfl ?_)
  refine n_op .no (q := 1) rfl (s_bin rfl rfl rfl ?_)
  refine n_nil ?_
  repeat (first | refine w_seq ?_ | refine w_blk ?_ | refine z_seq ?_ | refine z_blk ?_ | refine w_skip ?_)
  refine w_if rfl (fun hb => ?_) (fun hb => ?_)
  · have hi : i < 5 := by have := of_decide_eq_true hb; omega
    repeat (first | refine w_seq ?_ | refine w_blk ?_ | refine z_seq ?_ | refine z_blk ?_ | refine w_skip ?_)
    refine w_reg 9 rfl rfl (j' := 11) ?_
    refine n_op .no (q := 2) rfl (s_mv rfl ?_)
    refine n_op .no (q := 3) rfl (s_mv rfl ?_)
    refine n_call .no rfl rfl rfl ?_
    refine C.useG (st_get_i (k := k) hS hinv (by omega)) fun v g4 n4 hw4 hn4 hx4 hq => ?_
    obtain ⟨c4, e4, ok4, rfl, hE4, hf4, hS4, k4⟩ := hq
    obtain ⟨a4, p4, rfl, _, _⟩ := hE4
    have hrev : e4.rev = (i : Int) := by
      have h5 := hone.find
      rcases hf4 with ⟨x, _⟩ | ⟨x, y, _⟩
      · rw [x] at h5; exact h5
      · rw [x] at h5; rw [y]; exact h5
    obtain ⟨ke, re, ve⟩ := e4
    have hrev : re = (i : Int) := hrev
    subst hrev
    clear hf4
    refine n_op .no (q := 5) rfl (s_mv rfl ?_)
    refine n_op .no (q := 6) rfl (s_ext rfl rfl ?_)
    refine n_op .no (q := 7) rfl (s_ext rfl rfl ?_)
    refine n_op .no (q := 8) rfl (s_al zl_28 ?_)
    refine n_op .no (q := 9) rfl (s_stw rfl rfl sz_28 rfl (by repeat (first | exact gs_same _ _ _ | refine (gs_ne (by omega) _).trans ?_)) (by exact rfl) rfl ?_)
    refine n_op .no (q := 10) rfl (s_as rfl ?_)
    refine n_nil ?_
    repeat (first | refine w_seq ?_ | refine w_blk ?_ | refine z_seq ?_ | refine z_blk ?_ | refine w_skip ?_)
    refine w_gen fun g5 n5 hg5 hn5 hwg5 => ?_
    have z4 : g4 (nL + 8) = none := hx4 _ (by omega) (hwL.none (by omega))
    have k5 : K0 g4 n4 g5 := by rw [hg5]; exact Kp.add (Kp.add (Kp.refl _ _ _) z4 _) z4 _
    have c5 : g5 (nL + 8) = some (.cells (entC ⟨ke, i, ve⟩ (.slice a4 ve.length p4)) 0 false) := by rw [hg5]; exact gs_same _ _ _
    clear hg5
    have hS5 := hS4.kp0 k5 hw4
    have hone5 : ({ S with reads := S.reads + 1 } : Sto).One k i v := ⟨hone.rev, hone.is⟩
    have hinv5 := hinv.read
    generalize ({ S with reads := S.reads + 1 } : Sto) = S5 at *
    repeat (first | refine w_seq ?_ | refine w_blk ?_ | refine z_seq ?_ | refine z_blk ?_ | refine w_skip ?_)
    refine w_reg 3 rfl rfl (j' := 3) ?_
    first | refine n_op .no (q := 0) rfl (s_fa0 rfl fo_28_1 ?_) | refine n_op .no (q := 0) rfl (s_fa rfl fo_28_1 ?_)
    refine n_op .no (q := 1) rfl (s_ld rfl (by repeat (first | exact gs_same _ _ _ | exact c5 | refine (gs_ne (by omega) _).trans ?_)) ag_2 (by first | exact rfl | exact c5) ?_)
    refine n_op .no (q := 2) rfl (s_as rfl ?_)
    refine n_nil ?_
    repeat (first | refine w_seq ?_ | refine w_blk ?_ | refine z_seq ?_ | refine z_blk ?_ | refine w_skip ?_)
    refine w_reg 1 rfl rfl (j' := 4) ?_
    refine n_op .no (q := 3) rfl (s_mv rfl ?_)
    refine n_nil ?_
    refine z_seq ?_
    refine z_meet (β := Unit) (fun _ => [(0, .string (str k)), (1, .int .i64 (m : Int)), (2, .bool un), (8, .pointer (some ⟨s, 0, none⟩)), (9, .int .i64 (i : Int)), (12, .int .i64 (i : Int))])
      (fun _ g' n' => n5 ≤ n' ∧ StAt n2 g' s m1 m2 l sl S5) ?_ ?_
    · cases un with
      | false =>
        repeat (first | refine w_seq ?_ | refine w_blk ?_ | refine z_seq ?_ | refine z_blk ?_ | refine w_skip ?_)
        refine w_no rfl (rfl) ?_
        repeat (first | refine w_seq ?_ | refine w_blk ?_ | refine z_seq ?_ | refine z_blk ?_ | refine w_skip ?_)
        exact z_met () ⟨rfl, rfl, rfl, rfl, rfl, rfl, trivial⟩ ⟨by omega, hS5⟩
      | true =>
        repeat (first | refine w_seq ?_ | refine w_blk ?_ | refine z_seq ?_ | refine z_blk ?_ | refine w_skip ?_)
        refine w_yes rfl (rfl) ?_
        repeat (first | refine w_seq ?_ | refine w_blk ?_ | refine z_seq ?_ | refine z_blk ?_ | refine w_skip ?_)
        refine w_reg 3 rfl rfl (j' := 7) ?_
        refine n_op .no (q := 4) rfl (s_mv rfl ?_)
        refine n_call .no rfl rfl rfl ?_
        refine C.use (st_rev hS5) fun v g6 n6 hw6 hn6 hq => ?_
        obtain ⟨hu, k6⟩ := hq
        rw [hone5.rev] at hu
        subst hu
        refine n_op .no (q := 6) rfl (s_as rfl ?_)
        refine n_nil ?_
        exact z_met () ⟨rfl, rfl, rfl, rfl, rfl, rfl, trivial⟩ ⟨by omega, hS5.kp0 (k6.dn (m := n5) (by omega)) hwg5⟩
    rintro _ f g7 n7 hw7 ⟨hn7, hS7⟩
    repeat (first | refine w_seq ?_ | refine w_blk ?_ | refine z_seq ?_ | refine z_blk ?_ | refine w_skip ?_)
    refine w_reg 1 rfl rfl (j' := 1) ?_
    refine n_op .no (q := 0) rfl (s_as rfl ?_)
    refine n_nil ?_
    repeat (first | refine w_seq ?_ | refine w_blk ?_ | refine z_seq ?_ | refine z_blk ?_ | refine w_skip ?_)
    refine w_reg 1 rfl rfl (j' := 2) ?_
    refine n_op .no (q := 1) rfl (s_as rfl ?_)
    refine n_nil ?_
    repeat (first | refine w_seq ?_ | refine w_blk ?_ | refine z_seq ?_ | refine z_blk ?_ | refine w_skip ?_)
    refine w_loop (β := Nat × Nat) (fun x => [(0, .string (str k)), (1, .int .i64 (m : Int)), (2, .bool un), (8, .pointer (some ⟨s, 0, none⟩)), (9, .int .i64 (i : Int)), (12, .int .i64 (i : Int)), (13, .int .i64 (x.2 : Int)), (14, .int .i64 (x.1 : Int))])
      (fun x g' n' => x.1 ≤ m ∧ n7 ≤ n' ∧ ∃ sl S v, StAt n2 g' s m1 m2 l sl S ∧ S.Inv (20 * i + 1 + x.1) ∧ (x.1 = 0 ∧ x.2 = 0 ∧ S.One k i v ∨ 0 < x.1 ∧ x.2 = 1 ∧ v = [UInt8.ofNat i, 0] ∧ S.One k (i + 1) v)) (fun x => m - x.1) (0, 0) ⟨rfl, rfl, rfl, rfl, rfl, rfl, rfl, rfl, trivial⟩
      ⟨by simp, by omega, sl, S5, v, hS7, hinv5, .inl ⟨rfl, rfl, hone5⟩⟩ ?_
    clear hS7 hS5 hS4 hS hone hone5 hinv hinv5
    clear v S5 sl S
    rintro ⟨j, won⟩ f gJ nJ hwJ ⟨hj, hnJ, sl, S, v, hS, hinv, hwon⟩
    simp only at hj hinv hwon
    repeat (first | refine w_seq ?_ | refine w_blk ?_ | refine z_seq ?_ | refine z_blk ?_ | refine w_skip ?_)
    refine w_reg 3 rfl rfl (j' := 3) ?_
    refine n_op .no (q := 0) rfl (s_mv rfl ?_)
    refine n_op .no (q := 1) rfl (s_mv rfl ?_)
    refine n_op .no (q := 2) rfl (s_bin rfl rfl rfl ?_)
    refine n_nil ?_
    repeat (first | refine w_seq ?_ | refine w_blk ?_ | refine z_seq ?_ | refine z_blk ?_ | refine w_skip ?_)
    refine w_if rfl (fun hb => ?_) (fun hb => ?_)
    · have hj : j < m := by have := of_decide_eq_true hb; omega
      repeat (first | refine w_seq ?_ | refine w_blk ?_ | refine z_seq ?_ | refine z_blk ?_ | refine w_skip ?_)
      refine w_reg 21 rfl rfl (j' := 24) ?_
      refine n_op .no (q := 3) rfl (s_mv rfl ?_)
      refine n_op .no (q := 4) rfl (s_mv rfl ?_)
      refine n_op .no (q := 5) rfl (s_mv rfl ?_)
      refine n_op .no (q := 6) rfl (s_mv rfl ?_)
      refine n_op .no (q := 7) rfl (s_bld pl_36 zl_36 rfl rfl rfl ?_)
      refine n_op .no (q := 8) rfl (s_bs el_37 ez_37 rfl rfl rfl ?_)
      refine n_op .no (q := 9) rfl (s_mv rfl ?_)
      refine n_op .no (q := 10) rfl (s_mv rfl ?_)
      refine n_op .no (q := 11) rfl (s_i2b un_3 un_5 rfl ?_)
      refine n_op .no (q := 12) rfl (s_mv rfl ?_)
      refine n_op .no (q := 13) rfl (s_i2b un_3 un_5 rfl ?_)
      refine n_op .no (q := 14) rfl (s_bs el_26 ez_26 rfl rfl rfl ?_)
      refine n_op .no (q := 15) rfl (s_bld pl_39 zl_39 rfl rfl rfl ?_)
      refine n_op .no (q := 16) rfl (s_bs el_40 ez_40 rfl rfl rfl ?_)
      refine n_op .no (q := 17) rfl (s_bld pl_42 zl_42 rfl rfl rfl ?_)
      refine n_call .no rfl rfl rfl ?_
      refine C.use (st_txn_i (hS.kp0 (n := nJ) (by repeat (first | exact Kp.refl _ _ _ | refine Kp.new ?_ (by omega) _)) hwJ) hinv (by omega) (by omega) (gds_one (x := ⟨k, i, un⟩) ((gs_ne (by omega) _).trans ((gs_ne (by omega) _).trans (gs_same _ _ _)))) (wrs_one (x := ⟨k, [UInt8.ofNat i, UInt8.ofNat j], false⟩) (gs_same _ _ _) (BytesNew.at (bytes_row (b := 0) (bs := [UInt8.ofNat i, UInt8.ofNat j]) ((gs_ne (by omega) _).trans (gs_same _ _ _)) (u8c_two i j (by omega) (by omega)) (by omega))))) fun v g9 n9 hw9 hn9 hq => ?_
      obtain ⟨sl9, hu, hS9, hM9, k9⟩ := hq
      have hinv9 := hinv.txn (gs := [⟨k, i, un⟩]) (ws := [⟨k, [UInt8.ofNat i, UInt8.ofNat j], false⟩])
      rcases hwon with ⟨rfl, rfl, hone⟩ | ⟨hj0, rfl, rfl, hone⟩
      · obtain ⟨e1, e2⟩ := once_txn (un := un) (w := [UInt8.ofNat i, UInt8.ofNat 0]) hone hk (by omega) (by simp)
        rw [e1] at hu
        subst hu
        refine n_op .no (q := 19) rfl (s_mv rfl ?_)
        refine n_op .no (q := 20) rfl (s_ext rfl rfl ?_)
        refine n_op .no (q := 21) rfl (s_ext rfl rfl ?_)
        refine n_op .no (q := 22) rfl (s_as rfl ?_)
        refine n_op .no (q := 23) rfl (s_as rfl ?_)
        refine n_nil ?_
        repeat (first | refine w_seq ?_ | refine w_blk ?_ | refine z_seq ?_ | refine z_blk ?_ | refine w_skip ?_)
        refine w_reg 2 rfl rfl (j' := 2) ?_
        refine n_op .no (q := 0) rfl (s_mv rfl ?_)
        refine n_op .no (q := 1) rfl (s_bin rfl rfl rfl ?_)
        refine n_nil ?_
        repeat (first | refine w_seq ?_ | refine w_blk ?_ | refine z_seq ?_ | refine z_blk ?_ | refine w_skip ?_)
        refine w_yes rfl (rfl) ?_
        repeat (first | refine w_seq ?_ | refine w_blk ?_ | refine z_seq ?_ | refine z_blk ?_ | refine w_skip ?_)
        refine w_reg 3 rfl rfl (j' := 5) ?_
        refine n_op .no (q := 2) rfl (s_mv rfl ?_)
        refine n_op .no (q := 3) rfl (s_bin rfl rfl (r := .int .i64 (((0 + 1 : Nat) : Int))) (by first | exact bi_add (by omega) (by omega) (by omega) | exact bi_sub (by omega) (by omega) (by omega) | exact bi_add rfl (by omega) (by omega) | exact bi_sub rfl (by omega) (by omega)) ?_)
        refine n_op .no (q := 4) rfl (s_as rfl ?_)
        refine n_nil ?_
        repeat (first | refine w_seq ?_ | refine w_blk ?_ | refine z_seq ?_ | refine z_blk ?_ | refine w_skip ?_)
        repeat (first | refine w_seq ?_ | refine w_blk ?_ | refine z_seq ?_ | refine z_blk ?_ | refine w_skip ?_)
        refine w_reg 3 rfl rfl (j' := 8) ?_
        refine n_op .no (q := 5) rfl (s_mv rfl ?_)
        first | refine n_op .no (q := 6) rfl (s_bin rfl rfl (bi_inc (by omega)) ?_) | refine n_op .no (q := 6) rfl (s_bin rfl rfl (bi_add rfl (by omega) (by omega)) ?_)
        refine n_op .no (q := 7) rfl (s_as rfl ?_)
        refine n_nil ?_
        exact z_round (0 + 1, 0 + 1) ⟨rfl, rfl, rfl, rfl, rfl, rfl, rfl, rfl, trivial⟩ ⟨by simp only; omega, by omega, sl9, _, _, hS9, hinv9.up (by simp only; omega), .inr ⟨Nat.succ_pos _, rfl, rfl, e2⟩⟩ (by simp only; omega)
      · obtain ⟨e1, e2⟩ := once_txn_no (un := un) (w := [UInt8.ofNat i, UInt8.ofNat j]) hone hk (by omega) (by simp)
        rw [e1] at hu
        subst hu
        refine n_op .no (q := 19) rfl (s_mv rfl ?_)
        refine n_op .no (q := 20) rfl (s_ext rfl rfl ?_)
        refine n_op .no (q := 21) rfl (s_ext rfl rfl ?_)
        refine n_op .no (q := 22) rfl (s_as rfl ?_)
        refine n_op .no (q := 23) rfl (s_as rfl ?_)
        refine n_nil ?_
        repeat (first | refine w_seq ?_ | refine w_blk ?_ | refine z_seq ?_ | refine z_blk ?_ | refine w_skip ?_)
        refine w_reg 2 rfl rfl (j' := 2) ?_
        refine n_op .no (q := 0) rfl (s_mv rfl ?_)
        refine n_op .no (q := 1) rfl (s_bin rfl rfl rfl ?_)
        refine n_nil ?_
        repeat (first | refine w_seq ?_ | refine w_blk ?_ | refine z_seq ?_ | refine z_blk ?_ | refine w_skip ?_)
        refine w_no rfl (rfl) ?_
        repeat (first | refine w_seq ?_ | refine w_blk ?_ | refine z_seq ?_ | refine z_blk ?_ | refine w_skip ?_)
        refine w_reg 2 rfl rfl (j' := 4) ?_
        refine n_op .no (q := 2) rfl (s_mv rfl ?_)
        refine n_op .no (q := 3) rfl (s_bin rfl rfl rfl ?_)
        refine n_nil ?_
        repeat (first | refine w_seq ?_ | refine w_blk ?_ | refine z_seq ?_ | refine z_blk ?_ | refine w_skip ?_)
        refine w_no rfl (rfl) ?_
        repeat (first | refine w_seq ?_ | refine w_blk ?_ | refine z_seq ?_ | refine z_blk ?_ | refine w_skip ?_)
        repeat (first | refine w_seq ?_ | refine w_blk ?_ | refine z_seq ?_ | refine z_blk ?_ | refine w_skip ?_)
        refine w_reg 3 rfl rfl (j' := 7) ?_
        refine n_op .no (q := 4) rfl (s_mv rfl ?_)
        first | refine n_op .no (q := 5) rfl (s_bin rfl rfl (bi_inc (by omega)) ?_) | refine n_op .no (q := 5) rfl (s_bin rfl rfl (bi_add rfl (by omega) (by omega)) ?_)
        refine n_op .no (q := 6) rfl (s_as rfl ?_)
        refine n_nil ?_
        exact z_round (j + 1, 1) ⟨rfl, rfl, rfl, rfl, rfl, rfl, rfl, rfl, trivial⟩ ⟨by simp only; omega, by omega, sl9, _, _, hS9, hinv9.up (by simp only; omega), .inr ⟨Nat.succ_pos _, rfl, rfl, e2⟩⟩ (by simp only; omega)
    have hjm : j = m := by have := of_decide_eq_false hb; omega
    obtain ⟨-, rfl, rfl, hone⟩ : 0 < j ∧ won = 1 ∧ v = [UInt8.ofNat i, 0] ∧ S.One k (i + 1) v := by
      rcases hwon with ⟨x, _⟩ | x
      · omega
      · exact x
    refine w_exit rfl ?_
    repeat (first | refine w_seq ?_ | refine w_blk ?_ | refine z_seq ?_ | refine z_blk ?_ | refine w_skip ?_)
    refine w_reg 9 rfl rfl (j' := 12) ?_
    refine n_op .no (q := 3) rfl (s_mv rfl ?_)
    refine n_op .no (q := 4) rfl (s_mv rfl ?_)
    refine n_call .no rfl rfl rfl ?_
    refine C.useG (st_get_i (k := k) hS hinv (by omega)) fun v g10 n10 hw10 hn10 hx10 hq => ?_
    obtain ⟨c10, e10, ok10, rfl, hE10, hf10, hS10, k10⟩ := hq
    have hf : findK k S.now = some ⟨k, i + 1, [UInt8.ofNat i, 0]⟩ := by
      rcases hone.is with ⟨x, _⟩ | ⟨_, x, _⟩
      · omega
      · rw [x]; simp [findK]
    obtain ⟨rfl, rfl⟩ : e10 = ⟨k, i + 1, [UInt8.ofNat i, 0]⟩ ∧ ok10 = true := by
      rcases hf10 with ⟨x, y⟩ | ⟨x, _⟩
      · rw [hf] at x; exact ⟨(Option.some.inj x).symm, y⟩
      · rw [hf] at x; cases x
    obtain ⟨a10, p10, rfl, hv10, _⟩ := hE10
    have hv10 : BytesNew _ g10 (.slice a10 2 p10) [UInt8.ofNat i, 0] := hv10
    refine n_op .no (q := 6) rfl (s_mv rfl ?_)
    refine n_op .no (q := 7) rfl (s_ext rfl rfl ?_)
    refine n_op .no (q := 8) rfl (s_ext rfl rfl ?_)
    refine n_op .no (q := 9) rfl (s_al zl_28 ?_)
    refine n_op .no (q := 10) rfl (s_stw rfl rfl sz_28 rfl (by repeat (first | exact gs_same _ _ _ | refine (gs_ne (by omega) _).trans ?_)) (by exact rfl) rfl ?_)
    refine n_op .no (q := 11) rfl (s_as rfl ?_)
    refine n_nil ?_
    repeat (first | refine w_seq ?_ | refine w_blk ?_ | refine z_seq ?_ | refine z_blk ?_ | refine w_skip ?_)
    refine w_gen fun g11 n11 hg11 hn11 hwg11 => ?_
    have z10 : g10 (nJ + 9) = none := hx10 _ (by omega) (hwJ.none (by omega))
    have k11 : K0 g10 n10 g11 := by rw [hg11]; exact Kp.add (Kp.add (Kp.refl _ _ _) z10 _) z10 _
    have c11 : g11 (nJ + 9) = some (.cells (entC ⟨k, i + 1, [UInt8.ofNat i, 0]⟩ (.slice a10 2 p10)) 0 false) := by rw [hg11]; exact gs_same _ _ _
    clear hg11 hf10
    have hS11 := hS10.kp0 k11 hw10
    have hv11 := hv10.kp0 k11 hw10
    obtain ⟨lb, ob, cb, clb, rob, y1, y2, y3⟩ := SlC.at1 (i := 1) (w := .int .u8 ((0 : UInt8).toNat : Int)) hv11.at (Nat.lt_succ_self 1) rfl
    cases y1
    have h12 : 1 < 2 := by decide
    repeat (first | refine w_seq ?_ | refine w_blk ?_ | refine z_seq ?_ | refine z_blk ?_ | refine w_skip ?_)
    refine w_reg 26 rfl rfl (j' := 26) ?_
    refine n_op .no (q := 0) rfl (s_mv rfl ?_)
    refine n_op .no (q := 1) rfl (s_bin rfl rfl rfl ?_)
    refine n_op .no (q := 2) rfl (s_mv rfl ?_)
    refine n_op (.yes rfl rfl (rfl)) (q := 3) rfl (s_mv rfl ?_)
    refine n_op (.yes rfl rfl (rfl)) (q := 4) rfl (s_not rfl ?_)
    refine n_op .no (q := 5) rfl (s_pf rfl (rfl) rfl ?_)
    refine n_op .no (q := 6) rfl (s_mv rfl ?_)
    first | refine n_op (.yes rfl rfl (rfl)) (q := 7) rfl (s_fa0 rfl fo_28_2 ?_) | refine n_op (.yes rfl rfl (rfl)) (q := 7) rfl (s_fa rfl fo_28_2 ?_)
    refine n_op (.yes rfl rfl (rfl)) (q := 8) rfl (s_ld rfl (by repeat (first | exact gs_same _ _ _ | exact c11 | exact y2 | exact y3 | refine (gs_ne (by omega) _).trans ?_)) ag_26 (by first | exact rfl | exact c11 | exact y2 | exact y3) ?_)
    refine n_op (.yes rfl rfl (rfl)) (q := 9) rfl (s_len rfl rfl un_26 rfl ?_)
    refine n_op (.yes rfl rfl (rfl)) (q := 10) rfl (s_bin rfl rfl rfl ?_)
    refine n_op .no (q := 11) rfl (s_pf rfl (rfl) rfl ?_)
    refine n_op .no (q := 12) rfl (s_mv rfl ?_)
    first | refine n_op (.yes rfl rfl (rfl)) (q := 13) rfl (s_fa0 rfl fo_28_2 ?_) | refine n_op (.yes rfl rfl (rfl)) (q := 13) rfl (s_fa rfl fo_28_2 ?_)
    refine n_op (.yes rfl rfl (rfl)) (q := 14) rfl (s_ld rfl (by repeat (first | exact gs_same _ _ _ | exact c11 | exact y2 | exact y3 | refine (gs_ne (by omega) _).trans ?_)) ag_26 (by first | exact rfl | exact c11 | exact y2 | exact y3) ?_)
    refine n_op (.yes rfl rfl (rfl)) (q := 15) rfl (s_ia rfl rfl el_26 (by first | assumption | omega) ?_)
    refine n_op (.yes rfl rfl (rfl)) (q := 16) rfl (s_ld rfl (by repeat (first | exact gs_same _ _ _ | exact c11 | exact y2 | exact y3 | refine (gs_ne (by omega) _).trans ?_)) ag_5 (by first | exact rfl | exact c11 | exact y2 | exact y3) ?_)
    refine n_op (.yes rfl rfl (rfl)) (q := 17) rfl (s_bin rfl rfl rfl ?_)
    refine n_op .no (q := 18) rfl (s_pf rfl (rfl) rfl ?_)
    refine n_op .no (q := 19) rfl (s_mv rfl ?_)
    refine n_op (.yes rfl rfl (rfl)) (q := 20) rfl (s_mv rfl ?_)
    refine n_call (.yes rfl rfl (rfl)) rfl rfl rfl ?_
    refine C.use (st_rev hS11) fun v g12 n12 hw12 hn12 hq => ?_
    obtain ⟨hu, k12⟩ := hq
    have er : ({ S with reads := S.reads + 1 } : Sto).rev = (i : Int) + 1 := hone.rev
    rw [er] at hu
    subst hu
    refine n_op (.yes rfl rfl (rfl)) (q := 22) rfl (s_mv rfl ?_)
    first | refine n_op (.yes rfl rfl (rfl)) (q := 23) rfl (s_bin rfl rfl (bi_inc (by omega)) ?_) | refine n_op (.yes rfl rfl (rfl)) (q := 23) rfl (s_bin rfl rfl (bi_add rfl (by omega) (by omega)) ?_)
    refine n_op (.yes rfl rfl (rfl)) (q := 24) rfl (s_bin rfl rfl rfl ?_)
    refine n_op .no (q := 25) rfl (s_pf rfl (rfl) rfl ?_)
    refine n_nil ?_
    repeat (first | refine w_seq ?_ | refine w_blk ?_ | refine z_seq ?_ | refine z_blk ?_ | refine w_skip ?_)
    refine w_no rfl (by simp) ?_
    repeat (first | refine w_seq ?_ | refine w_blk ?_ | refine z_seq ?_ | refine z_blk ?_ | refine w_skip ?_)
    repeat (first | refine w_seq ?_ | refine w_blk ?_ | refine z_seq ?_ | refine z_blk ?_ | refine w_skip ?_)
    refine w_reg 3 rfl rfl (j' := 3) ?_
    refine n_op .no (q := 0) rfl (s_mv rfl ?_)
    first | refine n_op .no (q := 1) rfl (s_bin rfl rfl (bi_inc (by omega)) ?_) | refine n_op .no (q := 1) rfl (s_bin rfl rfl (bi_add rfl (by omega) (by omega)) ?_)
    refine n_op .no (q := 2) rfl (s_as rfl ?_)
    refine n_nil ?_
    exact z_round (i + 1) ⟨rfl, rfl, rfl, rfl, rfl, trivial⟩ ⟨by omega, by omega, sl, _, _, hS11.kp0 (k12.dn (m := n11) (by omega)) hwg11, ⟨hone.rev, hone.is⟩, hinv.read.up (by omega)⟩ (by omega)
  · refine w_exit rfl ?_
    repeat (first | refine w_seq ?_ | refine w_blk ?_ | refine z_seq ?_ | refine z_blk ?_ | refine w_skip ?_)
    refine w_reg 1 rfl rfl (j' := 3) ?_
    refine n_op .no (q := 2) rfl (s_as rfl ?_)
    refine n_nil ?_
    repeat (first | refine w_ret ?_ | refine w_seq ?_ | refine w_blk ?_ | refine z_seq ?_ | refine z_blk ?_ | refine w_skip ?_)
    refine z_r1 rfl rfl ?_
    rfl

end Go.Proofs.YtehmailaabjdjaaGreat
