/-
  StoreOwn answers true. No condition but that begun does.
-/
import Derived.Test.YtehmailaabjdjaaGreatStoX
import Derived.Test.YtehmailaabjdjaaGreatLogOwn
open Go.Proofs
namespace Go.Proofs.YtehmailaabjdjaaGreat
set_option linter.unusedSimpArgs false
set_option linter.unusedVariables false
set_option maxRecDepth 100000

section
variable {g g' : Gm} {n b s m1 m2 l : Nat} {sl : Value} {S S' : Sto}
theorem StAt.lift0 {b' : Nat} (h : StAt b g s m1 m2 l (.slice none 0 0) S) (h1 : S.now = []) (h2 : S.log.evs = []) : StAt b' g s m1 m2 l (.slice none 0 0) S := by
  refine ⟨h.cell, ?_, h.last, ⟨h.log.cell, by rw [h2]; exact EvsOwn.nil _ _⟩, h.ne⟩
  have h3 := h.now
  rw [h1] at h3 ⊢
  obtain ⟨es, c, q1, q2, q3⟩ := h3
  refine ⟨es, c, q1, q2, ?_⟩
  cases es with
  | nil => trivial
  | cons e es => exact q3.elim
/-- A store whose own cell alone was written. -/
theorem StAt.back (h : StAt b g s m1 m2 l sl S) (hk : Kp (FC s) g n g') (hw : WF g n) (hc : g' s = some (.cells [.int .i64 S'.rev, .map (some m1), .map (some m2), .pointer (some ⟨l, 0, none⟩), .int .i64 S'.reads, .int .i64 S'.writes] 0 false)) (h1 : S'.now = S.now) (h2 : S'.last = S.last) (h3 : S'.log = S.log) : StAt b g' s m1 m2 l sl S' := by
  refine ⟨hc, ?_, ?_, ?_, h.ne⟩
  · rw [h1]; exact h.now.kp hk hw (fun es c hf => by obtain ⟨_, c', q, e⟩ := hf; cases e) (fun v e he => he.mono fun v bs hb => hb.kp hk hw (FC.nob _))
  · rw [h2]; exact h.last.kp hk hw (fun es c hf => by obtain ⟨_, c', q, e⟩ := hf; cases e) (fun v a e => e)
  · rw [h3]; exact h.log.kp hk hw (fun x cl ro _ => FC.nob _ x cl ro) (fun o hf => h.nl hf.1.symm) (fun x o hx ho hf => by
      obtain ⟨e, _⟩ := hf
      subst e
      exact h.sv hx)
theorem EntsOwn.at0 {v : Value} {es : List SEnt} (h : EntsOwn b g v es) (hi : 0 < es.length) : ∃ l o c cl a p, v = .slice (some ⟨l, o, none⟩) es.length c ∧ b ≤ l ∧ g l = some (.cells cl 3 false) ∧ cl[o + 2]? = some (.slice a es[0].val.length p) ∧ BytesNew b g (.slice a es[0].val.length p) es[0].val := by
  obtain ⟨⟨cs, h1, h2⟩, h3⟩ := h
  obtain ⟨l, o, c, cl, rfl, hc, h4, h5, h6, h7, h8⟩ := h1.at hi
  have h9 := h2.get hi
  rw [← h7] at h9
  rw [Nat.zero_mul, Nat.add_zero] at h9
  obtain ⟨a, p, h10, h11, h12⟩ := h9
  refine ⟨l, o, c, cl, a, p, rfl, h3 l rfl, h4, ?_, h11⟩
  have := congrArg (fun x => x[2]?) h10
  simpa [List.getElem?_take, List.getElem?_drop, entC] using this
end

def ownW (r : List UInt8) : Wr := ⟨[97], 7 :: r, false⟩
def ownN (r : List UInt8) : SEnt := ⟨[97], 1, 7 :: r⟩
def ownV (r : List UInt8) : Evt := ⟨1, [97], 7 :: r, false⟩
theorem own_can {r : List UInt8} (h : r.length ≤ 20) : Sto.new.can [] [ownW r] = 0 :=
  can_ok (Sto.may_one (by simp) (fun x hx => by cases hx) ⟨by simp [ownW, keyOk], (fun k => (by have := k.1; cases this)), (by show (7 :: r).length ≤ 4000; rw [List.length_cons]; omega)⟩) (fun x hx => by cases hx) (fun w hw k => by rw [List.mem_singleton.1 hw] at k; cases k)
theorem own_list {S : Sto} {r : List UInt8} (h : S.now = [([97], ownN r)]) : S.list = [ownN r] := by
  rw [Sto.list, h]
  simp [sortK, findK]
theorem own_from' (r : List UInt8) : (Sto.new.log.add [ownV r]).from_ 0 = ([ownV r], 0) := by
  have e : Sto.new.log.add [ownV r] = ⟨[ownV r], 64, 0, 1⟩ := rfl
  rw [e]
  simp [Log.from_, ownV]

theorem storeOwn_c (hB : BegunOk) {g : Gm} {n : Nat} {v : Value} {bs : List UInt8} (h : BytesAt g v bs) : C 11 #[v] g n fun u g' n' => u = .bool true := by
  obtain ⟨a, c, rfl⟩ := h.len
  refine c_in1 Tryz.func11 rfl Tryz.ntmps11 rfl fun hw => ?_
  repeat (first | refine w_seq ?_ | refine w_blk ?_ | refine z_seq ?_ | refine z_blk ?_ | refine w_skip ?_)
  refine w_reg 1 rfl rfl (j' := 1) ?_
  refine n_op .no (q := 0) rfl (s_as rfl ?_)
  refine n_nil ?_
  repeat (first | refine w_seq ?_ | refine w_blk ?_ | refine z_seq ?_ | refine z_blk ?_ | refine w_skip ?_)
  refine w_reg 2 rfl rfl (j' := 3) ?_
  refine n_call .no rfl rfl rfl ?_
  refine C.use (hB _ _) fun v g1 n1 hw1 hn1 hq => ?_
  obtain ⟨rfl, rfl⟩ := hq
  refine n_op .no (q := 2) rfl (s_as rfl ?_)
  refine n_nil ?_
  repeat (first | refine w_seq ?_ | refine w_blk ?_ | refine z_seq ?_ | refine z_blk ?_ | refine w_skip ?_)
  refine w_reg 2 rfl rfl (j' := 2) ?_
  refine n_op .no (q := 0) rfl (s_mv rfl ?_)
  refine n_op .no (q := 1) rfl (s_not rfl ?_)
  refine n_nil ?_
  repeat (first | refine w_seq ?_ | refine w_blk ?_ | refine z_seq ?_ | refine z_blk ?_ | refine w_skip ?_)
  refine w_no rfl (rfl) ?_
  have h1 : BytesAt g1 (.slice a bs.length c) bs := h
  repeat (first | refine w_seq ?_ | refine w_blk ?_ | refine z_seq ?_ | refine z_blk ?_ | refine w_skip ?_)
  refine w_reg 8 rfl rfl (j' := 10) ?_
  refine n_op .no (q := 2) rfl (s_bs el_26 ez_26 rfl rfl rfl ?_)
  refine n_op .no (q := 3) rfl (s_mv rfl ?_)
  refine n_op .no (q := 4) rfl (s_mv rfl ?_)
  refine n_op .no (q := 5) rfl (s_len rfl rfl un_26 rfl ?_)
  refine n_op .no (q := 6) rfl (s_min rfl rfl (c := ((min bs.length 20 : Nat) : Int)) (by omega) ?_)
  refine n_op .no (q := 7) rfl (s_hiB rfl (BytesAt.kp0 (n := n1) h1 (by repeat (first | exact Kp.refl _ _ _ | refine Kp.new ?_ (by omega) _)) hw1) rfl (Nat.min_le_left _ _) fun w hw2 => ?_)
  have hlen : (bs.take (min bs.length 20)).length ≤ 20 := by rw [List.length_take]; omega
  refine n_op .no (q := 8) rfl (s_appB rfl rfl (bytes_row (b := n1) (bs := [7]) (gs_same _ _ _) rfl (by omega)) hw2 (by simp only [List.length_cons, List.length_nil]; omega) (by omega) fun a2 c2 g2 tc wr hv2 hg2 => ?_)
  refine n_op .no (q := 9) rfl (s_as rfl ?_)
  refine n_nil ?_
  generalize hr : bs.take (min bs.length 20) = r at *
  have hv2 : BytesNew n1 g2 (.slice a2 (r.length + 1) c2) (7 :: r) := hv2
  repeat (first | refine w_seq ?_ | refine w_blk ?_ | refine z_seq ?_ | refine z_blk ?_ | refine w_skip ?_)
  refine w_wf fun hw2 => ?_
  repeat (first | refine w_seq ?_ | refine w_blk ?_ | refine z_seq ?_ | refine z_blk ?_ | refine w_skip ?_)
  refine w_reg 2 rfl rfl (j' := 12) ?_
  refine n_call .no rfl rfl rfl ?_
  refine C.use (st_new _ _) fun v g3 n3 hw3 hn3 hq => ?_
  obtain ⟨s, m1, m2, l, rfl, hS3, k3⟩ := hq
  refine n_op .no (q := 11) rfl (s_as rfl ?_)
  refine n_nil ?_
  have hv3 := hv2.kp0 (k3.dn (by omega)) hw2
  repeat (first | refine w_seq ?_ | refine w_blk ?_ | refine z_seq ?_ | refine z_blk ?_ | refine w_skip ?_)
  refine w_reg 3 rfl rfl (j' := 3) ?_
  refine n_op .no (q := 0) rfl (s_mv rfl ?_)
  refine n_op .no (q := 1) rfl (s_appN rfl rfl (BytesNew.at (hv3.kp0 (n := n3) (by repeat (first | exact Kp.refl _ _ _ | refine Kp.new ?_ (by omega) _)) hw3)) (by simp only [List.length_cons]; omega) (Nat.le_add_right n3 _) fun a4 c4 g4 tc4 wr4 hv4 hg4 => ?_)
  refine n_op .no (q := 2) rfl (s_as rfl ?_)
  refine n_nil ?_
  repeat (first | refine w_seq ?_ | refine w_blk ?_ | refine z_seq ?_ | refine z_blk ?_ | refine w_skip ?_)
  refine w_wf fun hw4 => ?_
  have k4 : K0 g3 n3 g4 := hg4.kp (by repeat (first | exact Kp.refl _ _ _ | refine Kp.new ?_ (by omega) _)) (by omega) fun l hl => by cases hl
  have hv4' := hv3.kp0 k4 hw3
  have hS4 : StAt (n3 + 3) g4 s m1 m2 l (.slice none 0 0) Sto.new := (hS3.kp0 k4 hw3).lift0 rfl rfl
  repeat (first | refine w_seq ?_ | refine w_blk ?_ | refine z_seq ?_ | refine z_blk ?_ | refine w_skip ?_)
  refine w_reg 11 rfl rfl (j' := 14) ?_
  refine n_op .no (q := 3) rfl (s_mv rfl ?_)
  refine n_op .no (q := 4) rfl (s_mv rfl ?_)
  refine n_op .no (q := 5) rfl (s_bld pl_39 zl_39 rfl rfl rfl ?_)
  refine n_op .no (q := 6) rfl (s_bs el_40 ez_40 rfl rfl rfl ?_)
  refine n_op .no (q := 7) rfl (s_bld pl_42 zl_42 rfl rfl rfl ?_)
  refine n_call .no rfl rfl rfl ?_
  obtain ⟨e1, _, e2, _, e4⟩ := Sto.txn_one (own_can hlen)
  have hi5 := Sto.Inv.new.txn (gs := []) (ws := [ownW r])
  refine C.use (st_txn_i (b := n3 + 3) (hS4.kp0 (n := n3 + 3) (by repeat (first | exact Kp.refl _ _ _ | refine Kp.new ?_ (by omega) _)) hw4) Sto.Inv.new (by decide) (by omega) (GdsRd.nil _) (wrs_one (x := ownW r) (gs_same _ _ _) (BytesAt.kp0 (n := n3 + 3) hv4.at (by repeat (first | exact Kp.refl _ _ _ | refine Kp.new ?_ (by omega) _)) hw4))) fun v g5 n5 hw5 hn5 hq => ?_
  obtain ⟨sl, hu, hS5, hM5, k5⟩ := hq
  rw [e1] at hu
  subst hu
  generalize (Sto.new.txn [] [ownW r]).1 = S at *
  have e2 : S.now = [([97], ownN r)] := e2
  have e4 : S.log = Sto.new.log.add [ownV r] := e4
  refine n_op .no (q := 9) rfl (s_mv rfl ?_)
  refine n_op .no (q := 10) rfl (s_ext rfl rfl ?_)
  refine n_op .no (q := 11) rfl (s_ext rfl rfl ?_)
  refine n_op .no (q := 12) rfl (s_as rfl ?_)
  refine n_op .no (q := 13) rfl (s_as rfl ?_)
  refine n_nil ?_
  repeat (first | refine w_seq ?_ | refine w_blk ?_ | refine z_seq ?_ | refine z_blk ?_ | refine w_skip ?_)
  refine w_reg 2 rfl rfl (j' := 2) ?_
  refine n_op .no (q := 0) rfl (s_mv rfl ?_)
  refine n_op .no (q := 1) rfl (s_bin rfl rfl rfl ?_)
  refine n_nil ?_
  repeat (first | refine w_seq ?_ | refine w_blk ?_ | refine z_seq ?_ | refine z_blk ?_ | refine w_skip ?_)
  refine w_no rfl (rfl) ?_
  have k5' : Kp (FS s m1 m2 l (.slice none 0 0)) g4 (n3 + 3) g5 := (Kp.z (by exact (by repeat (first | exact Kp.refl _ _ _ | refine Kp.new ?_ (by omega) _)))).tr' k5 (by omega)
  have hv5 := hv4.kp k5' hw4 (FS.nob _ _ _ _ _)
  have hx5 := hv4'.kp k5' hw4 (FS.nob _ _ _ _ _)
  clear k5 hS4 hS3
  obtain ⟨lv, ov, cv, clv, q1, q2, q3, q4, q5, q6, q7⟩ := hv5.pos
  have hlv : lv < n3 + 3 := hv4.lt hw4 (by rw [q1]; rfl)
  cases q1
  have hpos : 0 < (7 :: r).length := by simp
  have hcv : ov + 1 ≤ clv.length := by omega
  repeat (first | refine w_seq ?_ | refine w_blk ?_ | refine z_seq ?_ | refine z_blk ?_ | refine w_skip ?_)
  refine w_reg 6 rfl rfl (j' := 8) ?_
  refine n_op .no (q := 2) rfl (s_mv rfl ?_)
  refine n_op .no (q := 3) rfl (s_ia0 rfl rfl el_26 (by first | assumption | omega) ?_)
  refine n_op .no (q := 4) rfl (s_ld rfl (by repeat (first | exact gs_same _ _ _ | exact q4 | exact q6 | refine (gs_ne (by omega) _).trans ?_)) ag_5 (by first | exact rfl | exact q4 | exact q6) ?_)
  refine n_op .no (q := 5) rfl (s_bin rfl rfl (r := .int .u8 ((8 : UInt8).toNat : Int)) rfl ?_)
  refine n_op .no (q := 6) rfl (s_ia0 rfl rfl el_26 (by first | assumption | omega) ?_)
  refine n_op .no (q := 7) rfl (s_stg rfl rfl sz_5 (by repeat (first | exact gs_same _ _ _ | exact q4 | exact q6 | refine (gs_ne (by omega) _).trans ?_)) rfl rfl (by first | assumption | omega) ?_)
  refine n_nil ?_
  repeat (first | refine w_seq ?_ | refine w_blk ?_ | refine z_seq ?_ | refine z_blk ?_ | refine w_skip ?_)
  refine w_gen fun g6 n6 hg6 hn6 hwg6 => ?_
  have k6 : Kp (fun x _ => x = lv) g5 n5 g6 := by rw [hg6]; exact (Kp.refl _ _ _).set (fun _ _ => rfl) _
  have hS6 : StAt (n3 + 3) g6 s m1 m2 l sl S := hS5.kp k6 hw5 (fun x cl ro hx e => by omega) (fun _ e => by subst e; rw [hS5.cell] at q4; cases q4) (fun es c e => by
    subst e
    obtain ⟨_, _, x, _⟩ := hS5.now
    rw [x] at q4; cases q4) (fun es c e => by
    subst e
    obtain ⟨_, _, x, _⟩ := hS5.last
    rw [x] at q4; cases q4) (fun _ e => by subst e; rw [hS5.log.cell] at q4; cases q4) (fun x o hx _ e => by subst e; exact hS5.log.evs.nv q4 (by decide) hx)
  have hx6 : BytesNew n1 g6 _ _ := ⟨hx5.1.kp k6 hw5 (fun x o hx _ e => by have := hv3.lt hw3 hx; omega), hx5.2⟩
  clear hg6
  repeat (first | refine w_seq ?_ | refine w_blk ?_ | refine z_seq ?_ | refine z_blk ?_ | refine w_skip ?_)
  refine w_reg 8 rfl rfl (j' := 8) ?_
  refine n_op .no (q := 0) rfl (s_mv rfl ?_)
  refine n_call .no rfl rfl rfl ?_
  refine C.useG (st_get_i (k := [97]) hS6 hi5 (by decide)) fun v g7 n7 hw7 hn7 hx7 hq => ?_
  obtain ⟨c7, e7, ok7, rfl, hE7, hf7, hS7, k7⟩ := hq
  have hf : findK [97] S.now = some (ownN r) := by rw [e2]; rfl
  obtain ⟨rfl, rfl⟩ : e7 = ownN r ∧ ok7 = true := by
    rcases hf7 with ⟨x, y⟩ | ⟨x, _⟩
    · rw [hf] at x; exact ⟨(Option.some.inj x).symm, y⟩
    · rw [hf] at x; cases x
  obtain ⟨a7, p7, rfl, hv7, _⟩ := hE7
  have hb7 : ∀ x, vname (.slice a7 (r.length + 1) p7) = some x → x < n7 := fun x hx => hv7.lt hw7 hx
  refine n_op .no (q := 2) rfl (s_mv rfl ?_)
  refine n_op .no (q := 3) rfl (s_ext rfl rfl ?_)
  refine n_op .no (q := 4) rfl (s_ext rfl rfl ?_)
  refine n_op .no (q := 5) rfl (s_al zl_28 ?_)
  refine n_op .no (q := 6) rfl (s_stw rfl rfl sz_28 rfl (by repeat (first | exact gs_same _ _ _ | refine (gs_ne (by omega) _).trans ?_)) (by exact rfl) rfl ?_)
  refine n_op .no (q := 7) rfl (s_as rfl ?_)
  refine n_nil ?_
  repeat (first | refine w_seq ?_ | refine w_blk ?_ | refine z_seq ?_ | refine z_blk ?_ | refine w_skip ?_)
  refine w_gen fun g8 n8 hg8 hn8 hwg8 => ?_
  have z7 : g7 (n6 + 5) = none := hx7 _ (by omega) (hwg6.none (by omega))
  have k8 : K0 g7 n7 g8 := by rw [hg8]; exact Kp.add (Kp.add (Kp.refl _ _ _) z7 _) z7 _
  have c8 : g8 (n6 + 5) = some (.cells (entC (ownN r) (.slice a7 (r.length + 1) p7)) 0 false) := by rw [hg8]; exact gs_same _ _ _
  clear hg8 hf7
  have k68 : Kp (FC s) g6 n6 g8 := (k7.dn (m := n6) (by omega)).trans0 k8 (by omega)
  have hS8 := hS7.kp0 k8 hw7
  have hv8 := hv7.kp0 k8 hw7
  repeat (first | refine w_seq ?_ | refine w_blk ?_ | refine z_seq ?_ | refine z_blk ?_ | refine w_skip ?_)
  refine w_reg 3 rfl rfl (j' := 3) ?_
  refine n_op .no (q := 0) rfl (s_mv rfl ?_)
  refine n_call .no rfl rfl rfl ?_
  refine C.use (st_list_i hS8 hi5.read (by decide)) fun v g9 n9 hw9 hn9 hq => ?_
  obtain ⟨hE9, hS9, k9⟩ := hq
  rw [own_list (S := { S with reads := S.reads + 1 }) e2] at hE9
  obtain ⟨lb, ob, cb, clb, ab, pb, y1, y2, y3, y4, y5⟩ := hE9.at0 (Nat.succ_pos _)
  cases y1
  have hb9 : ∀ x, vname (.slice ab (r.length + 1) pb) = some x → n8 ≤ x ∧ x < n9 := fun x hx => ⟨by have := y5.2 x hx; omega, y5.lt hw9 hx⟩
  refine n_op .no (q := 2) rfl (s_as rfl ?_)
  refine n_nil ?_
  have k69 : Kp (FC s) g6 n6 g9 := k68.tr' (k9.dn (m := n8) (by omega)) (by omega)
  have c9 := (k9.dn (m := n8) (by omega)).at hwg8 c8 (fun hf => by have := hf.1; have := hwg6 _ _ hS6.cell; omega)
  have hv9 := (hv8.kp (k9.dn (m := n8) (by omega)) hwg8 (FC.nob _)).up (b' := n6) (by omega)
  clear k7 hS7 hv7 c8 k9 hS8 hv8 k8
  repeat (first | refine w_seq ?_ | refine w_blk ?_ | refine z_seq ?_ | refine z_blk ?_ | refine w_skip ?_)
  refine w_reg 7 rfl rfl (j' := 7) ?_
  refine n_op .no (q := 0) rfl (s_mv rfl ?_)
  refine n_call .no rfl rfl rfl ?_
  refine C.use (st_watch_i (rev := 0) hS9 hi5.read.read (by decide)) fun v g11 n11 hw11 hn11 hq => ?_
  obtain ⟨w11, rfl, hE11, hS11, k11⟩ := hq
  have hfr : ({ { S with reads := S.reads + 1 } with reads := S.reads + 1 + 1 } : Sto).log.from_ 0 = ([ownV r], 0) := by rw [← own_from' r, ← e4]
  rw [hfr] at hE11 ⊢
  refine n_op .no (q := 2) rfl (s_mv rfl ?_)
  refine n_op .no (q := 3) rfl (s_ext rfl rfl ?_)
  refine n_op .no (q := 4) rfl (s_ext rfl rfl ?_)
  refine n_op .no (q := 5) rfl (s_as rfl ?_)
  refine n_op .no (q := 6) rfl (s_as rfl ?_)
  refine n_nil ?_
  have k611 : Kp (FC s) g6 n6 g11 := k69.tr' (k11.dn (m := n9) (by omega)) (by omega)
  have c11 := (k11.dn (m := n9) (by omega)).at hw9 c9 (fun hf => by have := hf.1; have := hwg6 _ _ hS6.cell; omega)
  have hv11 := hv9.kp (k11.dn (m := n9) (by omega)) hw9 (FC.nob _)
  have hvb := y5.kp (k11.dn (m := n9) (by omega)) hw9 (FC.nob _)
  have y3 := (k11.dn (m := n9) (by omega)).at hw9 y3 (fun hf => by have := hf.1; have := hwg6 _ _ hS6.cell; omega)
  have hx11 := hx6.kp k611 hwg6 (FC.nob _)
  have hS11c := hS11.cell
  obtain ⟨la, oa, ca, cla, aa, pa, z1, z2, z3, z4⟩ := hE11.at0 (show 0 < [ownV r].length from Nat.succ_pos _)
  cases z1
  have z5 := z4.c2
  have hva : BytesNew _ g11 (.slice aa (r.length + 1) pa) (7 :: r) := z4.val
  have hvb : BytesNew _ g11 (.slice ab (r.length + 1) pb) (7 :: r) := hvb
  have hone : 0 < [ownV r].length := Nat.succ_pos _
  have hone' : 0 < [ownN r].length := Nat.succ_pos _
  clear hS11 hE11 k11 hE9 hS9 c9 hv9 y5
  repeat (first | refine w_seq ?_ | refine w_blk ?_ | refine z_seq ?_ | refine z_blk ?_ | refine w_skip ?_)
  refine w_reg 33 rfl rfl (j' := 33) ?_
  refine n_op .no (q := 0) rfl (s_mv rfl ?_)
  refine n_op .no (q := 1) rfl (s_len rfl rfl un_48 rfl ?_)
  refine n_op .no (q := 2) rfl (s_bin rfl rfl rfl ?_)
  refine n_op .no (q := 3) rfl (s_mv rfl ?_)
  refine n_op (.yes rfl rfl (rfl)) (q := 4) rfl (s_mv rfl ?_)
  refine n_op (.yes rfl rfl (rfl)) (q := 5) rfl (s_len rfl rfl un_65 rfl ?_)
  refine n_op (.yes rfl rfl (rfl)) (q := 6) rfl (s_bin rfl rfl rfl ?_)
  refine n_op .no (q := 7) rfl (s_pf rfl (rfl) rfl ?_)
  refine n_op .no (q := 8) rfl (s_mv rfl ?_)
  first | refine n_op (.yes rfl rfl (rfl)) (q := 9) rfl (s_fa0 rfl fo_28_2 ?_) | refine n_op (.yes rfl rfl (rfl)) (q := 9) rfl (s_fa rfl fo_28_2 ?_)
  refine n_op (.yes rfl rfl (rfl)) (q := 10) rfl (s_ld rfl (by repeat (first | exact gs_same _ _ _ | exact c11 | refine (gs_ne (by omega) _).trans ?_)) ag_26 (by first | exact rfl | exact c11) ?_)
  refine n_op (.yes rfl rfl (rfl)) (q := 11) rfl (s_mv rfl ?_)
  refine n_call (.yes rfl rfl (rfl)) rfl rfl rfl ?_
  refine C.use (bytes_c hv11.at hx11.at) fun v g12 n12 hw12 hn12 hq => ?_
  obtain ⟨rfl, k12⟩ := hq
  have hlb := hw11 _ _ y3
  have hla := hw11 _ _ z3
  refine n_op (.yes rfl rfl (rfl)) (q := 13) rfl (s_not rfl ?_)
  refine n_op .no (q := 14) rfl (s_pf rfl (rfl) rfl ?_)
  refine n_op .no (q := 15) rfl (s_mv rfl ?_)
  refine n_op (.yes rfl rfl ((by simp [ownN]))) (q := 16) rfl (s_mv rfl ?_)
  refine n_op (.yes rfl rfl ((by simp [ownN]))) (q := 17) rfl (s_ia0 rfl rfl el_48 (by first | assumption | omega) ?_)
  first | refine n_op (.yes rfl rfl ((by simp [ownN]))) (q := 18) rfl (s_fa0 rfl fo_28_2 ?_) | refine n_op (.yes rfl rfl ((by simp [ownN]))) (q := 18) rfl (s_fa rfl fo_28_2 ?_)
  refine n_op (.yes rfl rfl ((by simp [ownN]))) (q := 19) rfl (s_ld rfl (by repeat (first | exact gs_same _ _ _ | refine Kp.lt k12 (by omega) ?_ | exact y3 | exact y4 | refine (gs_ne (by omega) _).trans ?_)) ag_26 (by first | exact rfl | exact y3 | exact y4) ?_)
  refine n_op (.yes rfl rfl ((by simp [ownN]))) (q := 20) rfl (s_mv rfl ?_)
  refine n_call (.yes rfl rfl ((by simp [ownN]))) rfl rfl rfl ?_
  have hx12 := hx11.kp0 (k12.dn (m := n11) (by omega)) hw11
  refine C.use (bytes_c (hvb.kp0 (k12.dn (m := n11) (by omega)) hw11).at hx12.at) fun v g13 n13 hw13 hn13 hq => ?_
  obtain ⟨rfl, k13⟩ := hq
  refine n_op (.yes rfl rfl ((by simp [ownN]))) (q := 22) rfl (s_not rfl ?_)
  refine n_op .no (q := 23) rfl (s_pf rfl ((by simp [ownN])) rfl ?_)
  refine n_op .no (q := 24) rfl (s_mv rfl ?_)
  refine n_op (.yes rfl rfl ((by simp [ownN]))) (q := 25) rfl (s_mv rfl ?_)
  refine n_op (.yes rfl rfl ((by simp [ownN]))) (q := 26) rfl (s_ia0 rfl rfl el_65 (by first | assumption | omega) ?_)
  first | refine n_op (.yes rfl rfl ((by simp [ownN]))) (q := 27) rfl (s_fa0 rfl fo_82_2 ?_) | refine n_op (.yes rfl rfl ((by simp [ownN]))) (q := 27) rfl (s_fa rfl fo_82_2 ?_)
  refine n_op (.yes rfl rfl ((by simp [ownN]))) (q := 28) rfl (s_ld rfl (by repeat (first | exact gs_same _ _ _ | refine Kp.lt k12 (by omega) ?_ | refine Kp.lt k13 (by omega) ?_ | exact z3 | exact z5 | refine (gs_ne (by omega) _).trans ?_)) ag_26 (by first | exact rfl | exact z3 | exact z5) ?_)
  refine n_op (.yes rfl rfl ((by simp [ownN]))) (q := 29) rfl (s_mv rfl ?_)
  refine n_call (.yes rfl rfl ((by simp [ownN]))) rfl rfl rfl ?_
  have k13' : K0 g11 n11 g13 := (k12.dn (m := n11) (by omega)).trans0 (k13.dn (m := n12) (by omega)) (by omega)
  have hx13 := hx11.kp0 k13' hw11
  refine C.use (bytes_c (hva.kp0 k13' hw11).at hx13.at) fun v g14 n14 hw14 hn14 hq => ?_
  obtain ⟨rfl, k14⟩ := hq
  refine n_op (.yes rfl rfl ((by simp [ownN]))) (q := 31) rfl (s_not rfl ?_)
  refine n_op .no (q := 32) rfl (s_pf rfl ((by simp [ownN])) rfl ?_)
  refine n_nil ?_
  have k14' : K0 g11 n11 g14 := k13'.trans0 (k14.dn (m := n13) (by omega)) (by omega)
  repeat (first | refine w_seq ?_ | refine w_blk ?_ | refine z_seq ?_ | refine z_blk ?_ | refine w_skip ?_)
  refine w_no rfl (by simp [ownV]) ?_
  have k614 : Kp (FC s) g6 n6 g14 := k611.trans0 k14' (by omega)
  have c14 := k14'.at0 hw11 c11
  have y14 := k14'.at0 hw11 y3
  have z14 := k14'.at0 hw11 z3
  have v1 : BytesNew n6 g14 (.slice a7 (r.length + 1) p7) (7 :: r) := hv11.kp0 k14' hw11
  have v2 := hvb.kp0 k14' hw11
  have v3 := hva.kp0 k14' hw11
  have hS14c := k14'.at0 hw11 hS11c
  clear k12 k13 k13' k14 k14' hx11 hx12 hx13 hv11 hvb hva c11 y3 z3 k68 k69 k611 hS11c z4
  obtain ⟨l1, o1, c1, cl1, q1, u2, u3, u4, u5, u6, _⟩ := v1.pos
  have b1 := hb7 l1 (by rw [q1]; rfl)
  cases q1
  obtain ⟨l2, o2, c2', cl2, q1, w2, w3, w4, w5, w6, _⟩ := v2.pos
  have b2 := hb9 l2 (by rw [q1]; rfl)
  cases q1
  obtain ⟨l3, o3, c3, cl3, q1, x2, x3, x4, x5, x6, _⟩ := v3.pos
  cases q1
  have hl14 := hw14
  have d1 : o1 + 1 ≤ cl1.length := by omega
  have d2 : o2 + 1 ≤ cl2.length := by omega
  have d3 : o3 + 1 ≤ cl3.length := by omega
  have hpr : 0 < r.length + 1 := by omega
  repeat (first | refine w_seq ?_ | refine w_blk ?_ | refine z_seq ?_ | refine z_blk ?_ | refine w_skip ?_)
  refine w_drw (T6 11 16) [(0, []), (1, []), (2, [1]), (3, [1]), (4, [1]), (5, [1]), (6, [1, 5]), (7, [1, 5]), (8, [1, 5]), (9, [1, 5]), (10, []), (11, []), (12, []), (13, []), (14, []), (15, [])] 16 (by kernel_rfl) rfl rfl (j' := 16) ?_
  first | refine d_op rfl rfl .no (q := 0) rfl (s_fa0 rfl fo_28_2 ⟨⟨rfl, rfl⟩, ?_⟩) | refine d_op rfl rfl .no (q := 0) rfl (s_fa rfl fo_28_2 ⟨⟨rfl, rfl⟩, ?_⟩)
  refine d_tc rfl rfl rfl .no (q := 1) rfl (s_ld rfl (by repeat (first | exact gs_same _ _ _ | exact c14 | exact y14 | exact y4 | exact z14 | exact z5 | exact u4 | exact w4 | exact x4 | refine (gs_ne (by omega) _).trans ?_)) ag_26 (by first | exact rfl | exact c14 | exact y14 | exact y4 | exact z14 | exact z5 | exact u4 | exact w4 | exact x4) ⟨clash_nil, ?_⟩)
  refine d_op rfl rfl .no (q := 2) rfl (s_mv rfl ⟨⟨rfl, rfl⟩, ?_⟩)
  refine d_op rfl rfl .no (q := 3) rfl (s_ia0 rfl rfl el_48 (by first | assumption | omega) ⟨⟨rfl, rfl⟩, ?_⟩)
  first | refine d_op rfl rfl .no (q := 4) rfl (s_fa0 rfl fo_28_2 ⟨⟨rfl, rfl⟩, ?_⟩) | refine d_op rfl rfl .no (q := 4) rfl (s_fa rfl fo_28_2 ⟨⟨rfl, rfl⟩, ?_⟩)
  refine d_tc rfl rfl rfl .no (q := 5) rfl (s_ld rfl (by repeat (first | exact gs_same _ _ _ | exact c14 | exact y14 | exact y4 | exact z14 | exact z5 | exact u4 | exact w4 | exact x4 | refine (gs_ne (by omega) _).trans ?_)) ag_26 (by first | exact rfl | exact c14 | exact y14 | exact y4 | exact z14 | exact z5 | exact u4 | exact w4 | exact x4) ⟨clash_rd rfl, ?_⟩)
  refine d_op rfl rfl .no (q := 6) rfl (s_mv rfl ⟨⟨rfl, rfl⟩, ?_⟩)
  refine d_op rfl rfl .no (q := 7) rfl (s_ia0 rfl rfl el_65 (by first | assumption | omega) ⟨⟨rfl, rfl⟩, ?_⟩)
  first | refine d_op rfl rfl .no (q := 8) rfl (s_fa0 rfl fo_82_2 ⟨⟨rfl, rfl⟩, ?_⟩) | refine d_op rfl rfl .no (q := 8) rfl (s_fa rfl fo_82_2 ⟨⟨rfl, rfl⟩, ?_⟩)
  refine d_tc rfl rfl rfl .no (q := 9) rfl (s_ld rfl (by repeat (first | exact gs_same _ _ _ | exact c14 | exact y14 | exact y4 | exact z14 | exact z5 | exact u4 | exact w4 | exact x4 | refine (gs_ne (by omega) _).trans ?_)) ag_26 (by first | exact rfl | exact c14 | exact y14 | exact y4 | exact z14 | exact z5 | exact u4 | exact w4 | exact x4) ⟨clash_rd rfl, ?_⟩)
  refine d_op rfl rfl .no (q := 10) rfl (s_ia0 rfl rfl el_26 (by first | assumption | omega) ⟨⟨rfl, rfl⟩, ?_⟩)
  refine d_tc rfl rfl rfl .no (q := 11) rfl (s_stg rfl rfl sz_5 (by repeat (first | exact gs_same _ _ _ | exact c14 | exact y14 | exact y4 | exact z14 | exact z5 | exact u4 | exact w4 | exact x4 | refine (gs_ne (by omega) _).trans ?_)) rfl rfl (by first | assumption | omega) ⟨clash_nil, ?_⟩)
  refine d_op rfl rfl .no (q := 12) rfl (s_ia0 rfl rfl el_26 (by first | assumption | omega) ⟨⟨rfl, rfl⟩, ?_⟩)
  refine d_tc rfl rfl rfl .no (q := 13) rfl (s_stg rfl rfl sz_5 (by repeat (first | exact gs_same _ _ _ | exact c14 | exact y14 | exact y4 | exact z14 | exact z5 | exact u4 | exact w4 | exact x4 | refine (gs_ne (by omega) _).trans ?_)) rfl rfl (by first | assumption | omega) ⟨clash_nil, ?_⟩)
  refine d_op rfl rfl .no (q := 14) rfl (s_ia0 rfl rfl el_26 (by first | assumption | omega) ⟨⟨rfl, rfl⟩, ?_⟩)
  refine d_tc rfl rfl rfl .no (q := 15) rfl (s_stg rfl rfl sz_5 (by repeat (first | exact gs_same _ _ _ | exact c14 | exact y14 | exact y4 | exact z14 | exact z5 | exact u4 | exact w4 | exact x4 | refine (gs_ne (by omega) _).trans ?_)) rfl rfl (by first | assumption | omega) ⟨clash_nil, ?_⟩)
  refine d_nil ?_
  repeat (first | refine w_seq ?_ | refine w_blk ?_ | refine z_seq ?_ | refine z_blk ?_ | refine w_skip ?_)
  refine w_gen fun g16 n16 hg16 hn16 hwg16 => ?_
  have sln := hwg6 _ _ hS6.cell
  have k616 : Kp (FC s) g6 n6 g16 := by rw [hg16]; exact Kp.new (Kp.new (Kp.new k614 (by omega) _) (by omega) _) (by omega) _
  have hS16 : StAt (n3 + 3) g16 s m1 m2 l sl { S with reads := S.reads + 1 + 1 + 1 } := hS6.back k616 hwg6 (S' := { S with reads := S.reads + 1 + 1 + 1 }) (by rw [hg16]; exact (gs_ne (by omega) _).trans ((gs_ne (by omega) _).trans ((gs_ne (by omega) _).trans hS14c))) rfl rfl rfl
  have hx16 := hx6.kp k616 hwg6 (FC.nob _)
  have hi16 : ({ S with reads := S.reads + 1 + 1 + 1 } : Sto).Inv 4 := hi5.read.read.read
  clear hg16 hS14c k614 k616 hS6 hx6 u4 w4 x4 v1 v2 v3 y14 z14 c14 hi5 k6
  obtain ⟨Q, hQ⟩ : ∃ Q : Sto, Q = { S with reads := S.reads + 1 + 1 + 1 } := ⟨_, rfl⟩
  have e2 : Q.now = [([97], ownN r)] := by rw [hQ]; exact e2
  have e4 : Q.log = Sto.new.log.add [ownV r] := by rw [hQ]; exact e4
  rw [← hQ] at hS16 hi16
  clear hQ
  repeat (first | refine w_seq ?_ | refine w_blk ?_ | refine z_seq ?_ | refine z_blk ?_ | refine w_skip ?_)
  refine w_reg 8 rfl rfl (j' := 8) ?_
  refine n_op .no (q := 0) rfl (s_mv rfl ?_)
  refine n_call .no rfl rfl rfl ?_
  refine C.useG (st_get_i (k := [97]) hS16 hi16 (by decide)) fun v g21 n21 hw21 hn21 hx21 hq => ?_
  obtain ⟨c21, e21, ok21, rfl, hE21, hf21, hS21, k21⟩ := hq
  have hf : findK [97] Q.now = some (ownN r) := by rw [e2]; rfl
  obtain ⟨rfl, rfl⟩ : e21 = ownN r ∧ ok21 = true := by
    rcases hf21 with ⟨x, y⟩ | ⟨x, _⟩
    · rw [hf] at x; exact ⟨(Option.some.inj x).symm, y⟩
    · rw [hf] at x; cases x
  obtain ⟨a21, p21, rfl, hv21, _⟩ := hE21
  refine n_op .no (q := 2) rfl (s_mv rfl ?_)
  refine n_op .no (q := 3) rfl (s_ext rfl rfl ?_)
  refine n_op .no (q := 4) rfl (s_ext rfl rfl ?_)
  refine n_op .no (q := 5) rfl (s_al zl_28 ?_)
  refine n_op .no (q := 6) rfl (s_stw rfl rfl sz_28 rfl (by repeat (first | exact gs_same _ _ _ | refine (gs_ne (by omega) _).trans ?_)) (by exact rfl) rfl ?_)
  refine n_op .no (q := 7) rfl (s_as rfl ?_)
  refine n_nil ?_
  repeat (first | refine w_seq ?_ | refine w_blk ?_ | refine z_seq ?_ | refine z_blk ?_ | refine w_skip ?_)
  refine w_gen fun g22 n22 hg22 hn22 hwg22 => ?_
  have z21 : g21 (n16 + 5) = none := hx21 _ (by omega) (hwg16.none (by omega))
  have k22 : K0 g21 n21 g22 := by rw [hg22]; exact Kp.add (Kp.add (Kp.refl _ _ _) z21 _) z21 _
  have c22 : g22 (n16 + 5) = some (.cells (entC (ownN r) (.slice a21 (r.length + 1) p21)) 0 false) := by rw [hg22]; exact gs_same _ _ _
  clear hg22 hf21
  have sln := hwg16 _ _ hS16.cell
  have k162 : Kp (FC s) g16 n16 g22 := (k21.dn (m := n16) (by omega)).trans0 k22 (by omega)
  have hS22 := hS21.kp0 k22 hw21
  have v22 := hv21.kp0 k22 hw21
  repeat (first | refine w_seq ?_ | refine w_blk ?_ | refine z_seq ?_ | refine z_blk ?_ | refine w_skip ?_)
  refine w_reg 3 rfl rfl (j' := 3) ?_
  refine n_op .no (q := 0) rfl (s_mv rfl ?_)
  refine n_call .no rfl rfl rfl ?_
  refine C.use (st_list_i hS22 hi16.read (by decide)) fun v g23 n23 hw23 hn23 hq => ?_
  obtain ⟨hE23, hS23, k23⟩ := hq
  rw [own_list (S := { Q with reads := Q.reads + 1 }) e2] at hE23
  obtain ⟨ld, od, cd, cld, ad, pd, y1, y2, y3, y4, y5⟩ := hE23.at0 (Nat.succ_pos _)
  cases y1
  refine n_op .no (q := 2) rfl (s_as rfl ?_)
  refine n_nil ?_
  have k23' := k23.dn (m := n22) (by omega)
  have c23 := k23'.at hwg22 c22 (fun hf => by have := hf.1; omega)
  have v23 := v22.kp k23' hwg22 (FC.nob _)
  have k163 : Kp (FC s) g16 n16 g23 := k162.tr' k23' (by omega)
  repeat (first | refine w_seq ?_ | refine w_blk ?_ | refine z_seq ?_ | refine z_blk ?_ | refine w_skip ?_)
  refine w_reg 7 rfl rfl (j' := 7) ?_
  refine n_op .no (q := 0) rfl (s_mv rfl ?_)
  refine n_call .no rfl rfl rfl ?_
  refine C.use (st_watch_i (rev := 0) hS23 hi16.read.read (by decide)) fun v g24 n24 hw24 hn24 hq => ?_
  obtain ⟨w24, rfl, hE24, hS24, k24⟩ := hq
  have hfr : ({ { Q with reads := Q.reads + 1 } with reads := Q.reads + 1 + 1 } : Sto).log.from_ 0 = ([ownV r], 0) := by rw [← own_from' r, ← e4]
  rw [hfr] at hE24 ⊢
  refine n_op .no (q := 2) rfl (s_mv rfl ?_)
  refine n_op .no (q := 3) rfl (s_ext rfl rfl ?_)
  refine n_op .no (q := 4) rfl (s_ext rfl rfl ?_)
  refine n_op .no (q := 5) rfl (s_as rfl ?_)
  refine n_op .no (q := 6) rfl (s_as rfl ?_)
  refine n_nil ?_
  have k24' := k24.dn (m := n23) (by omega)
  have c24 := k24'.at hw23 c23 (fun hf => by have := hf.1; omega)
  have v24 := v23.kp k24' hw23 (FC.nob _)
  have hvd := y5.kp k24' hw23 (FC.nob _)
  have y3 := k24'.at hw23 y3 (fun hf => by have := hf.1; omega)
  have hx24 := hx16.kp (k163.tr' k24' (by omega)) hwg16 (FC.nob _)
  obtain ⟨le, oe, ce, cle, ae, pe, z1, z2, z3, z4⟩ := hE24.at0 (show 0 < [ownV r].length from Nat.succ_pos _)
  cases z1
  have z5 := z4.c2
  have hve : BytesNew _ g24 (.slice ae (r.length + 1) pe) (7 :: r) := z4.val
  have hle := hw24 _ _ z3
  have hld := hw24 _ _ y3
  clear hS24 hE24 k24 hE23 hS23 k23 c23 v23 y5
  repeat (first | refine w_seq ?_ | refine w_blk ?_ | refine z_seq ?_ | refine z_blk ?_ | refine w_skip ?_)
  refine w_reg 31 rfl rfl (j' := 31) ?_
  first | refine n_op .no (q := 0) rfl (s_fa0 rfl fo_28_2 ?_) | refine n_op .no (q := 0) rfl (s_fa rfl fo_28_2 ?_)
  refine n_op .no (q := 1) rfl (s_ld rfl (by repeat (first | exact gs_same _ _ _ | exact c24 | refine (gs_ne (by omega) _).trans ?_)) ag_26 (by first | exact rfl | exact c24) ?_)
  refine n_op .no (q := 2) rfl (s_mv rfl ?_)
  refine n_call .no rfl rfl rfl ?_
  refine C.use (bytes_c v24.at hx24.at) fun v g25 n25 hw25 hn25 hq => ?_
  obtain ⟨rfl, k25⟩ := hq
  have k25' := k25.dn (m := n24) (by omega)
  refine n_op .no (q := 4) rfl (s_mv rfl ?_)
  refine n_op (.yes rfl rfl ((by simp [ownN]))) (q := 5) rfl (s_mv rfl ?_)
  refine n_op (.yes rfl rfl ((by simp [ownN]))) (q := 6) rfl (s_len rfl rfl un_48 rfl ?_)
  refine n_op (.yes rfl rfl ((by simp [ownN]))) (q := 7) rfl (s_bin rfl rfl rfl ?_)
  refine n_op .no (q := 8) rfl (s_pt rfl ((by simp [ownN])) rfl ?_)
  refine n_op .no (q := 9) rfl (s_mv rfl ?_)
  refine n_op (.yes rfl rfl (rfl)) (q := 10) rfl (s_mv rfl ?_)
  refine n_op (.yes rfl rfl (rfl)) (q := 11) rfl (s_ia0 rfl rfl el_48 (by first | assumption | omega) ?_)
  first | refine n_op (.yes rfl rfl (rfl)) (q := 12) rfl (s_fa0 rfl fo_28_2 ?_) | refine n_op (.yes rfl rfl (rfl)) (q := 12) rfl (s_fa rfl fo_28_2 ?_)
  refine n_op (.yes rfl rfl (rfl)) (q := 13) rfl (s_ld rfl (by repeat (first | exact gs_same _ _ _ | refine Kp.lt k25 (by omega) ?_ | exact y3 | exact y4 | refine (gs_ne (by omega) _).trans ?_)) ag_26 (by first | exact rfl | exact y3 | exact y4) ?_)
  refine n_op (.yes rfl rfl (rfl)) (q := 14) rfl (s_mv rfl ?_)
  refine n_call (.yes rfl rfl (rfl)) rfl rfl rfl ?_
  refine C.use (bytes_c (hvd.kp0 k25' hw24).at (hx24.kp0 k25' hw24).at) fun v g26 n26 hw26 hn26 hq => ?_
  obtain ⟨rfl, k26⟩ := hq
  have k26' := k25'.trans0 (k26.dn (m := n25) (by omega)) (by omega)
  refine n_op .no (q := 16) rfl (s_pt rfl (rfl) rfl ?_)
  refine n_op .no (q := 17) rfl (s_mv rfl ?_)
  refine n_op (.yes rfl rfl ((by simp [ownN]))) (q := 18) rfl (s_mv rfl ?_)
  refine n_op (.yes rfl rfl ((by simp [ownN]))) (q := 19) rfl (s_len rfl rfl un_65 rfl ?_)
  refine n_op (.yes rfl rfl ((by simp [ownN]))) (q := 20) rfl (s_bin rfl rfl rfl ?_)
  refine n_op .no (q := 21) rfl (s_pt rfl ((by simp [ownN])) rfl ?_)
  refine n_op .no (q := 22) rfl (s_mv rfl ?_)
  refine n_op (.yes rfl rfl (rfl)) (q := 23) rfl (s_mv rfl ?_)
  refine n_op (.yes rfl rfl (rfl)) (q := 24) rfl (s_ia0 rfl rfl el_65 (by first | assumption | omega) ?_)
  first | refine n_op (.yes rfl rfl (rfl)) (q := 25) rfl (s_fa0 rfl fo_82_2 ?_) | refine n_op (.yes rfl rfl (rfl)) (q := 25) rfl (s_fa rfl fo_82_2 ?_)
  refine n_op (.yes rfl rfl (rfl)) (q := 26) rfl (s_ld rfl (by repeat (first | exact gs_same _ _ _ | refine Kp.lt k25 (by omega) ?_ | refine Kp.lt k26 (by omega) ?_ | exact z3 | exact z5 | refine (gs_ne (by omega) _).trans ?_)) ag_26 (by first | exact rfl | exact z3 | exact z5) ?_)
  refine n_op (.yes rfl rfl (rfl)) (q := 27) rfl (s_mv rfl ?_)
  refine n_call (.yes rfl rfl (rfl)) rfl rfl rfl ?_
  refine C.use (bytes_c (hve.kp0 k26' hw24).at (hx24.kp0 k26' hw24).at) fun v g27 n27 hw27 hn27 hq => ?_
  obtain ⟨rfl, k27⟩ := hq
  refine n_op .no (q := 29) rfl (s_pt rfl (rfl) rfl ?_)
  refine n_op .no (q := 30) rfl (s_as rfl ?_)
  refine n_nil ?_
  repeat (first | refine w_ret ?_ | refine w_seq ?_ | refine w_blk ?_ | refine z_seq ?_ | refine z_blk ?_ | refine w_skip ?_)
  refine z_r1 rfl rfl ?_
  simp [ownV]

end Go.Proofs.YtehmailaabjdjaaGreat
