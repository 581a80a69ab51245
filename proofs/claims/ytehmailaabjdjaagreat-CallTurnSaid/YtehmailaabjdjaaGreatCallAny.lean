/-
  CallAny answers true whatever comes in. No condition but that begun does.
-/
import Derived.Test.YtehmailaabjdjaaGreatCallY
open Go.Proofs
namespace Go.Proofs.YtehmailaabjdjaaGreat
set_option linter.unusedSimpArgs false
set_option linter.unusedVariables false
set_option maxRecDepth 100000

theorem bi_rem {P : Program} {t : TypeId} {a b c : Int} (h0 : b ≠ 0) (h : a.tmod b = c) : binS P .rem t (.int .i64 a) (.int .i64 b) = some (.int .i64 c) := by
  subst h
  simp only [binS, if_true, intV, if_neg h0]

section
variable {N : Nat} {f : Nat → Value} {s : Sls} {g : Gm} {n nm : Nat} {k : Sls → Gm → List Nat → List Nat → Prop} {d : Tmp} {ty : TypeId} {pos : String} {af : Array Edge} {gd : Option (Nat × Bool)}
/-- x ^ y of bytes -/
theorem s_xor8 {t t2 : TypeId} {x y : Operand} {a b : Int} (hx : ov N s x = some (.int .u8 a)) (hy : ov N s y = some (.int .u8 b))
    (hk : ∀ z : UInt8, k ((d, .int .u8 (z.toNat : Int)) :: s) g [] []) : ST N f s g n nm ⟨some d, .binOp .xor t x y t2, ty, pos, af, gd⟩ k := by
  have h1 : (do eqGuard .xor t x y (.int .u8 a) (.int .u8 b); Go.binOp .xor t (.int .u8 a) (.int .u8 b) : Sem Value) = Op.intBits .xor .u8 a b := rfl
  have h2 : ∃ z : UInt8, IntKind.u8.wrap (BitVec.ofInt 8 a ^^^ BitVec.ofInt 8 b).toNat = (z.toNat : Int) := by
    refine ⟨UInt8.ofNat (BitVec.ofInt 8 a ^^^ BitVec.ofInt 8 b).toNat, ?_⟩
    rw [UInt8.toNat_ofNat']
    simp only [IntKind.wrap, IntKind.bits, IntKind.signed]
    simp
  obtain ⟨z, hz⟩ := h2
  refine st_bin hx hy rfl rfl (r := .int .u8 (z.toNat : Int)) rfl ?_ (hk z)
  rw [h1]
  show some (Value.int .u8 (IntKind.u8.wrap (BitVec.ofInt 8 a ^^^ BitVec.ofInt 8 b).toNat)) = _
  rw [hz]
end

/-- A byte of one's own takes another value. -/
theorem BytesNew.put {b i : Nat} {g : Gm} {v : Value} {bs : List UInt8} (h : BytesNew b g v bs) (hi : i < bs.length) : ∃ l o c cl, v = .slice (some ⟨l, o, none⟩) bs.length c ∧ b ≤ l ∧ g l = some (.cells cl 1 false) ∧ cl[o + i * 1]? = some (.int .u8 bs[i].toNat) ∧ o + i * 1 + 1 ≤ cl.length ∧
    ∀ y : UInt8, BytesNew b (gset g l (.cells (splice cl (o + i * 1) [.int .u8 y.toNat]) 1 false)) v (bs.set i y) := by
  obtain ⟨⟨h1, ⟨_, h2⟩ | ⟨l, o, c, cl, rfl, h3, h4, h5, h6⟩⟩, h7⟩ := h
  · omega
  · refine ⟨l, o, c, cl, rfl, h7 l rfl, h4, ?_, by omega, fun y => ⟨⟨by rw [u8c_length, List.length_set]; omega, .inr ⟨l, o, c, _, by rw [List.length_set], by rw [List.length_set]; exact h3, gs_same _ _ _, ?_, ?_⟩⟩, h7⟩⟩
    · have := take_cell h6 (show i < bs.length * 1 by omega)
      rw [Nat.mul_one, this, u8c, List.getElem?_map, List.getElem?_eq_getElem hi]; rfl
    · rw [splice_length (by simp; omega)]; exact h5
    · have := splice_in (cl := cl) (src := [.int .u8 y.toNat]) (o := o) (m := bs.length * 1) (j := i) (by omega) (by simp; omega)
      simp only [Nat.mul_one] at this h6 ⊢
      rw [List.length_set, this, h6, u8c, u8c]
      apply List.ext_getElem?
      intro j
      rw [splice_get (by simp; omega), List.getElem?_map, List.getElem?_map, List.getElem?_set]
      by_cases hj : i = j
      · subst hj; simp [hi]
      · rw [if_neg (by simp; omega), if_neg hj]

/-- Bytes in a row. -/
def RowsB (g : Gm) (v : Value) (xs : List Bs) : Prop := ∃ cs, SlC g 1 v xs.length cs ∧ Rows 1 (fun c x => ∃ a p, c = [.slice a (List.length x) p] ∧ BytesAt g (.slice a (List.length x) p) x) cs xs
theorem RowsB.len {g : Gm} {v : Value} {xs : List Bs} (h : RowsB g v xs) : ∃ a c, v = .slice a xs.length c := by
  obtain ⟨cs, h1, _⟩ := h
  obtain ⟨a, c, h, _⟩ := h1.len
  exact ⟨a, c, h⟩
theorem RowsB.kp0 {g g' : Gm} {n : Nat} {v : Value} {xs : List Bs} (h : RowsB g v xs) (hk : K0 g n g') (hw : WF g n) : RowsB g' v xs := by
  obtain ⟨cs, h1, h2⟩ := h
  refine ⟨cs, h1.kp0 hk hw, h2.mono fun c x _ hx => ?_⟩
  obtain ⟨a, p, e, hb⟩ := hx
  exact ⟨a, p, e, hb.kp0 hk hw⟩
theorem RowsB.at {g : Gm} {v : Value} {xs : List Bs} {i : Nat} (h : RowsB g v xs) (hi : i < xs.length) : ∃ l o c cl ro a p, v = .slice (some ⟨l, o, none⟩) xs.length c ∧ g l = some (.cells cl 1 ro) ∧ cl[o + i * 1]? = some (.slice a xs[i].length p) ∧ BytesAt g (.slice a xs[i].length p) xs[i] := by
  obtain ⟨cs, h1, h2⟩ := h
  obtain ⟨a, p, e, hb⟩ := h2.get hi
  have : cs[i]? = some (.slice a xs[i].length p) := by
    have h3 : ((cs.drop (i * 1)).take 1)[0]? = some (.slice a xs[i].length p) := by rw [e]; rfl
    rw [List.getElem?_take, if_pos (by decide), List.getElem?_drop, Nat.mul_one, Nat.add_zero] at h3
    exact h3
  obtain ⟨l, o, c, cl, ro, q1, q2, q3⟩ := SlC.one h1 hi this
  exact ⟨l, o, c, cl, ro, a, p, q1, q2, q3, hb⟩

theorem app56 : AppT E6.P 56 56 1 24 := ⟨26, _, un_56, sz_26, by_26, zp_26, rfl, by decide, by decide, by rw [un_56]; rfl⟩

theorem SlC.fr {g g' : Gm} {n k m x : Nat} {v : Value} {cs : List Value} (h : SlC g (k + 1) v m cs) (hk : Kp (FRd x) g n g') (hw : WF g n) : SlC g' (k + 1) v m cs := by
  obtain ⟨h1, h2 | h2 | ⟨l, o, c, h2, h3, h4 | ⟨cl, ro, h4, h5, h6⟩⟩⟩ := h
  · exact ⟨h1, .inl h2⟩
  · exact ⟨h1, .inr (.inl h2)⟩
  · exact ⟨h1, .inr (.inr ⟨l, o, c, h2, h3, .inl h4⟩)⟩
  · exact ⟨h1, .inr (.inr ⟨l, o, c, h2, h3, .inr ⟨cl, ro, hk.at hw h4 (fun hf => by obtain ⟨_, c', q, e⟩ := hf; cases e), h5, h6⟩⟩)⟩
theorem GdsRd.fr {g g' : Gm} {n x : Nat} {v : Value} {gs : List Gd} (h : GdsRd g v gs) (hk : Kp (FRd x) g n g') (hw : WF g n) : GdsRd g' v gs := by
  obtain ⟨cs, h1, h2⟩ := h
  exact ⟨cs, h1.fr hk hw, h2⟩
theorem WrsRd.fr {g g' : Gm} {n x : Nat} {v : Value} {ws : List Wr} (h : WrsRd g v ws) (hk : Kp (FRd x) g n g') (hw : WF g n) : WrsRd g' v ws := by
  obtain ⟨cs, h1, h2⟩ := h
  exact ⟨cs, h1.fr hk hw, h2.mono fun c x _ hx => hx.mono fun _ _ k => k.kp hk hw (FRd.nob _)⟩

theorem neAll_nil : ∀ (l : List Nat), neAll l []
  | [] => trivial
  | x :: r => ⟨trivial, neAll_nil r⟩
def allEm (lo : List Nat) : List Rec → Bool
  | [] => true
  | d :: D => (match memN d.i lo with
    | true => (match d.tch, d.wrt with
      | [], [] => true
      | _, _ => false)
    | false => true) && allEm lo D
/-- What touches nothing clashes with nothing. -/
theorem clash_em {lo t w : List Nat} : ∀ {D : List Rec}, allEm lo D = true → clashS lo t w D
  | [], _ => trivial
  | d :: D, h => by
    simp only [allEm, Bool.and_eq_true] at h
    refine ⟨?_, clash_em h.2⟩
    have h1 := h.1
    cases hm : memN d.i lo with
    | false => exact trivial
    | true =>
      rw [hm] at h1
      simp only at h1
      split at h1
      · rename_i e1 e2
        show neAll d.wrt t ∧ neAll w d.tch
        rw [e1, e2]
        exact ⟨trivial, neAll_nil _⟩
      · cases h1

theorem BytesAt.off {g g' : Gm} {v : Value} {bs : List UInt8} {l : Nat} {a : Option Addr} {m c : Nat} (h : BytesAt g v bs) (hl : g l = some (.cells [.slice a m c] 1 false)) (hk : ∀ x o, x ≠ l → g x = some o → g' x = some o) : BytesAt g' v bs := by
  obtain ⟨h1, h2 | h2 | ⟨l', o, c', h2, h3, h4 | ⟨cl, ro, h4, h5, h6⟩⟩⟩ := h
  · exact ⟨h1, .inl h2⟩
  · exact ⟨h1, .inr (.inl h2)⟩
  · exact ⟨h1, .inr (.inr ⟨l', o, c', h2, h3, .inl h4⟩)⟩
  · by_cases e : l' = l
    · subst e
      rw [hl] at h4; cases h4
      by_cases h0 : bs.length = 0
      · exact ⟨h1, .inr (.inr ⟨l', o, c', h2, h3, .inl h0⟩)⟩
      · exfalso
        simp only [List.length_singleton] at h5
        obtain rfl : o = 0 := by omega
        have : ([.slice a m c] : List Value)[0]? = (u8c bs)[0]? := by
          rw [← h6, List.getElem?_take, if_pos (by omega)]; rfl
        obtain ⟨b, r, rfl⟩ : ∃ b r, bs = b :: r := by
          cases bs with
          | nil => exact absurd rfl h0
          | cons b r => exact ⟨b, r, rfl⟩
        simp [u8c] at this
    · exact ⟨h1, .inr (.inr ⟨l', o, c', h2, h3, .inr ⟨cl, ro, hk _ _ e h4, h5, h6⟩⟩)⟩
theorem SlOwn.same' {g g' : Gm} {k m : Nat} {v : Value} {cs : List Value} (h : SlOwn g k v m cs) (he : ∀ x, vname v = some x → g' x = g x) : SlOwn g' k v m cs := by
  obtain ⟨h1, h2 | ⟨l, o, c, cl, h2, h3, h4, h5, h6⟩⟩ := h
  · exact ⟨h1, .inl h2⟩
  · exact ⟨h1, .inr ⟨l, o, c, cl, h2, h3, (he l (by rw [h2]; rfl)).trans h4, h5, h6⟩⟩

def Cal.cutC (x : Cal) : Cal := { x with gs := x.gs.take 25, ws := x.ws.take 70 }

theorem callAny_c (hB : BegunOk) {g : Gm} {n : Nat} {v gv wv : Value} {raw : Bs} {x : Cal} {z : Int} {xb : UInt8} (h1 : BytesAt g v raw) (h2 : CalAt g x gv wv) :
    C 5 #[v, .agg (calC x gv wv).toArray, .int .i64 z, .int .u8 (xb.toNat : Int)] g n fun u g' n' => u = .bool true := by
  obtain ⟨ar, cr, rfl⟩ := h1.len
  refine c_in4 Tryz.func5 rfl Tryz.ntmps5 rfl fun hw => ?_
  repeat (first | refine w_seq ?_ | refine w_blk ?_ | refine z_seq ?_ | refine z_blk ?_ | refine w_skip ?_)
  refine w_reg 2 rfl rfl (j' := 2) ?_
  refine n_op .no (q := 0) rfl (s_boxa rfl ?_)
  refine n_op .no (q := 1) rfl (s_as rfl ?_)
  refine n_nil ?_
  repeat (first | refine w_seq ?_ | refine w_blk ?_ | refine z_seq ?_ | refine z_blk ?_ | refine w_skip ?_)
  refine w_reg 2 rfl rfl (j' := 4) ?_
  refine n_call .no rfl rfl rfl ?_
  refine C.use (hB _ _) fun v g1 n1 hw1 hn1 hq => ?_
  obtain ⟨rfl, rfl⟩ := hq
  refine n_op .no (q := 3) rfl (s_as rfl ?_)
  refine n_nil ?_
  repeat (first | refine w_seq ?_ | refine w_blk ?_ | refine z_seq ?_ | refine z_blk ?_ | refine w_skip ?_)
  refine w_reg 2 rfl rfl (j' := 2) ?_
  refine n_op .no (q := 0) rfl (s_mv rfl ?_)
  refine n_op .no (q := 1) rfl (s_not rfl ?_)
  refine n_nil ?_
  repeat (first | refine w_seq ?_ | refine w_blk ?_ | refine z_seq ?_ | refine z_blk ?_ | refine w_skip ?_)
  refine w_no rfl (rfl) ?_
  repeat (first | refine w_seq ?_ | refine w_blk ?_ | refine z_seq ?_ | refine z_blk ?_ | refine w_skip ?_)
  refine w_reg 5 rfl rfl (j' := 7) ?_
  first | refine n_op .no (q := 2) rfl (s_fa0 rfl fo_55_5 ?_) | refine n_op .no (q := 2) rfl (s_fa rfl fo_55_5 ?_)
  refine n_op .no (q := 3) rfl (s_ldf rfl (by repeat (first | exact gs_same _ _ _ | refine (gs_ne (by omega) _).trans ?_)) ag_42 sz_42 (by exact rfl) ?_)
  refine n_call .no rfl rfl rfl ?_
  refine C.use (cut_c (h2.gs.kp0 (n := n) (by repeat (first | exact Kp.refl _ _ _ | refine Kp.new ?_ (by omega) _)) hw) (h2.ws.kp0 (n := n) (by repeat (first | exact Kp.refl _ _ _ | refine Kp.new ?_ (by omega) _)) hw)) fun v g2 n2 hw2 hn2 hq => ?_
  obtain ⟨gv', wv', rfl, hG, hW, k2⟩ := hq
  obtain ⟨ag, cg, rfl⟩ := hG.len
  obtain ⟨aw, cw, rfl⟩ := hW.len
  first | refine n_op .no (q := 5) rfl (s_fa0 rfl fo_55_5 ?_) | refine n_op .no (q := 5) rfl (s_fa rfl fo_55_5 ?_)
  refine n_op .no (q := 6) rfl (s_sta rfl rfl sz_42 rfl (by repeat (first | exact gs_same _ _ _ | refine Kp.lt k2 (by omega) ?_ | refine (gs_ne (by omega) _).trans ?_)) (by first | exact Nat.le_of_ble_eq_true rfl | assumption | omega) rfl ?_)
  refine n_nil ?_
  repeat (first | refine w_seq ?_ | refine w_blk ?_ | refine z_seq ?_ | refine z_blk ?_ | refine w_skip ?_)
  refine w_gen fun g5 n5 hg5 hn5 hwg5 => ?_
  have c5 : g5 n = some (.cells (calC x.cutC (.slice ag x.cutC.gs.length cg) (.slice aw x.cutC.ws.length cw)) 0 false) := by rw [hg5]; exact gs_same _ _ _
  have k5 : K0 g n g5 := by rw [hg5]; exact Kp.new (Kp.trans0 (n' := n) (by repeat (first | exact Kp.refl _ _ _ | refine Kp.new ?_ (by omega) _)) (k2.dn (by omega)) (by omega)) (by omega) _
  have kz : Kp (FRd n) g2 n2 g5 := by rw [hg5]; exact Kp.set (Kp.refl _ _ _) (FRd.of (k2.lt (by omega) (gs_same _ _ _))) _
  have hC : CalAt g5 x.cutC (.slice ag x.cutC.gs.length cg) (.slice aw x.cutC.ws.length cw) := ⟨hG.fr kz hw2, hW.fr kz hw2⟩
  have hl1 : x.cutC.gs.length ≤ 25 := by show (x.gs.take 25).length ≤ 25; rw [List.length_take]; omega
  have hl2 : x.cutC.ws.length ≤ 70 := by show (x.ws.take 70).length ≤ 70; rw [List.length_take]; omega
  generalize x.cutC = y at *
  clear hg5 kz hG hW k2
  repeat (first | refine w_seq ?_ | refine w_blk ?_ | refine z_seq ?_ | refine z_blk ?_ | refine w_skip ?_)
  refine w_reg 7 rfl rfl (j' := 7) ?_
  refine n_op .no (q := 0) rfl (s_mv rfl ?_)
  refine n_op .no (q := 1) rfl (s_mv rfl ?_)
  refine n_op .no (q := 2) rfl (s_len rfl rfl un_26 rfl ?_)
  refine n_op .no (q := 3) rfl (s_min rfl rfl (c := ((min raw.length 60 : Nat) : Int)) (by omega) ?_)
  refine n_op .no (q := 4) rfl (s_hiB rfl (h1.kp0 k5 hw) rfl (Nat.min_le_left _ _) fun w6 hw6b => ?_)
  have hlr : (raw.take (min raw.length 60)).length ≤ 60 := by rw [List.length_take]; omega
  generalize raw.take (min raw.length 60) = r6 at *
  obtain ⟨a6, c6, rfl⟩ := hw6b.len
  refine n_op .no (q := 5) rfl (s_bs el_56 ez_56 rfl rfl rfl ?_)
  refine n_op .no (q := 6) rfl (s_as rfl ?_)
  refine n_nil ?_
  repeat (first | refine w_seq ?_ | refine w_blk ?_ | refine z_seq ?_ | refine z_blk ?_ | refine w_skip ?_)
  refine w_reg 3 rfl rfl (j' := 10) ?_
  refine n_op .no (q := 7) rfl (s_ldf rfl (by repeat (first | exact gs_same _ _ _ | exact c5 | refine (gs_ne (by omega) _).trans ?_)) ag_55 sz_55 (by exact rfl) ?_)
  refine n_call .no rfl rfl rfl ?_
  refine C.use (put_c (hC.kp0 (n := n5) (by repeat (first | exact Kp.refl _ _ _ | refine Kp.new ?_ (by omega) _)) hwg5) ⟨by omega, by omega⟩) fun v g3 n3 hw3 hn3 hq => ?_
  obtain ⟨⟨ap, cp, rfl⟩, hP, k3⟩ := hq
  have hpl := Cal.put_len y
  have k53 : K0 g5 n5 g3 := Kp.trans0 (n' := n5) (by repeat (first | exact Kp.refl _ _ _ | refine Kp.new ?_ (by omega) _)) (k3.dn (by omega)) (by omega)
  have hw6c := hw6b.kp0 k53 hwg5
  have l3 : g3 (n5 + 5) = some (.cells [.slice a6 r6.length c6] 1 false) := k3.lt (by omega) (gs_same _ _ _)
  refine n_op .no (q := 9) rfl (s_as rfl ?_)
  refine n_nil ?_
  repeat (first | refine w_seq ?_ | refine w_blk ?_ | refine z_seq ?_ | refine z_blk ?_ | refine w_skip ?_)
  refine w_reg 3 rfl rfl (j' := 3) ?_
  refine n_op .no (q := 0) rfl (s_mv rfl ?_)
  refine n_op .no (q := 1) rfl (s_len rfl rfl un_26 rfl ?_)
  refine n_op .no (q := 2) rfl (s_bin rfl rfl rfl ?_)
  refine n_nil ?_
  refine z_seq ?_
  refine z_meet (β := Value × List Bs) (fun b => [(10, b.1)]) (fun b g' n' => RowsB g' b.1 b.2 ∧ (∀ q ∈ b.2, q.length ≤ 2 ^ 30) ∧ b.2.length ≤ 4) ?_ ?_
  · by_cases hc : 0 < y.put.length
    · repeat (first | refine w_seq ?_ | refine w_blk ?_ | refine z_seq ?_ | refine z_blk ?_ | refine w_skip ?_)
      refine w_yes rfl (decide_eq_true (by omega)) ?_
      obtain ⟨m1, m2⟩ := tmod_lt (a := z) (b := (y.put.length : Int)) (by omega)
      obtain ⟨m3, m4⟩ := tmod_nn (a := z.tmod (y.put.length : Int) + (y.put.length : Int)) (b := (y.put.length : Int)) (by omega) (by omega)
      obtain ⟨kk, hk⟩ := Int.eq_ofNat_of_zero_le m3
      have hkk : kk < y.put.length := by omega
      repeat (first | refine w_seq ?_ | refine w_blk ?_ | refine z_seq ?_ | refine z_blk ?_ | refine w_skip ?_)
      refine w_reg 11 rfl rfl (j' := 14) ?_
      refine n_op .no (q := 3) rfl (s_mv rfl ?_)
      refine n_op .no (q := 4) rfl (s_mv rfl ?_)
      refine n_op .no (q := 5) rfl (s_len rfl rfl un_26 rfl ?_)
      refine n_op .no (q := 6) rfl (s_bin rfl rfl (r := .int .i64 (z.tmod (y.put.length : Int))) (bi_rem (by omega) (by first | rfl | assumption | omega)) ?_)
      refine n_op .no (q := 7) rfl (s_mv rfl ?_)
      refine n_op .no (q := 8) rfl (s_len rfl rfl un_26 rfl ?_)
      refine n_op .no (q := 9) rfl (s_bin rfl rfl (r := .int .i64 (z.tmod (y.put.length : Int) + (y.put.length : Int))) (by first | exact bi_add (by omega) (by omega) (by omega) | exact bi_sub (by omega) (by omega) (by omega) | exact bi_add rfl (by omega) (by omega) | exact bi_sub rfl (by omega) (by omega)) ?_)
      refine n_op .no (q := 10) rfl (s_mv rfl ?_)
      refine n_op .no (q := 11) rfl (s_len rfl rfl un_26 rfl ?_)
      refine n_op .no (q := 12) rfl (s_bin rfl rfl (r := .int .i64 (((kk : Nat) : Int))) (bi_rem (by omega) (by first | rfl | assumption | omega)) ?_)
      refine n_op .no (q := 13) rfl (s_as rfl ?_)
      refine n_nil ?_
      repeat (first | refine w_seq ?_ | refine w_blk ?_ | refine z_seq ?_ | refine z_blk ?_ | refine w_skip ?_)
      refine w_reg 3 rfl rfl (j' := 17) ?_
      refine n_op .no (q := 14) rfl (s_mv rfl ?_)
      refine n_op .no (q := 15) rfl (s_appN (b := n3) rfl rfl hP.at (by omega) (by omega) fun a9 c9 g9 tc wr h9 hg9 => ?_)
      refine n_op .no (q := 16) rfl (s_as rfl ?_)
      refine n_nil ?_
      have k9 : K0 g3 n3 g9 := hg9.kp (Kp.refl _ _ _) (by omega) fun l hl => by cases hl
      obtain ⟨lp, op, cp', clp, e9, hbl, hgl, hcell, hlen, hput⟩ := h9.put hkk
      cases e9
      repeat (first | refine w_seq ?_ | refine w_blk ?_ | refine z_seq ?_ | refine z_blk ?_ | refine w_skip ?_)
      refine w_reg 8 rfl rfl (j' := 25) ?_
      refine n_op .no (q := 17) rfl (s_mv rfl ?_)
      refine n_op .no (q := 18) rfl (s_mv rfl ?_)
      refine n_op .no (q := 19) rfl (s_ia rfl rfl el_26 (by first | assumption | omega) ?_)
      refine n_op .no (q := 20) rfl (s_ld rfl (by repeat (first | exact gs_same _ _ _ | exact hgl | exact hcell | refine (gs_ne (by omega) _).trans ?_)) ag_5 (by first | exact rfl | exact hgl | exact hcell) ?_)
      refine n_op .no (q := 21) rfl (s_mv rfl ?_)
      refine n_op .no (q := 22) rfl (s_xor8 rfl rfl fun zz => ?_)
      refine n_op .no (q := 23) rfl (s_ia rfl rfl el_26 (by first | assumption | omega) ?_)
      refine n_op .no (q := 24) rfl (s_stg rfl rfl sz_5 (by repeat (first | exact gs_same _ _ _ | exact hgl | refine (gs_ne (by omega) _).trans ?_)) rfl rfl (by first | assumption | omega) ?_)
      refine n_nil ?_
      repeat (first | refine w_seq ?_ | refine w_blk ?_ | refine z_seq ?_ | refine z_blk ?_ | refine w_skip ?_)
      refine w_gen fun g11 n11 hg11 hn11 hwg11 => ?_
      have h11 := hput zz
      rw [← hg11] at h11
      have k11 : K0 g3 n3 g11 := by rw [hg11]; exact Kp.new k9 hbl _
      have hP11 := hP.kp0 k11 hw3
      have hr11 := hw6c.kp0 k11 hw3
      have l11 := k11.at0 hw3 l3
      clear hput hg11
      generalize hd : y.put.set kk zz = dd at h11
      have hdl : dd.length = y.put.length := by rw [← hd, List.length_set]
      repeat (first | refine w_seq ?_ | refine w_blk ?_ | refine z_seq ?_ | refine z_blk ?_ | refine w_skip ?_)
      refine w_drw (T6 5 11) [(0, []), (1, []), (2, []), (3, []), (4, []), (5, [4]), (6, [4]), (7, [4, 6]), (8, [4, 6]), (9, [4]), (10, []), (11, []), (12, [])] 13 (by kernel_rfl) rfl rfl (j' := 13) ?_
      refine d_op rfl rfl .no (q := 0) rfl (s_mv rfl ⟨⟨rfl, rfl⟩, ?_⟩)
      refine d_op rfl rfl .no (q := 1) rfl (s_mv rfl ⟨⟨rfl, rfl⟩, ?_⟩)
      refine d_op rfl rfl .no (q := 2) rfl (s_mv rfl ⟨⟨rfl, rfl⟩, ?_⟩)
      refine d_op rfl rfl .no (q := 3) rfl (s_mv rfl ⟨⟨rfl, rfl⟩, ?_⟩)
      refine d_tc rfl rfl rfl .no (q := 4) rfl (s_hiB rfl hP11.at rfl (by omega) fun w4 hw4b => ⟨clash_nil, ?_⟩)
      have hl4 : (y.put.take kk).length ≤ 2 ^ 20 := by rw [List.length_take]; omega
      generalize y.put.take kk = p4 at hw4b hl4
      obtain ⟨a4, c4, rfl⟩ := hw4b.len
      refine d_op rfl rfl .no (q := 5) rfl (s_mv rfl ⟨⟨rfl, rfl⟩, ?_⟩)
      refine d_tc rfl rfl rfl .no (q := 6) rfl (s_appN (b := n3) rfl rfl hP11.at (by omega) (by omega) fun a6' c6' g12 tc wr h12 hg12 => ⟨?_, ?_⟩)
      · exact clash_em rfl
      have k12 : K0 g11 n11 g12 := hg12.kp (Kp.refl _ _ _) (by omega) fun l hl => by cases hl
      refine d_op rfl rfl .no (q := 7) rfl (s_mv rfl ⟨⟨rfl, rfl⟩, ?_⟩)
      refine d_al rfl rfl rfl .no (q := 8) rfl (s_bs el_26 ez_26 rfl rfl rfl ?_)
      have hb1 : (y.put ++ [xb]).length ≤ 2 ^ 21 := by rw [List.length_append, List.length_singleton]; omega
      have hne12 : ∀ l, l ≠ n11 + 6 → vname (.slice a6' y.put.length c6') ≠ some l := fun l hl e => by
        rcases hg12.name with q | q | q
        · rw [q] at e; cases e
        · rw [q] at e; cases e
        · rw [q] at e; exact hl (Option.some.inj e).symm
      refine d_tc rfl rfl rfl .no (q := 9) rfl (s_appB (b := n3) rfl rfl (h12.other (hne12 _ (by omega)) _) (bytes_row (b := n3) (bs := [xb]) (gs_same _ _ _) rfl (by omega)).at (by simp only [List.length_singleton]; omega) (by omega) fun a13 c13 g13 tc wr h13 hg13 => ⟨?_, ?_⟩)
      · exact clash_em rfl
      have k13 : K0 g11 n11 g13 := hg13.kp (Kp.new k12 (by omega) _) (by omega) fun l hl => .inl (by
        by_cases e : l = n11 + 6
        · omega
        · exact absurd hl (hne12 l e))
      have hne13 : ∀ l, l ≠ n11 + 6 → l ≠ n11 + 9 → vname (.slice a13 (y.put ++ [xb]).length c13) ≠ some l := fun l h1 h2 e => by
        rcases hg13.name with q | q | q
        · rw [q] at e; cases e
        · rw [q] at e; exact hne12 l h1 e
        · rw [q] at e; exact h2 (Option.some.inj e).symm
      have l13 := k13.at0 hwg11 l11
      refine d_al rfl rfl rfl .no (q := 10) rfl (s_bs el_56 ez_56 rfl rfl rfl ?_)
      refine d_tc rfl rfl rfl .no (q := 11) rfl (s_app app56 rfl rfl (p := 1) (cs := [.slice a6 r6.length c6]) ⟨rfl, .inr ⟨n5 + 5, 0, 1, _, rfl, Nat.le_refl _, (gs_ne (by omega) _).trans l13, Nat.le_refl _, rfl⟩⟩ (SlC.src (n := 3) (cs := [.slice (some ⟨lp, op, none⟩) y.put.length c9, .slice a4 p4.length c4, .slice a13 (y.put ++ [xb]).length c13]) ⟨rfl, .inr (.inr ⟨_, 0, 3, rfl, Nat.le_refl _, .inr ⟨_, false, gs_same _ _ _, Nat.le_refl _, rfl⟩⟩)⟩) rfl (by omega) fun a14 c14 g14 tc wr h14 hg14 => ⟨clash_nil, ?_⟩)
      have kp : ∀ x o, x ≠ n5 + 5 → g11 x = some o → g14 x = some o := fun x o hx ho => by
        have hxl := hwg11 _ _ ho
        rw [hg14.same x (by omega) (fun e => hx (Option.some.inj e).symm), gs_ne (by omega)]
        exact k13 x o hxl ho id
      have e13 : BytesAt g14 (.slice a13 (y.put ++ [xb]).length c13) (y.put ++ [xb]) := (h13.1.same' fun x hx => by
        by_cases e1 : x = n11 + 6
        · rw [hg14.same x (by omega) (fun e => by have := Option.some.inj e; omega), gs_ne (by omega)]
        · by_cases e2 : x = n11 + 9
          · rw [hg14.same x (by omega) (fun e => by have := Option.some.inj e; omega), gs_ne (by omega)]
          · exact absurd hx (hne13 x e1 e2)).slc
      refine d_op rfl rfl .no (q := 12) rfl (s_as rfl ⟨⟨rfl, rfl⟩, ?_⟩)
      refine d_nil ?_
      repeat (first | refine w_seq ?_ | refine w_blk ?_ | refine z_seq ?_ | refine z_blk ?_ | refine w_skip ?_)
      exact z_met (.slice a14 (1 + 3) c14, [r6, dd, p4, y.put ++ [xb]]) ⟨rfl, trivial⟩ ⟨⟨_, h14.slc, Rows.append (xs := [r6]) (Rows.one rfl ⟨_, _, rfl, hr11.off l11 kp⟩) (Rows.append (xs := [dd]) (ys := [p4, y.put ++ [xb]]) (cs := [_]) (Rows.one rfl ⟨some ⟨lp, op, none⟩, c9, by rw [hdl], by rw [hdl]; exact h11.at.off l11 kp⟩) (Rows.append (xs := [p4]) (ys := [y.put ++ [xb]]) (cs := [_]) (Rows.one rfl ⟨_, _, rfl, hw4b.off l11 kp⟩) (Rows.one rfl ⟨_, _, rfl, e13⟩)))⟩, (fun q hq => by
        simp only [List.mem_cons, List.not_mem_nil, or_false] at hq
        rcases hq with rfl | rfl | rfl | rfl <;> omega), Nat.le_refl _⟩
    · repeat (first | refine w_seq ?_ | refine w_blk ?_ | refine z_seq ?_ | refine z_blk ?_ | refine w_skip ?_)
      refine w_no rfl (decide_eq_false (by omega)) ?_
      repeat (first | refine w_seq ?_ | refine w_blk ?_ | refine z_seq ?_ | refine z_blk ?_ | refine w_skip ?_)
      exact z_met (.slice (some ⟨n5 + 5, 0, none⟩) 1 1, [r6]) ⟨rfl, trivial⟩ ⟨⟨_, ⟨rfl, .inr (.inr ⟨n5 + 5, 0, 1, rfl, Nat.le_refl _, .inr ⟨_, false, l3, Nat.le_refl _, rfl⟩⟩)⟩, Rows.one rfl ⟨_, _, rfl, hw6c⟩⟩, (fun q hq => by rw [List.mem_singleton.1 hq]; omega), by simp⟩
  rintro ⟨v10, xs⟩ f g8 n8 hw8 ⟨hR, hxl, hx4⟩
  simp only at hR hxl hx4
  obtain ⟨a10, c10, rfl⟩ := hR.len
  repeat (first | refine w_seq ?_ | refine w_blk ?_ | refine z_seq ?_ | refine z_blk ?_ | refine w_skip ?_)
  refine w_reg 3 rfl rfl (j' := 3) ?_
  refine n_op .no (q := 0) rfl (s_mv rfl ?_)
  refine n_op .no (q := 1) rfl (s_len rfl rfl un_56 rfl ?_)
  refine n_op .no (q := 2) rfl (s_mv rfl ?_)
  refine n_nil ?_
  repeat (first | refine w_seq ?_ | refine w_blk ?_ | refine z_seq ?_ | refine z_blk ?_ | refine w_skip ?_)
  refine w_loop (β := Nat) (fun i => [(67, .slice a10 xs.length c10), (68, .int .i64 xs.length), (69, .int .i64 i)])
    (fun i g' n' => i ≤ xs.length ∧ n8 ≤ n' ∧ K0 g8 n8 g') (fun i => xs.length - i) 0 ⟨rfl, rfl, rfl, trivial⟩ ⟨by omega, by omega, (by repeat (first | exact Kp.refl _ _ _ | refine Kp.new ?_ (by omega) _))⟩ ?_
  rintro i f g9 n9 hw9 ⟨hi, hn9, k9⟩
  repeat (first | refine w_seq ?_ | refine w_blk ?_ | refine z_seq ?_ | refine z_blk ?_ | refine w_skip ?_)
  refine w_reg 1 rfl rfl (j' := 1) ?_
  refine n_op .no (q := 0) rfl (s_bin rfl rfl rfl ?_)
  refine n_nil ?_
  repeat (first | refine w_seq ?_ | refine w_blk ?_ | refine z_seq ?_ | refine z_blk ?_ | refine w_skip ?_)
  refine w_if rfl (fun hb => ?_) (fun hb => ?_)
  · have hi : i < xs.length := by simpa using hb
    obtain ⟨lx, ox, cx, clx, rox, ax, px, q1, q2, q3, q4⟩ := (hR.kp0 k9 hw8).at hi
    cases q1
    have hql := hxl _ (List.getElem_mem hi)
    have hlx := hw9 _ _ q2
    generalize xs[i] = bs at *
    repeat (first | refine w_seq ?_ | refine w_blk ?_ | refine z_seq ?_ | refine z_blk ?_ | refine w_skip ?_)
    refine w_reg 3 rfl rfl (j' := 4) ?_
    refine n_op .no (q := 1) rfl (s_ia rfl rfl el_56 (by first | assumption | omega) ?_)
    refine n_op .no (q := 2) rfl (s_ld rfl (by repeat (first | exact gs_same _ _ _ | exact q2 | exact q3 | refine (gs_ne (by omega) _).trans ?_)) ag_26 (by first | exact rfl | exact q2 | exact q3) ?_)
    refine n_op .no (q := 3) rfl (s_as rfl ?_)
    refine n_nil ?_
    repeat (first | refine w_seq ?_ | refine w_blk ?_ | refine z_seq ?_ | refine z_blk ?_ | refine w_skip ?_)
    refine w_reg 8 rfl rfl (j' := 12) ?_
    refine n_op .no (q := 4) rfl (s_mv rfl ?_)
    refine n_call .no rfl rfl rfl ?_
    refine C.useG (get_c q4 hql) fun v g12 n12 hw12 hn12 hx12 hq => ?_
    obtain ⟨c, gv2, wv2, ok, rfl, hcG, hcW, hyes, hno, ⟨hl3, hl4⟩, k12⟩ := hq
    obtain ⟨ag2, cg2, rfl⟩ := hcG.rd.len
    obtain ⟨aw2, cw2, rfl⟩ := hcW.rd.len
    have k89 : K0 g8 n8 g12 := k9.trans0 k12 (by omega)
    have q12 := q4.kp0 (k12.dn (m := n9) (by omega)) hw9
    refine n_op .no (q := 6) rfl (s_mv rfl ?_)
    refine n_op .no (q := 7) rfl (s_ext rfl rfl ?_)
    refine n_op .no (q := 8) rfl (s_ext rfl rfl ?_)
    refine n_op .no (q := 9) rfl (s_al zl_55 ?_)
    refine n_op .no (q := 10) rfl (s_stw rfl rfl sz_55 rfl (by repeat (first | exact gs_same _ _ _ | refine (gs_ne (by omega) _).trans ?_)) (by exact rfl) rfl ?_)
    refine n_op .no (q := 11) rfl (s_as rfl ?_)
    refine n_nil ?_
    repeat (first | refine w_seq ?_ | refine w_blk ?_ | refine z_seq ?_ | refine z_blk ?_ | refine w_skip ?_)
    refine w_gen fun g15 n15 hg15 hn15 hwg15 => ?_
    have fr : g12 (n9 + 9) = none := hx12 _ (by omega) (hw9.none (by omega))
    have k15 : K0 g12 n12 g15 := by rw [hg15]; exact Kp.add (Kp.add (Kp.refl _ _ _) fr _) fr _
    have c15 : g15 (n9 + 9) = some (.cells (calC c (.slice ag2 c.gs.length cg2) (.slice aw2 c.ws.length cw2)) 0 false) := by rw [hg15]; exact gs_same _ _ _
    clear hg15
    have k89' : K0 g8 n8 g15 := k89.trans0 k15 (by omega)
    have q15 := q12.kp0 k15 hw12
    have hA15 : CalAt g15 c (.slice ag2 c.gs.length cg2) (.slice aw2 c.ws.length cw2) := ⟨hcG.rd.kp0 k15 hw12, hcW.rd.kp0 k15 hw12⟩
    cases ok
    · obtain rfl := hno rfl
      repeat (first | refine w_seq ?_ | refine w_blk ?_ | refine z_seq ?_ | refine z_blk ?_ | refine w_skip ?_)
      refine w_reg 18 rfl rfl (j' := 18) ?_
      refine n_op .no (q := 0) rfl (s_mv rfl ?_)
      refine n_op .no (q := 1) rfl (s_mv rfl ?_)
      refine n_sk rfl rfl (rfl) ?_
      refine n_sk rfl rfl (rfl) ?_
      refine n_sk rfl rfl (rfl) ?_
      refine n_sk rfl rfl (rfl) ?_
      refine n_sk rfl rfl (rfl) ?_
      refine n_op .no (q := 7) rfl (s_pf rfl (rfl) rfl ?_)
      refine n_op .no (q := 8) rfl (s_mv rfl ?_)
      refine n_op (.yes rfl rfl (rfl)) (q := 9) rfl (s_mv rfl ?_)
      refine n_op (.yes rfl rfl (rfl)) (q := 10) rfl (s_not rfl ?_)
      refine n_op (.yes rfl rfl (rfl)) (q := 11) rfl (s_mv rfl ?_)
      refine n_op (.yes rfl rfl (rfl)) (q := 12) rfl (s_ldf rfl (by repeat (first | exact gs_same _ _ _ | exact c15 | refine (gs_ne (by omega) _).trans ?_)) ag_55 sz_55 (by exact rfl) ?_)
      refine n_op (.yes rfl rfl (rfl)) (q := 13) rfl (s_bld pl_55 zl_55 rfl rfl rfl ?_)
      refine n_call (.yes rfl rfl (rfl)) rfl rfl rfl ?_
      refine C.use (same_c hA15 (CalAt.zero _) ⟨by decide, by decide⟩) fun v g13 n13 hw13 hn13 hq => ?_
      obtain ⟨⟨q, rfl, hq⟩, k13⟩ := hq
      obtain rfl : q = true := hq.2 rfl
      refine n_op (.yes rfl rfl (rfl)) (q := 15) rfl (s_not rfl ?_)
      refine n_op (.yes rfl rfl (rfl)) (q := 16) rfl (s_pt rfl (rfl) rfl ?_)
      refine n_op .no (q := 17) rfl (s_pf rfl (rfl) rfl ?_)
      refine n_nil ?_
      repeat (first | refine w_seq ?_ | refine w_blk ?_ | refine z_seq ?_ | refine z_blk ?_ | refine w_skip ?_)
      refine w_no rfl (rfl) ?_
      repeat (first | refine w_seq ?_ | refine w_blk ?_ | refine z_seq ?_ | refine z_blk ?_ | refine w_skip ?_)
      repeat (first | refine w_seq ?_ | refine w_blk ?_ | refine z_seq ?_ | refine z_blk ?_ | refine w_skip ?_)
      refine w_reg 2 rfl rfl (j' := 2) ?_
      first | refine n_op .no (q := 0) rfl (s_bin rfl rfl (bi_inc (by omega)) ?_) | refine n_op .no (q := 0) rfl (s_bin rfl rfl (bi_add rfl (by omega) (by omega)) ?_)
      refine n_op .no (q := 1) rfl (s_mv rfl ?_)
      refine n_nil ?_
      exact z_round (i + 1) ⟨rfl, rfl, rfl, trivial⟩ ⟨hi, by omega, k89'.trans0 k13 (by omega)⟩ (by omega)
    · obtain ⟨he, _⟩ := hyes rfl
      repeat (first | refine w_seq ?_ | refine w_blk ?_ | refine z_seq ?_ | refine z_blk ?_ | refine w_skip ?_)
      refine w_reg 18 rfl rfl (j' := 18) ?_
      refine n_op .no (q := 0) rfl (s_mv rfl ?_)
      refine n_op .no (q := 1) rfl (s_mv rfl ?_)
      refine n_op (.yes rfl rfl (rfl)) (q := 2) rfl (s_ldf rfl (by repeat (first | exact gs_same _ _ _ | exact c15 | refine (gs_ne (by omega) _).trans ?_)) ag_55 sz_55 (by exact rfl) ?_)
      refine n_call (.yes rfl rfl (rfl)) rfl rfl rfl ?_
      refine C.use (put_c hA15 ⟨by omega, by omega⟩) fun v g13 n13 hw13 hn13 hq => ?_
      obtain ⟨⟨ap2, cp2, rfl⟩, hB2, k13⟩ := hq
      refine n_op (.yes rfl rfl (rfl)) (q := 4) rfl (s_mv rfl ?_)
      refine n_call (.yes rfl rfl (rfl)) rfl rfl rfl ?_
      refine C.use (bytes_c hB2.at (q15.kp0 (k13.dn (by omega)) hwg15)) fun v g14 n14 hw14 hn14 hq => ?_
      obtain ⟨rfl, k14⟩ := hq
      rw [decide_eq_true he]
      refine n_op (.yes rfl rfl (rfl)) (q := 6) rfl (s_not rfl ?_)
      refine n_op .no (q := 7) rfl (s_pt rfl (rfl) rfl ?_)
      refine n_op .no (q := 8) rfl (s_mv rfl ?_)
      refine n_op (.yes rfl rfl (rfl)) (q := 9) rfl (s_mv rfl ?_)
      refine n_op (.yes rfl rfl (rfl)) (q := 10) rfl (s_not rfl ?_)
      refine n_op (.yes rfl rfl (rfl)) (q := 11) rfl (s_mv rfl ?_)
      refine n_sk rfl rfl (rfl) ?_
      refine n_sk rfl rfl (rfl) ?_
      refine n_sk rfl rfl (rfl) ?_
      refine n_sk rfl rfl (rfl) ?_
      refine n_op (.yes rfl rfl (rfl)) (q := 16) rfl (s_pf rfl (rfl) rfl ?_)
      refine n_op .no (q := 17) rfl (s_pf rfl (rfl) rfl ?_)
      refine n_nil ?_
      repeat (first | refine w_seq ?_ | refine w_blk ?_ | refine z_seq ?_ | refine z_blk ?_ | refine w_skip ?_)
      refine w_no rfl (rfl) ?_
      repeat (first | refine w_seq ?_ | refine w_blk ?_ | refine z_seq ?_ | refine z_blk ?_ | refine w_skip ?_)
      repeat (first | refine w_seq ?_ | refine w_blk ?_ | refine z_seq ?_ | refine z_blk ?_ | refine w_skip ?_)
      refine w_reg 2 rfl rfl (j' := 2) ?_
      first | refine n_op .no (q := 0) rfl (s_bin rfl rfl (bi_inc (by omega)) ?_) | refine n_op .no (q := 0) rfl (s_bin rfl rfl (bi_add rfl (by omega) (by omega)) ?_)
      refine n_op .no (q := 1) rfl (s_mv rfl ?_)
      refine n_nil ?_
      exact z_round (i + 1) ⟨rfl, rfl, rfl, trivial⟩ ⟨hi, by omega, (k89'.trans0 k13 (by omega)).trans0 k14 (by omega)⟩ (by omega)
  · refine w_exit rfl ?_
    repeat (first | refine w_seq ?_ | refine w_blk ?_ | refine z_seq ?_ | refine z_blk ?_ | refine w_skip ?_)
    refine w_reg 1 rfl rfl (j' := 2) ?_
    refine n_op .no (q := 1) rfl (s_as rfl ?_)
    refine n_nil ?_
    repeat (first | refine w_ret ?_ | refine w_seq ?_ | refine w_blk ?_ | refine z_seq ?_ | refine z_blk ?_ | refine w_skip ?_)
    refine z_r1 rfl rfl ?_
    rfl

end Go.Proofs.YtehmailaabjdjaaGreat
