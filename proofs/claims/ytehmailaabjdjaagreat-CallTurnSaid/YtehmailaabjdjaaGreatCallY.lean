/-
  What package wire writes, by contract. No condition. / call.Put, by contract. No condition. / What package wire reads, by contract. No condition. / call.Get, by contract. No condition. / sameCall, by contract. No condition.
-/
import Derived.Test.YtehmailaabjdjaaGreatCallX
section
open Go.Proofs
namespace Go.Proofs.YtehmailaabjdjaaGreat
set_option linter.unusedSimpArgs false
set_option linter.unusedVariables false
set_option maxRecDepth 100000

noncomputable def zW : List Value := (zeroL E6.P 151).getD []
theorem zl_151 : zeroL E6.P 151 = some zW := id (by kernel_rfl)
theorem zW_len : zW.length = 298 := id (by kernel_rfl)
theorem zW_b : zW[297]? = some (.slice none 0 0) := id (by kernel_rfl)

/-- A writer, and what it wrote. -/
def WrAt (b : Nat) (g : Gm) (w : Nat) (bs : Bs) : Prop := ∃ c v, g w = some (.cells c 0 false) ∧ c.length = 298 ∧ c[297]? = some v ∧ BytesNew b g v bs ∧ b ≤ w
/-- What a writer may change. -/
def FW (b w : Nat) (x : Nat) (o : AObj) : Prop := b ≤ x ∧ (x = w ∨ ∃ cl, o = .cells cl 1 false)

theorem BytesNew.ne {b : Nat} {g : Gm} {v : Value} {bs : List UInt8} {x : Nat} {c : List Value} {ro : Bool} (h : BytesNew b g v bs) (hx : g x = some (.cells c 0 ro)) : vname v ≠ some x := by
  obtain ⟨⟨_, ⟨rfl, _⟩ | ⟨l', o, c, cl, rfl, _, h4, _⟩⟩, _⟩ := h
  · intro h; cases h
  · intro h
    simp only [vname, Option.some.injEq] at h
    subst h
    rw [h4] at hx; cases hx
theorem BytesNew.isB {b : Nat} {g : Gm} {v : Value} {bs : List UInt8} {x : Nat} (h : BytesNew b g v bs) (hx : vname v = some x) : ∃ cl, g x = some (.cells cl 1 false) := by
  obtain ⟨⟨_, ⟨rfl, _⟩ | ⟨l', o, c, cl, rfl, _, h4, _⟩⟩, _⟩ := h
  · cases hx
  · simp only [vname, Option.some.injEq] at hx
    subst hx
    exact ⟨cl, h4⟩

theorem byte_eq (m k : Nat) : ([.int .u8 (IntKind.u8.wrap ((m : Int).fdiv (2 ^ (8 * k))))] : List Value) = u8c [UInt8.ofNat (m / 256 ^ k)] := by
  have h1 : ((m : Int).fdiv (2 ^ (8 * k))) = ((m / 256 ^ k : Nat) : Int) := by
    rw [Int.fdiv_eq_ediv_of_nonneg _ (by exact Int.le_of_lt (Int.pow_pos (by decide))), Nat.pow_mul' 2 8 k |> fun _ => show (2 : Int) ^ (8 * k) = ((256 ^ k : Nat) : Int) by rw [Int.pow_mul]; simp]
    exact (Int.natCast_ediv _ _).symm
  have h2 : IntKind.u8.wrap ((m / 256 ^ k : Nat) : Int) = ((UInt8.ofNat (m / 256 ^ k)).toNat : Int) := by
    rw [UInt8.toNat_ofNat']
    simp only [IntKind.wrap, IntKind.bits, IntKind.signed]
    simp
  rw [h1, h2]; rfl

theorem Kp.tr {F : Nat → AObj → Prop} {g g' g'' : Gm} {n n' : Nat} (h : Kp F g n g') (k : Kp F g' n' g'') (hn : n ≤ n') : Kp F g n g'' := h.trans k hn fun _ _ _ h _ => h
theorem Kp.fw {b w : Nat} {g g' : Gm} {n q : Nat} (h : Kp (FW b w) g n g') (hb : q ≤ b) (hq : q ≤ n) : K0 g q g' := fun x o hx ho _ => h x o (by omega) ho fun hf => by have := hf.1; omega

theorem num_c {g : Gm} {n b w m s : Nat} {z zs : Int} {bs : Bs} (h : WrAt b g w bs) (hb : b ≤ n) (hz : z = (m : Int)) (hzs : zs = (s : Int)) (hs : s ≤ 8) (hl : bs.length ≤ 2 ^ 40) :
    C 70 #[.pointer (some ⟨w, 0, none⟩), .int .i64 z, .int .i64 zs] g n fun u g' n' => WrAt b g' w (bs ++ be s m) ∧ Kp (FW b w) g n g' := by
  subst hz hzs
  refine c_in3 Tryz.func70 rfl Tryz.ntmps70 rfl fun hw => ?_
  repeat (first | refine w_seq ?_ | refine w_blk ?_ | refine z_seq ?_ | refine z_blk ?_ | refine w_skip ?_)
  refine w_reg 2 rfl rfl (j' := 2) ?_
  refine n_op .no (q := 0) rfl (s_mv rfl ?_)
  refine n_op .no (q := 1) rfl (s_mv rfl ?_)
  refine n_nil ?_
  repeat (first | refine w_seq ?_ | refine w_blk ?_ | refine z_seq ?_ | refine z_blk ?_ | refine w_skip ?_)
  refine w_loop (β := Nat) (fun i => [(0, .pointer (some ⟨w, 0, none⟩)), (1, .int .i64 (m : Int)), (2, .int .i64 (s : Int)), (7, .int .i64 (s : Int)), (8, .int .i64 (i : Int))])
    (fun i g' n' => i ≤ s ∧ n ≤ n' ∧ Kp (FW b w) g n g' ∧ ∃ pre, WrAt b g' w (bs ++ pre) ∧ pre ++ be (s - i) m = be s m ∧ pre.length = i) (fun i => s - i) 0 ⟨rfl, rfl, rfl, rfl, rfl, trivial⟩ ⟨by omega, by omega, Kp.refl _ _ _, [], by simpa using h, by simp, rfl⟩ ?_
  rintro i f g1 n1 hw1 ⟨hi, hn1, k1, pre, hA, hpre, hlen⟩
  repeat (first | refine w_seq ?_ | refine w_blk ?_ | refine z_seq ?_ | refine z_blk ?_ | refine w_skip ?_)
  refine w_reg 1 rfl rfl (j' := 1) ?_
  refine n_op .no (q := 0) rfl (s_bin rfl rfl rfl ?_)
  refine n_nil ?_
  repeat (first | refine w_seq ?_ | refine w_blk ?_ | refine z_seq ?_ | refine z_blk ?_ | refine w_skip ?_)
  refine w_if rfl (fun hc => ?_) (fun hc => ?_)
  · have hc : i < s := by simpa using hc
    obtain ⟨c, v, h1, h2, h3, h4, h5⟩ := hA
    obtain ⟨av, cv, rfl⟩ := h4.len
    have hwn := hw1 _ _ h1
    repeat (first | refine w_seq ?_ | refine w_blk ?_ | refine z_seq ?_ | refine z_blk ?_ | refine w_skip ?_)
    refine w_reg 2 rfl rfl (j' := 3) ?_
    refine n_op .no (q := 1) rfl (s_mv rfl ?_)
    refine n_op .no (q := 2) rfl (s_as rfl ?_)
    refine n_nil ?_
    repeat (first | refine w_seq ?_ | refine w_blk ?_ | refine z_seq ?_ | refine z_blk ?_ | refine w_skip ?_)
    refine w_drw (T6 70 3) [(0, []), (1, []), (2, []), (3, []), (4, []), (5, [4]), (6, [4]), (7, [4]), (8, [4]), (9, [4]), (10, [4]), (11, [4]), (12, [4]), (13, [4]), (14, []), (15, []), (16, []), (17, [])] 18 (by kernel_rfl) rfl rfl (j' := 21) ?_
    refine d_op rfl rfl .no (q := 3) rfl (s_mv rfl ⟨⟨rfl, rfl⟩, ?_⟩)
    refine d_op rfl rfl .no (q := 4) rfl (s_mv rfl ⟨⟨rfl, rfl⟩, ?_⟩)
    refine d_op rfl rfl .no (q := 5) rfl (s_nil rfl ⟨⟨rfl, rfl⟩, ?_⟩)
    first | refine d_op rfl rfl .no (q := 6) rfl (s_fa0 rfl fo_151_1 ⟨⟨rfl, rfl⟩, ?_⟩) | refine d_op rfl rfl .no (q := 6) rfl (s_fa rfl fo_151_1 ⟨⟨rfl, rfl⟩, ?_⟩)
    refine d_tc rfl rfl rfl .no (q := 7) rfl (s_ld rfl (by repeat (first | exact gs_same _ _ _ | exact h1 | exact h3 | refine (gs_ne (by omega) _).trans ?_)) ag_26 (by first | exact rfl | exact h1 | exact h3) ⟨clash_nil, ?_⟩)
    refine d_op rfl rfl .no (q := 8) rfl (s_mv rfl ⟨⟨rfl, rfl⟩, ?_⟩)
    refine d_op rfl rfl .no (q := 9) rfl (s_mv rfl ⟨⟨rfl, rfl⟩, ?_⟩)
    first | refine d_op rfl rfl .no (q := 10) rfl (s_bin rfl rfl (bi_dec (by omega) (by omega)) ⟨⟨rfl, rfl⟩, ?_⟩) | refine d_op rfl rfl .no (q := 10) rfl (s_bin rfl rfl (bi_sub rfl (by omega) (by omega)) ⟨⟨rfl, rfl⟩, ?_⟩)
    refine d_op rfl rfl .no (q := 11) rfl (s_mv rfl ⟨⟨rfl, rfl⟩, ?_⟩)
    refine d_op rfl rfl .no (q := 12) rfl (s_bin rfl rfl (r := .int .i64 (((s - 1 - i : Nat) : Int))) (by first | exact bi_add (by omega) (by omega) (by omega) | exact bi_sub (by omega) (by omega) (by omega) | exact bi_add rfl (by omega) (by omega) | exact bi_sub rfl (by omega) (by omega)) ⟨⟨rfl, rfl⟩, ?_⟩)
    refine d_op rfl rfl .no (q := 13) rfl (s_bin rfl rfl (r := .int .i64 (((8 * (s - 1 - i) : Nat) : Int))) (bi_mul (by omega) (by omega) (by omega)) ⟨⟨rfl, rfl⟩, ?_⟩)
    refine d_op rfl rfl .no (q := 14) rfl (s_shr rfl rfl rfl (by omega) ⟨⟨rfl, rfl⟩, ?_⟩)
    refine d_tc rfl rfl rfl .no (q := 15) rfl (s_i2b un_2 un_5 rfl ⟨clash_rd rfl, ?_⟩)
    refine d_al rfl rfl rfl .no (q := 16) rfl (s_bs el_26 ez_26 rfl rfl rfl ?_)
    refine d_tc rfl rfl rfl .no (q := 17) rfl (s_appB (b := b) rfl rfl (h4.kp0 (n := n1) (by repeat (first | exact Kp.refl _ _ _ | refine Kp.new ?_ (by omega) _)) hw1) (bytes_row (b := b) (bs := [UInt8.ofNat (m / 256 ^ (s - 1 - i))]) (gs_same _ _ _) (byte_eq m (s - 1 - i)) (by omega)).at (by simp only [List.length_append, List.length_singleton]; omega) (by omega) fun a c' g2 tc wr hr hg => ⟨clash_nil, ?_⟩)
    have hne : vname (.slice av (bs ++ pre).length cv) ≠ some w := h4.ne h1
    have h6 : g2 w = some (.cells c 0 false) := (hg.same w (by omega) hne).trans ((gs_ne (by omega) _).trans h1)
    have kA : Kp (FW b w) g1 n1 g2 := hg.kp (n := n1) (by repeat (first | exact Kp.refl _ _ _ | refine Kp.new ?_ (by omega) _)) (by omega) fun l hl => .inr fun o ho => by
      obtain ⟨cl, hcl⟩ := h4.isB hl
      rw [hcl] at ho; cases ho
      exact ⟨h4.2 l hl, .inr ⟨_, rfl⟩⟩
    refine d_op rfl rfl .no (q := 18) rfl (s_nil rfl ⟨⟨rfl, rfl⟩, ?_⟩)
    first | refine d_op rfl rfl .no (q := 19) rfl (s_fa0 rfl fo_151_1 ⟨⟨rfl, rfl⟩, ?_⟩) | refine d_op rfl rfl .no (q := 19) rfl (s_fa rfl fo_151_1 ⟨⟨rfl, rfl⟩, ?_⟩)
    refine d_tc rfl rfl rfl .no (q := 20) rfl (s_stg rfl rfl sz_26 (by repeat (first | exact gs_same _ _ _ | exact h6 | refine (gs_ne (by omega) _).trans ?_)) rfl rfl (by first | assumption | omega) ⟨clash_nil, ?_⟩)
    refine d_nil ?_
    repeat (first | refine w_seq ?_ | refine w_blk ?_ | refine z_seq ?_ | refine z_blk ?_ | refine w_skip ?_)
    repeat (first | refine w_seq ?_ | refine w_blk ?_ | refine z_seq ?_ | refine z_blk ?_ | refine w_skip ?_)
    refine w_reg 2 rfl rfl (j' := 23) ?_
    first | refine n_op .no (q := 21) rfl (s_bin rfl rfl (bi_inc (by omega)) ?_) | refine n_op .no (q := 21) rfl (s_bin rfl rfl (bi_add rfl (by omega) (by omega)) ?_)
    refine n_op .no (q := 22) rfl (s_mv rfl ?_)
    refine n_nil ?_
    have e1 : bs ++ pre ++ [UInt8.ofNat (m / 256 ^ (s - 1 - i))] = bs ++ (pre ++ [UInt8.ofNat (m / 256 ^ (s - 1 - i))]) := List.append_assoc _ _ _
    have hr2 := BytesNew.other hr (hr.ne h6)
    refine z_round (i + 1) ⟨rfl, rfl, rfl, rfl, rfl, trivial⟩ ⟨hc, by omega, k1.tr (Kp.set kA (fun o ho => ⟨h5, .inl rfl⟩) _) hn1, pre ++ [UInt8.ofNat (m / 256 ^ (s - 1 - i))], ⟨_, _, gs_same _ _ _, ?_, ?_, by rw [← e1]; exact hr2 _, h5⟩, ?_, by simp [hlen]⟩ (by omega)
    · rw [splice_length (by simp; omega)]; exact h2
    · rw [splice_get (by simp; omega), if_pos (by simp)]; simp
    · rw [← hpre, List.append_assoc]
      congr 1
      obtain ⟨q, hq⟩ : ∃ q, s - i = q + 1 := ⟨s - i - 1, by omega⟩
      rw [hq, show s - (i + 1) = q by omega, show s - 1 - i = q by omega]
      rfl
  · refine w_exit rfl ?_
    have : i = s := by simp at hc; omega
    subst this
    repeat (first | refine w_ret ?_ | refine w_seq ?_ | refine w_blk ?_ | refine z_seq ?_ | refine z_blk ?_ | refine w_skip ?_)
    refine z_r0 rfl ?_
    have : be (i - i) m = [] := by rw [Nat.sub_self]; rfl
    rw [this, List.append_nil] at hpre
    rw [hpre] at hA
    exact ⟨hA, k1⟩

theorem app26s : AppT E6.P 26 9 1 1 := ⟨5, _, un_26, sz_5, by_5, zp_5, rfl, by decide, by decide, by rw [un_9]; rfl⟩

theorem text_c {g : Gm} {n b w : Nat} {bs t : Bs} (h : WrAt b g w bs) (hb : b ≤ n) (ht : t.length ≤ 2 ^ 40) (hl : bs.length ≤ 2 ^ 40) :
    C 71 #[.pointer (some ⟨w, 0, none⟩), .string (str t)] g n fun u g' n' => WrAt b g' w (bs ++ txt t) ∧ Kp (FW b w) g n g' := by
  have hk := str_size t
  refine c_in2 Tryz.func71 rfl Tryz.ntmps71 rfl fun hw => ?_
  repeat (first | refine w_seq ?_ | refine w_blk ?_ | refine z_seq ?_ | refine z_blk ?_ | refine w_skip ?_)
  refine w_reg 4 rfl rfl (j' := 4) ?_
  refine n_op .no (q := 0) rfl (s_mv rfl ?_)
  refine n_op .no (q := 1) rfl (s_mv rfl ?_)
  refine n_op .no (q := 2) rfl (s_len rfl rfl un_9 rfl ?_)
  refine n_call .no rfl rfl rfl ?_
  refine C.use (num_c (m := t.length) (s := 2) h (by omega) (by rw [hk]) rfl (by decide) hl) fun v g1 n1 hw1 hn1 hq => ?_
  obtain ⟨hA, k1⟩ := hq
  refine n_nil ?_
  obtain ⟨c, v, h1, h2, h3, h4, h5⟩ := hA
  obtain ⟨av, cv, rfl⟩ := h4.len
  have hwn := hw1 _ _ h1
  repeat (first | refine w_seq ?_ | refine w_blk ?_ | refine z_seq ?_ | refine z_blk ?_ | refine w_skip ?_)
  refine w_reg 10 rfl rfl (j' := 10) ?_
  refine n_op .no (q := 0) rfl (s_mv rfl ?_)
  refine n_op .no (q := 1) rfl (s_mv rfl ?_)
  refine n_op .no (q := 2) rfl (s_nil rfl ?_)
  first | refine n_op .no (q := 3) rfl (s_fa0 rfl fo_151_1 ?_) | refine n_op .no (q := 3) rfl (s_fa rfl fo_151_1 ?_)
  refine n_op .no (q := 4) rfl (s_ld rfl (by repeat (first | exact gs_same _ _ _ | exact h1 | exact h3 | refine (gs_ne (by omega) _).trans ?_)) ag_26 (by first | exact rfl | exact h1 | exact h3) ?_)
  refine n_op .no (q := 5) rfl (s_mv rfl ?_)
  have hlen : (bs ++ be 2 t.length).length = bs.length + 2 := by rw [List.length_append, be_length]
  refine n_op .no (q := 6) rfl (s_app app26s rfl rfl h4.1 (Src.string _ (str t)) (by rw [str_list]; exact u8c_one _) (by rw [hk]; omega) fun a c' g2 tc wr hr hg => ?_)
  have e : (bs ++ be 2 t.length).length + (str t).size = (bs ++ txt t).length := by rw [hk, txt, List.length_append, List.length_append, List.length_append]; omega
  rw [e] at hr hg
  rw [str_list, ← u8c_append, List.append_assoc] at hr
  rw [e]
  have hne : vname (.slice av (bs ++ be 2 t.length).length cv) ≠ some w := h4.ne h1
  have h6 : g2 w = some (.cells c 0 false) := (hg.same w (by omega) hne).trans h1
  have hr1 : BytesNew b g2 (.slice a (bs ++ txt t).length c') (bs ++ txt t) := ⟨hr, fun l hl => by
    rcases hg.name with q | q | q
    · rw [q] at hl; cases hl
    · rw [q] at hl; exact h4.2 l hl
    · rw [q] at hl; cases hl; omega⟩
  have kA : Kp (FW b w) g1 n1 g2 := hg.kp (n := n1) (by repeat (first | exact Kp.refl _ _ _ | refine Kp.new ?_ (by omega) _)) (by omega) fun l hl => .inr fun o ho => by
    obtain ⟨cl, hcl⟩ := h4.isB hl
    rw [hcl] at ho; cases ho
    exact ⟨h4.2 l hl, .inr ⟨_, rfl⟩⟩
  refine n_op .no (q := 7) rfl (s_nil rfl ?_)
  first | refine n_op .no (q := 8) rfl (s_fa0 rfl fo_151_1 ?_) | refine n_op .no (q := 8) rfl (s_fa rfl fo_151_1 ?_)
  refine n_op .no (q := 9) rfl (s_stg rfl rfl sz_26 (by repeat (first | exact gs_same _ _ _ | exact h6 | refine (gs_ne (by omega) _).trans ?_)) rfl rfl (by first | assumption | omega) ?_)
  refine n_nil ?_
  refine z_r0 rfl ?_
  refine ⟨⟨_, _, gs_same _ _ _, ?_, ?_, BytesNew.other hr1 (hr1.ne h6) _, h5⟩, (k1.dn (by omega)).tr (n' := n1) (Kp.set kA (fun o ho => ⟨h5, .inl rfl⟩) _) (by omega)⟩
  · rw [splice_length (by simp; omega)]; exact h2
  · rw [splice_get (by simp; omega), if_pos (by simp)]; simp

theorem bit_c {g : Gm} {n b w : Nat} {bs : Bs} {t : Bool} (h : WrAt b g w bs) (hb : b ≤ n) (hl : bs.length ≤ 2 ^ 40) :
    C 72 #[.pointer (some ⟨w, 0, none⟩), .bool t] g n fun u g' n' => WrAt b g' w (bs ++ be 1 (bit t)) ∧ Kp (FW b w) g n g' := by
  refine c_in2 Tryz.func72 rfl Tryz.ntmps72 rfl fun hw => ?_
  repeat (first | refine w_seq ?_ | refine w_blk ?_ | refine z_seq ?_ | refine z_blk ?_ | refine w_skip ?_)
  refine w_reg 1 rfl rfl (j' := 1) ?_
  refine n_op .no (q := 0) rfl (s_as rfl ?_)
  refine n_nil ?_
  repeat (first | refine w_seq ?_ | refine w_blk ?_ | refine z_seq ?_ | refine z_blk ?_ | refine w_skip ?_)
  refine w_reg 1 rfl rfl (j' := 2) ?_
  refine n_op .no (q := 1) rfl (s_mv rfl ?_)
  refine n_nil ?_
  cases t
  · repeat (first | refine w_seq ?_ | refine w_blk ?_ | refine z_seq ?_ | refine z_blk ?_ | refine w_skip ?_)
    refine w_no rfl (rfl) ?_
    repeat (first | refine w_seq ?_ | refine w_blk ?_ | refine z_seq ?_ | refine z_blk ?_ | refine w_skip ?_)
    refine w_reg 3 rfl rfl (j' := 5) ?_
    refine n_op .no (q := 2) rfl (s_mv rfl ?_)
    refine n_op .no (q := 3) rfl (s_mv rfl ?_)
    refine n_call .no rfl rfl rfl ?_
    refine C.use (num_c (m := 0) (s := 1) h (by omega) rfl rfl (by decide) hl) fun v g1 n1 hw1 hn1 hq => ?_
    obtain ⟨hA, k1⟩ := hq
    refine n_nil ?_
    refine z_r0 rfl ⟨hA, k1.dn (by omega)⟩
  · repeat (first | refine w_seq ?_ | refine w_blk ?_ | refine z_seq ?_ | refine z_blk ?_ | refine w_skip ?_)
    refine w_yes rfl (rfl) ?_
    repeat (first | refine w_seq ?_ | refine w_blk ?_ | refine z_seq ?_ | refine z_blk ?_ | refine w_skip ?_)
    refine w_reg 1 rfl rfl (j' := 3) ?_
    refine n_op .no (q := 2) rfl (s_as rfl ?_)
    refine n_nil ?_
    repeat (first | refine w_seq ?_ | refine w_blk ?_ | refine z_seq ?_ | refine z_blk ?_ | refine w_skip ?_)
    refine w_reg 3 rfl rfl (j' := 6) ?_
    refine n_op .no (q := 3) rfl (s_mv rfl ?_)
    refine n_op .no (q := 4) rfl (s_mv rfl ?_)
    refine n_call .no rfl rfl rfl ?_
    refine C.use (num_c (m := 1) (s := 1) h (by omega) rfl rfl (by decide) hl) fun v g1 n1 hw1 hn1 hq => ?_
    obtain ⟨hA, k1⟩ := hq
    refine n_nil ?_
    refine z_r0 rfl ⟨hA, k1.dn (by omega)⟩

theorem wbytes_c {g : Gm} {n b w : Nat} {bs : Bs} (h : WrAt b g w bs) (hl : bs.length ≤ 2 ^ 40) :
    C 73 #[.pointer (some ⟨w, 0, none⟩)] g n fun u g' n' => (∃ a c, u = .slice a bs.length c) ∧ BytesNew n g' u bs ∧ K0 g n g' := by
  obtain ⟨c, v, h1, h2, h3, h4, h5⟩ := h
  refine c_in1 Tryz.func73 rfl Tryz.ntmps73 rfl fun hw => ?_
  have hwn := hw _ _ h1
  repeat (first | refine w_seq ?_ | refine w_blk ?_ | refine z_seq ?_ | refine z_blk ?_ | refine w_skip ?_)
  refine w_reg 1 rfl rfl (j' := 1) ?_
  refine n_op .no (q := 0) rfl (s_as rfl ?_)
  refine n_nil ?_
  repeat (first | refine w_seq ?_ | refine w_blk ?_ | refine z_seq ?_ | refine z_blk ?_ | refine w_skip ?_)
  refine w_reg 6 rfl rfl (j' := 7) ?_
  refine n_op .no (q := 1) rfl (s_mv rfl ?_)
  refine n_op .no (q := 2) rfl (s_nil rfl ?_)
  first | refine n_op .no (q := 3) rfl (s_fa0 rfl fo_151_1 ?_) | refine n_op .no (q := 3) rfl (s_fa rfl fo_151_1 ?_)
  refine n_op .no (q := 4) rfl (s_ld rfl (by repeat (first | exact gs_same _ _ _ | exact h1 | exact h3 | refine (gs_ne (by omega) _).trans ?_)) ag_26 (by first | exact rfl | exact h1 | exact h3) ?_)
  refine n_call .no rfl rfl rfl ?_
  refine C.use (clone_c h4.at (by omega)) fun v g1 n1 hw1 hn1 hq => ?_
  obtain ⟨⟨a, c', rfl⟩, hB, k1⟩ := hq
  refine n_op .no (q := 6) rfl (s_as rfl ?_)
  refine n_nil ?_
  repeat (first | refine w_ret ?_ | refine w_seq ?_ | refine w_blk ?_ | refine z_seq ?_ | refine z_blk ?_ | refine w_skip ?_)
  refine z_r1 rfl rfl ?_
  exact ⟨⟨a, c', rfl⟩, hB.up (by omega), k1.dn (by omega)⟩

end Go.Proofs.YtehmailaabjdjaaGreat
end

section
open Go.Proofs
namespace Go.Proofs.YtehmailaabjdjaaGreat
set_option linter.unusedSimpArgs false
set_option linter.unusedVariables false
set_option maxRecDepth 100000

theorem Kp.loc {b w : Nat} {g g' : Gm} {n : Nat} (h : Kp (FW b w) g n g') {x : Nat} {c : List Value} {ro : Bool} (hx : x < n) (hw : x ≠ w) (hg : g x = some (.cells c 0 ro)) : g' x = some (.cells c 0 ro) :=
  h x _ hx hg fun hf => by rcases hf.2 with e | ⟨cl, e⟩; exact hw e; cases e

theorem WrAt.kp0 {b w : Nat} {g g' : Gm} {n : Nat} {bs : Bs} (h : WrAt b g w bs) (hk : K0 g n g') (hw : WF g n) : WrAt b g' w bs := by
  obtain ⟨c, v, q1, q2, q3, q4, q5⟩ := h
  exact ⟨c, v, hk.at0 hw q1, q2, q3, q4.kp0 hk hw, q5⟩

theorem flatG_len : ∀ (l : List Gd), (∀ x ∈ l, x.may) → (l.flatMap putG).length ≤ l.length * 40
  | [], _ => Nat.le_refl _
  | x :: r, h => by
    have h1 := flatG_len r fun z hz => h z (List.mem_cons_of_mem _ hz)
    have h2 := (h x (List.mem_cons_self ..)).1.2
    rw [List.flatMap_cons, List.length_append]
    simp only [putG, txt, List.length_append, be_length, List.length_cons]
    omega
theorem flatW_len : ∀ (l : List Wr), (∀ x ∈ l, x.may) → (l.flatMap putW).length ≤ l.length * 4040
  | [], _ => Nat.le_refl _
  | x :: r, h => by
    have h1 := flatW_len r fun z hz => h z (List.mem_cons_of_mem _ hz)
    have h2 := (h x (List.mem_cons_self ..)).1.2
    have h3 := (h x (List.mem_cons_self ..)).2
    rw [List.flatMap_cons, List.length_append]
    simp only [putW, txt, List.length_append, be_length, List.length_cons]
    omega
theorem take_putG {gs : List Gd} {i : Nat} (hi : i < gs.length) : (gs.take (i + 1)).flatMap putG = (gs.take i).flatMap putG ++ putG gs[i] := by
  rw [List.take_succ_eq_append_getElem hi, List.flatMap_append]; simp
theorem take_putW {ws : List Wr} {i : Nat} (hi : i < ws.length) : (ws.take (i + 1)).flatMap putW = (ws.take i).flatMap putW ++ putW ws[i] := by
  rw [List.take_succ_eq_append_getElem hi, List.flatMap_append]; simp

theorem put_c {g : Gm} {n : Nat} {x : Cal} {gv wv : Value} (h1 : CalAt g x gv wv) (hn : x.gs.length < 2 ^ 40 ∧ x.ws.length < 2 ^ 40) :
    C 32 #[.agg (calC x gv wv).toArray] g n fun u g' n' => (∃ a c, u = .slice a x.put.length c) ∧ BytesNew n g' u x.put ∧ K0 g n g' := by
  obtain ⟨a1, c1, rfl⟩ := h1.gs.len
  obtain ⟨a2, c2, rfl⟩ := h1.ws.len
  refine c_in1 Tryz.func32 rfl Tryz.ntmps32 rfl fun hw => ?_
  repeat (first | refine w_seq ?_ | refine w_blk ?_ | refine z_seq ?_ | refine z_blk ?_ | refine w_skip ?_)
  refine w_reg 2 rfl rfl (j' := 2) ?_
  refine n_op .no (q := 0) rfl (s_boxa rfl ?_)
  refine n_op .no (q := 1) rfl (s_as rfl ?_)
  refine n_nil ?_
  repeat (first | refine w_seq ?_ | refine w_blk ?_ | refine z_seq ?_ | refine z_blk ?_ | refine w_skip ?_)
  refine w_reg 3 rfl rfl (j' := 5) ?_
  refine n_op .no (q := 2) rfl (s_ldf rfl (by repeat (first | exact gs_same _ _ _ | refine (gs_ne (by omega) _).trans ?_)) ag_55 sz_55 (by exact rfl) ?_)
  refine n_call .no rfl rfl rfl ?_
  refine C.use (may_c (h1.kp0 (n := n) (by repeat (first | exact Kp.refl _ _ _ | refine Kp.new ?_ (by omega) _)) hw) hn) fun v g1 n1 hw1 hn1 hq => ?_
  obtain ⟨⟨r, rfl, hr⟩, k1⟩ := hq
  refine n_op .no (q := 4) rfl (s_not rfl ?_)
  refine n_nil ?_
  by_cases hm : x.may
  rotate_left
  · have : r = false := by
      cases r with
      | false => rfl
      | true => exact absurd (hr.1 rfl) hm
    subst this
    repeat (first | refine w_seq ?_ | refine w_blk ?_ | refine z_seq ?_ | refine z_blk ?_ | refine w_skip ?_)
    refine w_yes rfl (rfl) ?_
    repeat (first | refine w_seq ?_ | refine w_blk ?_ | refine z_seq ?_ | refine z_blk ?_ | refine w_skip ?_)
    refine w_reg 1 rfl rfl (j' := 1) ?_
    refine n_op .no (q := 0) rfl (s_as rfl ?_)
    refine n_nil ?_
    repeat (first | refine w_ret ?_ | refine w_seq ?_ | refine w_blk ?_ | refine z_seq ?_ | refine z_blk ?_ | refine w_skip ?_)
    refine z_r1 rfl rfl ?_
    rw [Cal.put_no hm]
    exact ⟨⟨_, _, rfl⟩, BytesNew.nil _ _, Kp.trans0 (n' := n) (by repeat (first | exact Kp.refl _ _ _ | refine Kp.new ?_ (by omega) _)) (k1.dn (by omega)) (by omega)⟩
  obtain rfl : r = true := hr.2 hm
  repeat (first | refine w_seq ?_ | refine w_blk ?_ | refine z_seq ?_ | refine z_blk ?_ | refine w_skip ?_)
  refine w_no rfl (rfl) ?_
  repeat (first | refine w_seq ?_ | refine w_blk ?_ | refine z_seq ?_ | refine z_blk ?_ | refine w_skip ?_)
  refine w_reg 1 rfl rfl (j' := 1) ?_
  refine n_op .no (q := 0) rfl (s_al zl_151 ?_)
  refine n_nil ?_
  repeat (first | refine w_seq ?_ | refine w_blk ?_ | refine z_seq ?_ | refine z_blk ?_ | refine w_skip ?_)
  refine w_gen fun g9 n9 hg9 hn9 hwg9 => ?_
  have kcell : g9 n = some (.cells (calC x (.slice a1 x.gs.length c1) (.slice a2 x.ws.length c2)) 0 false) := by rw [hg9]; exact (gs_ne (by omega) _).trans (k1.lt (by omega) (gs_same _ _ _))
  have hA9 : WrAt n1 g9 n1 [] := ⟨zW, _, by rw [hg9]; exact gs_same _ _ _, zW_len, zW_b, BytesNew.nil _ _, Nat.le_refl _⟩
  have k9 : K0 g n g9 := by rw [hg9]; exact Kp.new (Kp.trans0 (n' := n) (by repeat (first | exact Kp.refl _ _ _ | refine Kp.new ?_ (by omega) _)) (k1.dn (by omega)) (by omega)) (by omega) _
  have hx9 := h1.kp0 k9 hw
  clear hg9
  obtain ⟨⟨s1, s2⟩, s3, ⟨s4, s5⟩, s6, s7, s8, s9⟩ := hm.sizes
  obtain ⟨⟨t1, t2, t3, t4, _⟩, _⟩ := id hm
  repeat (first | refine w_seq ?_ | refine w_blk ?_ | refine z_seq ?_ | refine z_blk ?_ | refine w_skip ?_)
  refine w_reg 3 rfl rfl (j' := 3) ?_
  first | refine n_op .no (q := 0) rfl (s_fa0 rfl fo_55_2 ?_) | refine n_op .no (q := 0) rfl (s_fa rfl fo_55_2 ?_)
  refine n_op .no (q := 1) rfl (s_ld rfl (by repeat (first | exact gs_same _ _ _ | exact kcell | refine (gs_ne (by omega) _).trans ?_)) ag_3 (by first | exact rfl | exact kcell) ?_)
  refine n_call .no rfl rfl rfl ?_
  refine C.use (num_c (w := n1) (m := x.kind.toNat) (s := 1) hA9 (by omega) (by omega) rfl (by decide) (Nat.zero_le _)) fun v g2 n2 hw2 hn2 hq => ?_
  obtain ⟨hA2, k2⟩ := hq
  refine n_nil ?_
  repeat (first | refine w_seq ?_ | refine w_blk ?_ | refine z_seq ?_ | refine z_blk ?_ | refine w_skip ?_)
  refine w_reg 3 rfl rfl (j' := 3) ?_
  first | refine n_op .no (q := 0) rfl (s_fa0 rfl fo_55_0 ?_) | refine n_op .no (q := 0) rfl (s_fa rfl fo_55_0 ?_)
  refine n_op .no (q := 1) rfl (s_ld rfl (by repeat (first | exact gs_same _ _ _ | apply Kp.loc k2 (by omega) (by omega) | exact kcell | refine (gs_ne (by omega) _).trans ?_)) ag_3 (by first | exact rfl | exact kcell) ?_)
  refine n_call .no rfl rfl rfl ?_
  refine C.use (num_c (w := n1) (m := x.from_.toNat) (s := 1) hA2 (by omega) (by omega) rfl (by decide) (by simp only [List.length_append, List.length_nil, be_length]; omega)) fun v g3 n3 hw3 hn3 hq => ?_
  obtain ⟨hA3, k3⟩ := hq
  have k3 := k2.tr k3 (by omega)
  refine n_nil ?_
  repeat (first | refine w_seq ?_ | refine w_blk ?_ | refine z_seq ?_ | refine z_blk ?_ | refine w_skip ?_)
  refine w_reg 3 rfl rfl (j' := 3) ?_
  first | refine n_op .no (q := 0) rfl (s_fa0 rfl fo_55_1 ?_) | refine n_op .no (q := 0) rfl (s_fa rfl fo_55_1 ?_)
  refine n_op .no (q := 1) rfl (s_ld rfl (by repeat (first | exact gs_same _ _ _ | apply Kp.loc k3 (by omega) (by omega) | exact kcell | refine (gs_ne (by omega) _).trans ?_)) ag_2 (by first | exact rfl | exact kcell) ?_)
  refine n_call .no rfl rfl rfl ?_
  refine C.use (num_c (w := n1) (m := x.id.toNat) (s := 8) hA3 (by omega) (by omega) rfl (by decide) (by simp only [List.length_append, List.length_nil, be_length]; omega)) fun v g4 n4 hw4 hn4 hq => ?_
  obtain ⟨hA4, k4⟩ := hq
  have k4 := k3.tr k4 (by omega)
  refine n_nil ?_
  repeat (first | refine w_seq ?_ | refine w_blk ?_ | refine z_seq ?_ | refine z_blk ?_ | refine w_skip ?_)
  refine w_reg 3 rfl rfl (j' := 3) ?_
  first | refine n_op .no (q := 0) rfl (s_fa0 rfl fo_55_3 ?_) | refine n_op .no (q := 0) rfl (s_fa rfl fo_55_3 ?_)
  refine n_op .no (q := 1) rfl (s_ld rfl (by repeat (first | exact gs_same _ _ _ | apply Kp.loc k4 (by omega) (by omega) | exact kcell | refine (gs_ne (by omega) _).trans ?_)) ag_9 (by first | exact rfl | exact kcell) ?_)
  refine n_call .no rfl rfl rfl ?_
  refine C.use (text_c (w := n1) hA4 (by omega) (by omega) (by simp only [List.length_append, List.length_nil, be_length]; omega)) fun v g5 n5 hw5 hn5 hq => ?_
  obtain ⟨hA5, k5⟩ := hq
  have k5 := k4.tr k5 (by omega)
  refine n_nil ?_
  repeat (first | refine w_seq ?_ | refine w_blk ?_ | refine z_seq ?_ | refine z_blk ?_ | refine w_skip ?_)
  refine w_reg 3 rfl rfl (j' := 3) ?_
  first | refine n_op .no (q := 0) rfl (s_fa0 rfl fo_55_4 ?_) | refine n_op .no (q := 0) rfl (s_fa rfl fo_55_4 ?_)
  refine n_op .no (q := 1) rfl (s_ld rfl (by repeat (first | exact gs_same _ _ _ | apply Kp.loc k5 (by omega) (by omega) | exact kcell | refine (gs_ne (by omega) _).trans ?_)) ag_2 (by first | exact rfl | exact kcell) ?_)
  refine n_call .no rfl rfl rfl ?_
  refine C.use (num_c (w := n1) (m := x.rev.toNat) (s := 8) hA5 (by omega) (by omega) rfl (by decide) (by simp only [List.length_append, List.length_nil, be_length, txt]; omega)) fun v g6 n6 hw6 hn6 hq => ?_
  obtain ⟨hA6, k6⟩ := hq
  have k6 := k5.tr k6 (by omega)
  refine n_nil ?_
  repeat (first | refine w_seq ?_ | refine w_blk ?_ | refine z_seq ?_ | refine z_blk ?_ | refine w_skip ?_)
  refine w_reg 5 rfl rfl (j' := 5) ?_
  first | refine n_op .no (q := 0) rfl (s_fa0 rfl fo_55_5 ?_) | refine n_op .no (q := 0) rfl (s_fa rfl fo_55_5 ?_)
  first | refine n_op .no (q := 1) rfl (s_fa0 rfl fo_42_0 ?_) | refine n_op .no (q := 1) rfl (s_fa rfl fo_42_0 ?_)
  refine n_op .no (q := 2) rfl (s_ld rfl (by repeat (first | exact gs_same _ _ _ | apply Kp.loc k6 (by omega) (by omega) | exact kcell | refine (gs_ne (by omega) _).trans ?_)) ag_37 (by first | exact rfl | exact kcell) ?_)
  refine n_op .no (q := 3) rfl (s_len rfl rfl un_37 rfl ?_)
  refine n_call .no rfl rfl rfl ?_
  refine C.use (num_c (w := n1) (m := x.gs.length) (s := 1) hA6 (by omega) (by omega) rfl (by decide) (by simp only [List.length_append, List.length_nil, be_length, txt]; omega)) fun v g7 n7 hw7 hn7 hq => ?_
  obtain ⟨hA7, k7⟩ := hq
  have k7 := k6.tr k7 (by omega)
  refine n_nil ?_
  repeat (first | refine w_seq ?_ | refine w_blk ?_ | refine z_seq ?_ | refine z_blk ?_ | refine w_skip ?_)
  refine w_reg 5 rfl rfl (j' := 5) ?_
  first | refine n_op .no (q := 0) rfl (s_fa0 rfl fo_55_5 ?_) | refine n_op .no (q := 0) rfl (s_fa rfl fo_55_5 ?_)
  first | refine n_op .no (q := 1) rfl (s_fa0 rfl fo_42_0 ?_) | refine n_op .no (q := 1) rfl (s_fa rfl fo_42_0 ?_)
  refine n_op .no (q := 2) rfl (s_ld rfl (by repeat (first | exact gs_same _ _ _ | apply Kp.loc k7 (by omega) (by omega) | exact kcell | refine (gs_ne (by omega) _).trans ?_)) ag_37 (by first | exact rfl | exact kcell) ?_)
  refine n_op .no (q := 3) rfl (s_len rfl rfl un_37 rfl ?_)
  refine n_op .no (q := 4) rfl (s_mv rfl ?_)
  refine n_nil ?_
  generalize hp : ((((([] ++ be 1 x.kind.toNat) ++ be 1 x.from_.toNat) ++ be 8 x.id.toNat) ++ txt x.key) ++ be 8 x.rev.toNat) ++ be 1 x.gs.length = pre at hA7
  have hpl : pre.length ≤ 100 := by rw [← hp]; simp only [List.length_append, List.length_nil, be_length, txt]; omega
  refine z_seq ?_
  refine z_meet (β := Unit) (fun _ => [(1, .pointer (some ⟨n, 0, none⟩)), (3, .pointer (some ⟨n1, 0, none⟩))])
    (fun _ g' n' => n9 ≤ n' ∧ Kp (FW n1 n1) g9 n9 g' ∧ WrAt n1 g' n1 (pre ++ x.gs.flatMap putG)) ?_ ?_
  · repeat (first | refine w_seq ?_ | refine w_blk ?_ | refine z_seq ?_ | refine z_blk ?_ | refine w_skip ?_)
    refine w_loop (β := Nat) (fun i => [(1, .pointer (some ⟨n, 0, none⟩)), (3, .pointer (some ⟨n1, 0, none⟩)), (33, .slice a1 x.gs.length c1), (34, .int .i64 x.gs.length), (35, .int .i64 i)])
      (fun i g' n' => i ≤ x.gs.length ∧ n9 ≤ n' ∧ Kp (FW n1 n1) g9 n9 g' ∧ WrAt n1 g' n1 (pre ++ (x.gs.take i).flatMap putG)) (fun i => x.gs.length - i) 0 ⟨rfl, rfl, rfl, rfl, rfl, trivial⟩ ⟨by omega, by omega, k7.dn (by omega), by simpa using hA7⟩ ?_
    rintro i f g1' nL hwL ⟨hi, hnL, kL, hAL⟩
    repeat (first | refine w_seq ?_ | refine w_blk ?_ | refine z_seq ?_ | refine z_blk ?_ | refine w_skip ?_)
    refine w_reg 1 rfl rfl (j' := 1) ?_
    refine n_op .no (q := 0) rfl (s_bin rfl rfl rfl ?_)
    refine n_nil ?_
    repeat (first | refine w_seq ?_ | refine w_blk ?_ | refine z_seq ?_ | refine z_blk ?_ | refine w_skip ?_)
    refine w_if rfl (fun hc => ?_) (fun hc => ?_)
    · have hc : i < x.gs.length := by simpa using hc
      have kn : K0 g n g1' := k9.trans0 (kL.fw (q := n) (by omega) (by omega)) (Nat.le_refl _)
      obtain ⟨l3, o3, c3, cl3, ro3, x1, x2, x0, x5⟩ := (h1.gs.kp0 kn hw).at hc
      cases x1
      have hx2 := hwL _ _ x2
      obtain ⟨⟨_, m1⟩, m2, m3⟩ := s8 _ (List.getElem_mem hc)
      have hfl := flatG_len (x.gs.take i) fun z hz => s8 z (List.mem_of_mem_take hz)
      have htl : (x.gs.take i).length = i := by rw [List.length_take]; omega
      repeat (first | refine w_seq ?_ | refine w_blk ?_ | refine z_seq ?_ | refine z_blk ?_ | refine w_skip ?_)
      refine w_reg 4 rfl rfl (j' := 5) ?_
      refine n_op .no (q := 1) rfl (s_ia rfl rfl el_37 (by first | assumption | omega) ?_)
      refine n_op .no (q := 2) rfl (s_lda rfl (by repeat (first | exact gs_same _ _ _ | exact x2 | exact x5 | refine (gs_ne (by omega) _).trans ?_)) ag_36 sz_36 (by first | exact Nat.le_of_ble_eq_true rfl | assumption | omega) (by first | exact x2 | exact x5 | exact rfl) ?_)
      refine n_op .no (q := 3) rfl (s_al zl_36 ?_)
      refine n_op .no (q := 4) rfl (s_stw rfl rfl sz_36 rfl (by repeat (first | exact gs_same _ _ _ | exact x2 | exact x5 | refine (gs_ne (by omega) _).trans ?_)) (by exact rfl) rfl ?_)
      refine n_nil ?_
      repeat (first | refine w_seq ?_ | refine w_blk ?_ | refine z_seq ?_ | refine z_blk ?_ | refine w_skip ?_)
      refine w_reg 3 rfl rfl (j' := 8) ?_
      first | refine n_op .no (q := 5) rfl (s_fa0 rfl fo_36_0 ?_) | refine n_op .no (q := 5) rfl (s_fa rfl fo_36_0 ?_)
      refine n_op .no (q := 6) rfl (s_ld rfl (by repeat (first | exact gs_same _ _ _ | refine (gs_ne (by omega) _).trans ?_)) ag_9 (by first | exact rfl) ?_)
      refine n_call .no rfl rfl rfl ?_
      refine C.use (text_c (w := n1) (hAL.kp0 (n := nL) (by repeat (first | exact Kp.refl _ _ _ | refine Kp.new ?_ (by omega) _)) hwL) (by omega) (by omega) (by simp only [List.length_append, be_length, txt]; omega)) fun v g2 n2 hw2 hn2 hq => ?_
      obtain ⟨hB1, j1⟩ := hq
      refine n_nil ?_
      repeat (first | refine w_seq ?_ | refine w_blk ?_ | refine z_seq ?_ | refine z_blk ?_ | refine w_skip ?_)
      refine w_reg 3 rfl rfl (j' := 3) ?_
      first | refine n_op .no (q := 0) rfl (s_fa0 rfl fo_36_1 ?_) | refine n_op .no (q := 0) rfl (s_fa rfl fo_36_1 ?_)
      refine n_op .no (q := 1) rfl (s_ld rfl (by repeat (first | exact gs_same _ _ _ | apply Kp.loc j1 (by omega) (by omega) | refine (gs_ne (by omega) _).trans ?_)) ag_2 (by first | exact rfl) ?_)
      refine n_call .no rfl rfl rfl ?_
      refine C.use (num_c (w := n1) (m := x.gs[i].rev.toNat) (s := 8) hB1 (by omega) (by omega) rfl (by decide) (by simp only [List.length_append, be_length, txt]; omega)) fun v g3 n3 hw3 hn3 hq => ?_
      obtain ⟨hB2, j2⟩ := hq
      refine n_nil ?_
      repeat (first | refine w_seq ?_ | refine w_blk ?_ | refine z_seq ?_ | refine z_blk ?_ | refine w_skip ?_)
      refine w_reg 3 rfl rfl (j' := 3) ?_
      first | refine n_op .no (q := 0) rfl (s_fa0 rfl fo_36_2 ?_) | refine n_op .no (q := 0) rfl (s_fa rfl fo_36_2 ?_)
      refine n_op .no (q := 1) rfl (s_ld rfl (by repeat (first | exact gs_same _ _ _ | apply Kp.loc j2 (by omega) (by omega) | apply Kp.loc j1 (by omega) (by omega) | refine (gs_ne (by omega) _).trans ?_)) ag_4 (by first | exact rfl) ?_)
      refine n_call .no rfl rfl rfl ?_
      refine C.use (bit_c (w := n1) hB2 (by omega) (by simp only [List.length_append, be_length, txt]; omega)) fun v g4 n4 hw4 hn4 hq => ?_
      obtain ⟨hB3, j3⟩ := hq
      refine n_nil ?_
      repeat (first | refine w_seq ?_ | refine w_blk ?_ | refine z_seq ?_ | refine z_blk ?_ | refine w_skip ?_)
      repeat (first | refine w_seq ?_ | refine w_blk ?_ | refine z_seq ?_ | refine z_blk ?_ | refine w_skip ?_)
      refine w_reg 2 rfl rfl (j' := 2) ?_
      first | refine n_op .no (q := 0) rfl (s_bin rfl rfl (bi_inc (by omega)) ?_) | refine n_op .no (q := 0) rfl (s_bin rfl rfl (bi_add rfl (by omega) (by omega)) ?_)
      refine n_op .no (q := 1) rfl (s_mv rfl ?_)
      refine n_nil ?_
      have e : pre ++ (x.gs.take (i + 1)).flatMap putG = (((pre ++ (x.gs.take i).flatMap putG) ++ txt x.gs[i].key) ++ be 8 x.gs[i].rev.toNat) ++ be 1 (bit x.gs[i].under) := by rw [take_putG hc]; simp only [putG, List.append_assoc]
      refine z_round (i + 1) ⟨rfl, rfl, rfl, rfl, rfl, trivial⟩ ⟨hc, by omega, kL.tr (n' := nL) (((Kp.tr (n' := nL) (by repeat (first | exact Kp.refl _ _ _ | refine Kp.new ?_ (by omega) _)) (j1.dn (by omega)) (by omega)).tr j2 (by omega)).tr j3 (by omega)) hnL, by rw [e]; exact hB3⟩ (by omega)
    · refine w_exit rfl ?_
      have : i = x.gs.length := by simp at hc; omega
      subst this
      rw [List.take_length] at hAL
      exact z_met () ⟨rfl, rfl, trivial⟩ ⟨by omega, kL, hAL⟩
  rintro _ f g10 n10 hw10 ⟨hn10, k10, hA10⟩
  have hfg := flatG_len x.gs s8
  repeat (first | refine w_seq ?_ | refine w_blk ?_ | refine z_seq ?_ | refine z_blk ?_ | refine w_skip ?_)
  refine w_reg 5 rfl rfl (j' := 5) ?_
  first | refine n_op .no (q := 0) rfl (s_fa0 rfl fo_55_5 ?_) | refine n_op .no (q := 0) rfl (s_fa rfl fo_55_5 ?_)
  first | refine n_op .no (q := 1) rfl (s_fa0 rfl fo_42_1 ?_) | refine n_op .no (q := 1) rfl (s_fa rfl fo_42_1 ?_)
  refine n_op .no (q := 2) rfl (s_ld rfl (by repeat (first | exact gs_same _ _ _ | apply Kp.loc k10 (by omega) (by omega) | exact kcell | refine (gs_ne (by omega) _).trans ?_)) ag_40 (by first | exact rfl | exact kcell) ?_)
  refine n_op .no (q := 3) rfl (s_len rfl rfl un_40 rfl ?_)
  refine n_call .no rfl rfl rfl ?_
  refine C.use (num_c (w := n1) (m := x.ws.length) (s := 1) hA10 (by omega) (by omega) rfl (by decide) (by simp only [List.length_append, be_length, txt]; omega)) fun v g11 n11 hw11 hn11 hq => ?_
  obtain ⟨hA11, k11⟩ := hq
  have k11 := k10.tr k11 (by omega)
  refine n_nil ?_
  repeat (first | refine w_seq ?_ | refine w_blk ?_ | refine z_seq ?_ | refine z_blk ?_ | refine w_skip ?_)
  refine w_reg 5 rfl rfl (j' := 5) ?_
  first | refine n_op .no (q := 0) rfl (s_fa0 rfl fo_55_5 ?_) | refine n_op .no (q := 0) rfl (s_fa rfl fo_55_5 ?_)
  first | refine n_op .no (q := 1) rfl (s_fa0 rfl fo_42_1 ?_) | refine n_op .no (q := 1) rfl (s_fa rfl fo_42_1 ?_)
  refine n_op .no (q := 2) rfl (s_ld rfl (by repeat (first | exact gs_same _ _ _ | apply Kp.loc k11 (by omega) (by omega) | exact kcell | refine (gs_ne (by omega) _).trans ?_)) ag_40 (by first | exact rfl | exact kcell) ?_)
  refine n_op .no (q := 3) rfl (s_len rfl rfl un_40 rfl ?_)
  refine n_op .no (q := 4) rfl (s_mv rfl ?_)
  refine n_nil ?_
  generalize hp2 : (pre ++ x.gs.flatMap putG) ++ be 1 x.ws.length = pr2 at hA11
  have hpl2 : pr2.length ≤ 1000 := by rw [← hp2]; simp only [List.length_append, be_length]; omega
  refine z_seq ?_
  refine z_meet (β := Unit) (fun _ => [(3, .pointer (some ⟨n1, 0, none⟩))])
    (fun _ g' n' => n9 ≤ n' ∧ Kp (FW n1 n1) g9 n9 g' ∧ WrAt n1 g' n1 (pr2 ++ x.ws.flatMap putW)) ?_ ?_
  · repeat (first | refine w_seq ?_ | refine w_blk ?_ | refine z_seq ?_ | refine z_blk ?_ | refine w_skip ?_)
    refine w_loop (β := Nat) (fun i => [(3, .pointer (some ⟨n1, 0, none⟩)), (56, .slice a2 x.ws.length c2), (57, .int .i64 x.ws.length), (58, .int .i64 i)])
      (fun i g' n' => i ≤ x.ws.length ∧ n9 ≤ n' ∧ Kp (FW n1 n1) g9 n9 g' ∧ WrAt n1 g' n1 (pr2 ++ (x.ws.take i).flatMap putW)) (fun i => x.ws.length - i) 0 ⟨rfl, rfl, rfl, rfl, trivial⟩ ⟨by omega, by omega, k11.dn (by omega), by simpa using hA11⟩ ?_
    rintro i f g1' nL hwL ⟨hi, hnL, kL, hAL⟩
    repeat (first | refine w_seq ?_ | refine w_blk ?_ | refine z_seq ?_ | refine z_blk ?_ | refine w_skip ?_)
    refine w_reg 1 rfl rfl (j' := 1) ?_
    refine n_op .no (q := 0) rfl (s_bin rfl rfl rfl ?_)
    refine n_nil ?_
    repeat (first | refine w_seq ?_ | refine w_blk ?_ | refine z_seq ?_ | refine z_blk ?_ | refine w_skip ?_)
    refine w_if rfl (fun hc => ?_) (fun hc => ?_)
    · have hc : i < x.ws.length := by simpa using hc
      have kn : K0 g n g1' := k9.trans0 (kL.fw (q := n) (by omega) (by omega)) (Nat.le_refl _)
      obtain ⟨l3, o3, c3, cl3, ro3, p3, q3, x1, x2, x0, x5, x6⟩ := h1.ws.at hc
      cases x1
      have hx2 := hw _ _ x2
      have x2 := kn.at0 hw x2
      obtain ⟨⟨_, m1⟩, m2⟩ := s9 _ (List.getElem_mem hc)
      have hfl := flatW_len (x.ws.take i) fun z hz => s9 z (List.mem_of_mem_take hz)
      have htl : (x.ws.take i).length = i := by rw [List.length_take]; omega
      repeat (first | refine w_seq ?_ | refine w_blk ?_ | refine z_seq ?_ | refine z_blk ?_ | refine w_skip ?_)
      refine w_reg 4 rfl rfl (j' := 5) ?_
      refine n_op .no (q := 1) rfl (s_ia rfl rfl el_40 (by first | assumption | omega) ?_)
      refine n_op .no (q := 2) rfl (s_lda rfl (by repeat (first | exact gs_same _ _ _ | exact x2 | exact x5 | refine (gs_ne (by omega) _).trans ?_)) ag_39 sz_39 (by first | exact Nat.le_of_ble_eq_true rfl | assumption | omega) (by first | exact x2 | exact x5 | exact rfl) ?_)
      refine n_op .no (q := 3) rfl (s_al zl_39 ?_)
      refine n_op .no (q := 4) rfl (s_stw rfl rfl sz_39 rfl (by repeat (first | exact gs_same _ _ _ | exact x2 | exact x5 | refine (gs_ne (by omega) _).trans ?_)) (by exact rfl) rfl ?_)
      refine n_nil ?_
      repeat (first | refine w_seq ?_ | refine w_blk ?_ | refine z_seq ?_ | refine z_blk ?_ | refine w_skip ?_)
      refine w_reg 3 rfl rfl (j' := 8) ?_
      first | refine n_op .no (q := 5) rfl (s_fa0 rfl fo_39_0 ?_) | refine n_op .no (q := 5) rfl (s_fa rfl fo_39_0 ?_)
      refine n_op .no (q := 6) rfl (s_ld rfl (by repeat (first | exact gs_same _ _ _ | refine (gs_ne (by omega) _).trans ?_)) ag_9 (by first | exact rfl) ?_)
      refine n_call .no rfl rfl rfl ?_
      refine C.use (text_c (w := n1) (hAL.kp0 (n := nL) (by repeat (first | exact Kp.refl _ _ _ | refine Kp.new ?_ (by omega) _)) hwL) (by omega) (by omega) (by simp only [List.length_append, be_length, txt]; omega)) fun v g2 n2 hw2 hn2 hq => ?_
      obtain ⟨hB1, j1⟩ := hq
      have kk1 := kL.tr (n' := nL) (Kp.tr (n' := nL) (by repeat (first | exact Kp.refl _ _ _ | refine Kp.new ?_ (by omega) _)) (j1.dn (by omega)) (by omega)) hnL
      refine n_nil ?_
      repeat (first | refine w_seq ?_ | refine w_blk ?_ | refine z_seq ?_ | refine z_blk ?_ | refine w_skip ?_)
      refine w_reg 4 rfl rfl (j' := 4) ?_
      first | refine n_op .no (q := 0) rfl (s_fa0 rfl fo_39_1 ?_) | refine n_op .no (q := 0) rfl (s_fa rfl fo_39_1 ?_)
      refine n_op .no (q := 1) rfl (s_ld rfl (by repeat (first | exact gs_same _ _ _ | apply Kp.loc j1 (by omega) (by omega) | refine (gs_ne (by omega) _).trans ?_)) ag_26 (by first | exact rfl) ?_)
      refine n_op .no (q := 2) rfl (s_b2s un_26 un_9 un_5 rfl (x6.kp0 (k9.trans0 (kk1.fw (q := n) (by omega) (by omega)) (Nat.le_refl _)) hw) fun tc => ?_)
      refine n_call .no rfl rfl rfl ?_
      refine C.use (text_c (w := n1) hB1 (by omega) (by omega) (by simp only [List.length_append, be_length, txt]; omega)) fun v g3 n3 hw3 hn3 hq => ?_
      obtain ⟨hB2, j2⟩ := hq
      have kk2 := kk1.tr j2 (by omega)
      refine n_nil ?_
      repeat (first | refine w_seq ?_ | refine w_blk ?_ | refine z_seq ?_ | refine z_blk ?_ | refine w_skip ?_)
      refine w_reg 3 rfl rfl (j' := 3) ?_
      first | refine n_op .no (q := 0) rfl (s_fa0 rfl fo_39_2 ?_) | refine n_op .no (q := 0) rfl (s_fa rfl fo_39_2 ?_)
      refine n_op .no (q := 1) rfl (s_ld rfl (by repeat (first | exact gs_same _ _ _ | apply Kp.loc j2 (by omega) (by omega) | apply Kp.loc j1 (by omega) (by omega) | refine (gs_ne (by omega) _).trans ?_)) ag_4 (by first | exact rfl) ?_)
      refine n_call .no rfl rfl rfl ?_
      refine C.use (bit_c (w := n1) hB2 (by omega) (by simp only [List.length_append, be_length, txt]; omega)) fun v g4 n4 hw4 hn4 hq => ?_
      obtain ⟨hB3, j3⟩ := hq
      have kk3 := kk2.tr j3 (by omega)
      refine n_nil ?_
      repeat (first | refine w_seq ?_ | refine w_blk ?_ | refine z_seq ?_ | refine z_blk ?_ | refine w_skip ?_)
      repeat (first | refine w_seq ?_ | refine w_blk ?_ | refine z_seq ?_ | refine z_blk ?_ | refine w_skip ?_)
      refine w_reg 2 rfl rfl (j' := 2) ?_
      first | refine n_op .no (q := 0) rfl (s_bin rfl rfl (bi_inc (by omega)) ?_) | refine n_op .no (q := 0) rfl (s_bin rfl rfl (bi_add rfl (by omega) (by omega)) ?_)
      refine n_op .no (q := 1) rfl (s_mv rfl ?_)
      refine n_nil ?_
      have e : pr2 ++ (x.ws.take (i + 1)).flatMap putW = (((pr2 ++ (x.ws.take i).flatMap putW) ++ txt x.ws[i].key) ++ txt x.ws[i].val) ++ be 1 (bit x.ws[i].gone) := by rw [take_putW hc]; simp only [putW, List.append_assoc]
      refine z_round (i + 1) ⟨rfl, rfl, rfl, rfl, trivial⟩ ⟨hc, by omega, kk3, by rw [e]; exact hB3⟩ (by omega)
    · refine w_exit rfl ?_
      have : i = x.ws.length := by simp at hc; omega
      subst this
      rw [List.take_length] at hAL
      exact z_met () ⟨rfl, trivial⟩ ⟨by omega, kL, hAL⟩
  rintro _ f g12 n12 hw12 ⟨hn12, k12, hA12⟩
  have hfw := flatW_len x.ws s9
  have hout : pr2 ++ x.ws.flatMap putW = x.put := by
    rw [Cal.put_yes hm, ← hp2, ← hp, Cal.out]
    simp only [List.append_assoc, List.nil_append]
  rw [hout] at hA12
  repeat (first | refine w_seq ?_ | refine w_blk ?_ | refine z_seq ?_ | refine z_blk ?_ | refine w_skip ?_)
  refine w_reg 2 rfl rfl (j' := 2) ?_
  refine n_call .no rfl rfl rfl ?_
  refine C.use (wbytes_c hA12 (Nat.le_trans (Cal.put_len x) (by decide))) fun v g13 n13 hw13 hn13 hq => ?_
  obtain ⟨⟨a, c, rfl⟩, hB, k13⟩ := hq
  refine n_op .no (q := 1) rfl (s_as rfl ?_)
  refine n_nil ?_
  repeat (first | refine w_ret ?_ | refine w_seq ?_ | refine w_blk ?_ | refine z_seq ?_ | refine z_blk ?_ | refine w_skip ?_)
  refine z_r1 rfl rfl ?_
  exact ⟨⟨a, c, rfl⟩, hB.up (by omega), (k9.trans0 (k12.fw (q := n) (by omega) (by omega)) (Nat.le_refl _)).trans0 k13 (by omega)⟩

end Go.Proofs.YtehmailaabjdjaaGreat
end

section
open Go.Proofs
namespace Go.Proofs.YtehmailaabjdjaaGreat
set_option linter.unusedSimpArgs false
set_option linter.unusedVariables false
set_option maxRecDepth 100000

noncomputable def zR : List Value := (zeroL E6.P 188).getD []
theorem zl_188 : zeroL E6.P 188 = some zR := id (by kernel_rfl)
theorem zR_len : zR.length = 299 := id (by kernel_rfl)
theorem zR_b : zR[298]? = some (.bool false) := id (by kernel_rfl)
theorem pl_188 : placesL E6.P 188 = some [(0, 297), (297, 1), (298, 1)] := id (by kernel_rfl)
theorem upL_of : ∀ {c : List Value} {o : Nat} {v : Value}, o < c.length → upL c o v = some (splice c o [v])
  | [], _, _, h => absurd h (Nat.not_lt_zero _)
  | x :: r, 0, v, h => by simp [upL, splice]
  | x :: r, o + 1, v, h => by
    have := upL_of (c := r) (o := o) (v := v) (by simpa using h)
    simp [upL, this, splice, Nat.add_right_comm]
theorem zR_ok : (([(0, 297), (297, 1), (298, 1)] : List (Nat × Nat)).all fun q => Nat.ble (q.1 + q.2) zR.length) = true := by rw [zR_len]; rfl
theorem zR_fill (a : Option Addr) (m c : Nat) : fillF [(0, 297), (297, 1), (298, 1)] zR [(1, .slice a m c)] = some (splice zR 297 [.slice a m c]) := by
  have h : upL zR 297 (.slice a m c) = some (splice zR 297 [.slice a m c]) := upL_of (by rw [zR_len]; decide)
  have h2 : upLs zR 297 [.slice a m c] = some (splice zR 297 [.slice a m c]) := by simp only [upLs, h]
  show (match upLs zR 297 [.slice a m c] with
    | some cs' => fillF [(0, 297), (297, 1), (298, 1)] cs' []
    | none => none) = _
  rw [h2]; rfl

/-- A reader, and what it has still. -/
def RdAt (b : Nat) (g : Gm) (r : Nat) (bs : Bs) (bad : Bool) : Prop := ∃ c v, g r = some (.cells c 0 false) ∧ c.length = 299 ∧ c[297]? = some v ∧ c[298]? = some (.bool bad) ∧ BytesNew b g v bs
def FRd (r : Nat) (x : Nat) (o : AObj) : Prop := x = r ∧ ∃ c ro, o = .cells c 0 ro
theorem FRd.of {r : Nat} {g : Gm} {c : List Value} {ro : Bool} (h : g r = some (.cells c 0 ro)) : ∀ o, g r = some o → FRd r r o := fun o ho => ⟨rfl, c, ro, Option.some.inj (ho.symm.trans h)⟩
theorem FRd.nob (r : Nat) : NoB (FRd r) := fun x cl ro h => by obtain ⟨_, c, q, e⟩ := h; cases e

theorem RdAt.kp0 {b r : Nat} {g g' : Gm} {n : Nat} {bs : Bs} {bad : Bool} (h : RdAt b g r bs bad) (hk : K0 g n g') (hw : WF g n) : RdAt b g' r bs bad := by
  obtain ⟨c, v, q1, q2, q3, q4, q5⟩ := h
  exact ⟨c, v, hk.at0 hw q1, q2, q3, q4, q5.kp0 hk hw⟩
theorem Kp.rloc {r : Nat} {g g' : Gm} {n : Nat} (h : Kp (FRd r) g n g') {x : Nat} {o : AObj} (hx : x < n) (hw : x ≠ r) (hg : g x = some o) : g' x = some o := h x _ hx hg fun e => hw e.1
theorem Kp.rfw {r : Nat} {g g' : Gm} {n q : Nat} (h : Kp (FRd r) g n g') (hb : q ≤ r) (hq : q ≤ n) : K0 g q g' := fun x o hx ho _ => h x o (by omega) ho fun hf => by have := hf.1; omega

theorem newReader_c {g : Gm} {n : Nat} {v : Value} {bs : Bs} (h : BytesAt g v bs) (hl : bs.length ≤ 2 ^ 40) : C 74 #[v] g n fun u g' n' => ∃ r, u = .pointer (some ⟨r, 0, none⟩) ∧ n ≤ r ∧ r < n' ∧ RdAt n g' r bs false ∧ K0 g n g' := by
  refine c_in1 Tryz.func74 rfl Tryz.ntmps74 rfl fun hw => ?_
  repeat (first | refine w_seq ?_ | refine w_blk ?_ | refine z_seq ?_ | refine z_blk ?_ | refine w_skip ?_)
  refine w_reg 1 rfl rfl (j' := 1) ?_
  refine n_op .no (q := 0) rfl (s_as rfl ?_)
  refine n_nil ?_
  repeat (first | refine w_seq ?_ | refine w_blk ?_ | refine z_seq ?_ | refine z_blk ?_ | refine w_skip ?_)
  refine w_reg 5 rfl rfl (j' := 6) ?_
  refine n_op .no (q := 1) rfl (s_mv rfl ?_)
  refine n_call .no rfl rfl rfl ?_
  refine C.use (clone_c (BytesAt.kp0 h (by repeat (first | exact Kp.refl _ _ _ | refine Kp.new ?_ (by omega) _)) hw) (by omega)) fun v g1 n1 hw1 hn1 hq => ?_
  obtain ⟨⟨a, c, rfl⟩, hB, k1⟩ := hq
  refine n_op .no (q := 3) rfl (s_bld pl_188 zl_188 rfl zR_ok (zR_fill _ _ _) ?_)
  refine n_op .no (q := 4) rfl (s_boxa rfl ?_)
  refine n_op .no (q := 5) rfl (s_as rfl ?_)
  refine n_nil ?_
  repeat (first | refine w_ret ?_ | refine w_seq ?_ | refine w_blk ?_ | refine z_seq ?_ | refine z_blk ?_ | refine w_skip ?_)
  refine z_r1 rfl rfl ?_
  refine ⟨_, rfl, by omega, by omega, ⟨_, _, gs_same _ _ _, ?_, ?_, ?_, ((hB.other (fun e => by have := hB.2 _ e; omega) _).up (by omega))⟩, Kp.new (k1.dn (by omega)) (by omega) _⟩
  · rw [splice_length (by simp [zR_len])]; exact zR_len
  · rw [splice_get (by simp [zR_len]), if_pos (by simp)]; rfl
  · rw [splice_get (by simp [zR_len]), if_neg (by simp)]; exact zR_b

theorem or_small {a b : Int} {k : Nat} (ha : 0 ≤ a ∧ a < 2 ^ k) (hb : 0 ≤ b ∧ b < 2 ^ k) (hk : k ≤ 62) : 0 ≤ orV a b ∧ orV a b < 2 ^ k := by
  obtain ⟨x, rfl⟩ := Int.eq_ofNat_of_zero_le ha.1
  obtain ⟨y, rfl⟩ := Int.eq_ofNat_of_zero_le hb.1
  have hp : (2 : Nat) ^ k ≤ 2 ^ 62 := Nat.pow_le_pow_right (by decide) hk
  have hx : x < 2 ^ k := by have := ha.2; exact_mod_cast this
  have hy : y < 2 ^ k := by have := hb.2; exact_mod_cast this
  have h1 : (BitVec.ofInt 64 (x : Int) ||| BitVec.ofInt 64 (y : Int)).toNat = x ||| y := by
    rw [BitVec.toNat_or, BitVec.ofInt_natCast, BitVec.ofInt_natCast, BitVec.toNat_ofNat, BitVec.toNat_ofNat, Nat.mod_eq_of_lt (by omega), Nat.mod_eq_of_lt (by omega)]
  have h2 : x ||| y < 2 ^ k := Nat.or_lt_two_pow hx hy
  unfold orV
  rw [h1, show IntKind.i64.wrap ((x ||| y : Nat) : Int) = ((x ||| y : Nat) : Int) from wrap_id (by omega) (by omega)]
  exact ⟨by omega, by exact_mod_cast h2⟩

theorem SlC.one {g : Gm} {v : Value} {m i : Nat} {cs : List Value} {w : Value} (h : SlC g 1 v m cs) (hi : i < m) (hw : cs[i]? = some w) : ∃ l o c cl ro, v = .slice (some ⟨l, o, none⟩) m c ∧ g l = some (.cells cl 1 ro) ∧ cl[o + i * 1]? = some w := by
  obtain ⟨l, o, c, cl, ro, h1, _, h2, h3, h4⟩ := SlC.pos h (by omega)
  refine ⟨l, o, c, cl, ro, h1, h2, ?_⟩
  rw [take_cell h4 (by omega), Nat.mul_one]; exact hw

theorem rnum_c {g : Gm} {n b r s : Nat} {bs : Bs} {bad : Bool} {zs : Int} (h : RdAt b g r bs bad) (hs : 1 ≤ s ∧ s ≤ 8) (hzs : zs = (s : Int)) :
    C 75 #[.pointer (some ⟨r, 0, none⟩), .int .i64 zs] g n fun u g' n' => ∃ z bs' bad', u = .int .i64 z ∧ RdAt b g' r bs' bad' ∧ bs'.length ≤ bs.length ∧ (s ≤ 2 → 0 ≤ z ∧ z < 65536) ∧ Kp (FRd r) g n g' := by
  subst hzs
  obtain ⟨c, v, h1, h2, h3, h4, h5⟩ := h
  obtain ⟨av, cv, rfl⟩ := h5.len
  refine c_in2 Tryz.func75 rfl Tryz.ntmps75 rfl fun hw => ?_
  have hrn := hw _ _ h1
  repeat (first | refine w_seq ?_ | refine w_blk ?_ | refine z_seq ?_ | refine z_blk ?_ | refine w_skip ?_)
  refine w_reg 1 rfl rfl (j' := 1) ?_
  refine n_op .no (q := 0) rfl (s_as rfl ?_)
  refine n_nil ?_
  repeat (first | refine w_seq ?_ | refine w_blk ?_ | refine z_seq ?_ | refine z_blk ?_ | refine w_skip ?_)
  refine w_reg 7 rfl rfl (j' := 8) ?_
  refine n_op .no (q := 1) rfl (s_mv rfl ?_)
  refine n_op .no (q := 2) rfl (s_nil rfl ?_)
  first | refine n_op .no (q := 3) rfl (s_fa0 rfl fo_188_1 ?_) | refine n_op .no (q := 3) rfl (s_fa rfl fo_188_1 ?_)
  refine n_op .no (q := 4) rfl (s_ld rfl (by repeat (first | exact gs_same _ _ _ | exact h1 | exact h3 | refine (gs_ne (by omega) _).trans ?_)) ag_26 (by first | exact rfl | exact h1 | exact h3) ?_)
  refine n_op .no (q := 5) rfl (s_len rfl rfl un_26 rfl ?_)
  refine n_op .no (q := 6) rfl (s_mv rfl ?_)
  refine n_op .no (q := 7) rfl (s_bin rfl rfl rfl ?_)
  refine n_nil ?_
  by_cases hc : bs.length < s
  · repeat (first | refine w_seq ?_ | refine w_blk ?_ | refine z_seq ?_ | refine z_blk ?_ | refine w_skip ?_)
    refine w_yes rfl (decide_eq_true (by omega)) ?_
    have hsp : 297 + 1 ≤ (splice c 298 [.bool true]).length := by rw [splice_length (by simp; omega)]; omega
    repeat (first | refine w_seq ?_ | refine w_blk ?_ | refine z_seq ?_ | refine z_blk ?_ | refine w_skip ?_)
    refine w_reg 8 rfl rfl (j' := 16) ?_
    refine n_op .no (q := 8) rfl (s_mv rfl ?_)
    refine n_op .no (q := 9) rfl (s_mv rfl ?_)
    refine n_op .no (q := 10) rfl (s_nil rfl ?_)
    first | refine n_op .no (q := 11) rfl (s_fa0 rfl fo_188_2 ?_) | refine n_op .no (q := 11) rfl (s_fa rfl fo_188_2 ?_)
    refine n_op .no (q := 12) rfl (s_stg rfl rfl sz_4 (by repeat (first | exact gs_same _ _ _ | exact h1 | refine (gs_ne (by omega) _).trans ?_)) rfl rfl (by first | assumption | omega) ?_)
    refine n_op .no (q := 13) rfl (s_nil rfl ?_)
    first | refine n_op .no (q := 14) rfl (s_fa0 rfl fo_188_1 ?_) | refine n_op .no (q := 14) rfl (s_fa rfl fo_188_1 ?_)
    refine n_op .no (q := 15) rfl (s_stg rfl rfl sz_26 (by repeat (first | exact gs_same _ _ _ | exact h1 | refine (gs_ne (by omega) _).trans ?_)) rfl rfl (by first | assumption | omega) ?_)
    refine n_nil ?_
    repeat (first | refine w_seq ?_ | refine w_blk ?_ | refine z_seq ?_ | refine z_blk ?_ | refine w_skip ?_)
    refine w_reg 1 rfl rfl (j' := 17) ?_
    refine n_op .no (q := 16) rfl (s_as rfl ?_)
    refine n_nil ?_
    repeat (first | refine w_ret ?_ | refine w_seq ?_ | refine w_blk ?_ | refine z_seq ?_ | refine z_blk ?_ | refine w_skip ?_)
    refine z_r1 rfl rfl ?_
    refine ⟨_, [], true, rfl, ⟨_, _, gs_same _ _ _, ?_, ?_, ?_, BytesNew.nil _ _⟩, Nat.zero_le _, fun _ => by omega, Kp.set (Kp.set (Kp.refl _ _ _) (FRd.of h1) _) (FRd.of h1) _⟩
    · rw [splice_length (by rw [splice_length (by simp; omega)]; simp; omega), splice_length (by simp; omega)]; exact h2
    · rw [splice_get (by rw [splice_length (by simp; omega)]; simp; omega), if_pos (by simp)]; rfl
    · rw [splice_get (by rw [splice_length (by simp; omega)]; simp; omega), if_neg (by simp), splice_get (by simp; omega), if_pos (by simp)]; rfl
  · repeat (first | refine w_seq ?_ | refine w_blk ?_ | refine z_seq ?_ | refine z_blk ?_ | refine w_skip ?_)
    refine w_no rfl (decide_eq_false (by omega)) ?_
    repeat (first | refine w_seq ?_ | refine w_blk ?_ | refine z_seq ?_ | refine z_blk ?_ | refine w_skip ?_)
    refine w_reg 1 rfl rfl (j' := 9) ?_
    refine n_op .no (q := 8) rfl (s_as rfl ?_)
    refine n_nil ?_
    repeat (first | refine w_seq ?_ | refine w_blk ?_ | refine z_seq ?_ | refine z_blk ?_ | refine w_skip ?_)
    refine w_reg 8 rfl rfl (j' := 17) ?_
    refine n_op .no (q := 9) rfl (s_mv rfl ?_)
    refine n_op .no (q := 10) rfl (s_nil rfl ?_)
    first | refine n_op .no (q := 11) rfl (s_fa0 rfl fo_188_1 ?_) | refine n_op .no (q := 11) rfl (s_fa rfl fo_188_1 ?_)
    refine n_op .no (q := 12) rfl (s_ld rfl (by repeat (first | exact gs_same _ _ _ | exact h1 | exact h3 | refine (gs_ne (by omega) _).trans ?_)) ag_26 (by first | exact rfl | exact h1 | exact h3) ?_)
    refine n_op .no (q := 13) rfl (s_mv rfl ?_)
    refine n_op .no (q := 14) rfl (s_hiC un_26 sz_5 rfl h5.at rfl (by omega) fun a5 c5 hs5 hn5 => ?_)
    refine n_op .no (q := 15) rfl (s_len rfl rfl un_26 rfl ?_)
    refine n_op .no (q := 16) rfl (s_mv rfl ?_)
    refine n_nil ?_
    refine z_seq ?_
    refine z_meet (β := Int) (fun z => [(0, .pointer (some ⟨r, 0, none⟩)), (1, .int .i64 (s : Int)), (5, .int .i64 z)]) (fun z g' n' => n ≤ n' ∧ K0 g n g' ∧ (s ≤ 2 → 0 ≤ z ∧ z < 65536)) ?_ ?_
    · repeat (first | refine w_seq ?_ | refine w_blk ?_ | refine z_seq ?_ | refine z_blk ?_ | refine w_skip ?_)
      refine w_loop (β := Nat × Int) (fun x => [(0, .pointer (some ⟨r, 0, none⟩)), (1, .int .i64 (s : Int)), (5, .int .i64 x.2), (26, .slice a5 s c5), (27, .int .i64 (s : Int)), (28, .int .i64 (x.1 : Int))])
        (fun x g' n' => x.1 ≤ s ∧ n ≤ n' ∧ K0 g n g' ∧ (s ≤ 2 → 0 ≤ x.2 ∧ x.2 < 2 ^ (8 * x.1))) (fun x => s - x.1) (0, 0) ⟨rfl, rfl, rfl, rfl, rfl, rfl, trivial⟩ ⟨by omega, by omega, (by repeat (first | exact Kp.refl _ _ _ | refine Kp.new ?_ (by omega) _)), fun _ => by decide⟩ ?_
      rintro ⟨i, z⟩ f g1 n1 hw1 ⟨hi, hn1, k1, hz⟩
      simp only at hi hz
      repeat (first | refine w_seq ?_ | refine w_blk ?_ | refine z_seq ?_ | refine z_blk ?_ | refine w_skip ?_)
      refine w_reg 1 rfl rfl (j' := 1) ?_
      refine n_op .no (q := 0) rfl (s_bin rfl rfl rfl ?_)
      refine n_nil ?_
      repeat (first | refine w_seq ?_ | refine w_blk ?_ | refine z_seq ?_ | refine z_blk ?_ | refine w_skip ?_)
      refine w_if rfl (fun hc6 => ?_) (fun hc6 => ?_)
      · have hc6 : i < s := by simpa using hc6
        have hbi : i < bs.length := by omega
        obtain ⟨l6, o6, c6, cl6, ro6, x1, x2, x3⟩ := SlC.one (hs5.kp0 k1 hw) hc6 (w := .int .u8 (bs[i].toNat : Int)) (by rw [List.getElem?_take, if_pos (by omega), u8c, List.getElem?_map, List.getElem?_eq_getElem hbi]; rfl)
        cases x1
        have hb8 := bs[i].toNat_lt
        repeat (first | refine w_seq ?_ | refine w_blk ?_ | refine z_seq ?_ | refine z_blk ?_ | refine w_skip ?_)
        refine w_reg 3 rfl rfl (j' := 4) ?_
        refine n_op .no (q := 1) rfl (s_ia rfl rfl el_26 (by first | assumption | omega) ?_)
        refine n_op .no (q := 2) rfl (s_ld rfl (by repeat (first | exact gs_same _ _ _ | exact x2 | exact x3 | refine (gs_ne (by omega) _).trans ?_)) ag_5 (by first | exact rfl | exact x2 | exact x3) ?_)
        refine n_op .no (q := 3) rfl (s_as rfl ?_)
        refine n_nil ?_
        repeat (first | refine w_seq ?_ | refine w_blk ?_ | refine z_seq ?_ | refine z_blk ?_ | refine w_skip ?_)
        refine w_reg 6 rfl rfl (j' := 10) ?_
        refine n_op .no (q := 4) rfl (s_mv rfl ?_)
        refine n_op .no (q := 5) rfl (s_shl (j := 8) rfl rfl rfl (by decide) ?_)
        refine n_op .no (q := 6) rfl (s_mv rfl ?_)
        refine n_op .no (q := 7) rfl (s_b2i un_5 un_2 rfl (by omega) (by omega) ?_)
        refine n_op .no (q := 8) rfl (s_or rfl rfl ?_)
        refine n_op .no (q := 9) rfl (s_as rfl ?_)
        refine n_nil ?_
        repeat (first | refine w_seq ?_ | refine w_blk ?_ | refine z_seq ?_ | refine z_blk ?_ | refine w_skip ?_)
        repeat (first | refine w_seq ?_ | refine w_blk ?_ | refine z_seq ?_ | refine z_blk ?_ | refine w_skip ?_)
        refine w_reg 2 rfl rfl (j' := 12) ?_
        first | refine n_op .no (q := 10) rfl (s_bin rfl rfl (bi_inc (by omega)) ?_) | refine n_op .no (q := 10) rfl (s_bin rfl rfl (bi_add rfl (by omega) (by omega)) ?_)
        refine n_op .no (q := 11) rfl (s_mv rfl ?_)
        refine n_nil ?_
        refine z_round (i + 1, orV (IntKind.i64.wrap (z * 2 ^ 8)) (bs[i].toNat : Int)) ⟨rfl, rfl, rfl, rfl, rfl, rfl, trivial⟩ ⟨hc6, by omega, k1, fun h2 => ?_⟩ (by show s - (i + 1) < s - i; omega)
        show 0 ≤ orV (IntKind.i64.wrap (z * 2 ^ 8)) (bs[i].toNat : Int) ∧ orV (IntKind.i64.wrap (z * 2 ^ 8)) (bs[i].toNat : Int) < 2 ^ (8 * (i + 1))
        obtain ⟨z1, z2⟩ := hz h2
        have hi1 : i ≤ 1 := by omega
        have hlt : z * 2 ^ 8 < 2 ^ (8 * (i + 1)) := by
          have : (2 : Int) ^ (8 * (i + 1)) = 2 ^ (8 * i) * 2 ^ 8 := by rw [Nat.mul_add, Int.pow_add]
          rw [this]; omega
        have hsm : (2 : Int) ^ (8 * (i + 1)) ≤ 65536 := by rcases i with _ | _ | i <;> first | decide | omega
        rw [show IntKind.i64.wrap (z * 2 ^ 8) = z * 2 ^ 8 from wrap_id (by omega) (by omega)]
        refine or_small ⟨by omega, hlt⟩ ⟨by omega, ?_⟩ (by omega)
        have : (256 : Int) ≤ 2 ^ (8 * (i + 1)) := by rcases i with _ | _ | i <;> first | decide | omega
        omega
      · refine w_exit rfl ?_
        have : i = s := by simp at hc6; omega
        subst this
        refine z_met z ⟨rfl, rfl, rfl, trivial⟩ ⟨by omega, k1, fun h2 => ?_⟩
        obtain ⟨z1, z2⟩ := hz h2
        have hsm : (2 : Int) ^ (8 * i) ≤ 65536 := by rcases i with _ | _ | _ | i <;> first | decide | omega
        exact ⟨z1, by omega⟩
    rintro z f g2 n2 hw2 ⟨hn2, k2, hz⟩
    have e1 := k2.at0 hw h1
    have e5 := h5.kp0 k2 hw
    repeat (first | refine w_seq ?_ | refine w_blk ?_ | refine z_seq ?_ | refine z_blk ?_ | refine w_skip ?_)
    refine w_reg 10 rfl rfl (j' := 10) ?_
    refine n_op .no (q := 0) rfl (s_mv rfl ?_)
    refine n_op .no (q := 1) rfl (s_mv rfl ?_)
    refine n_op .no (q := 2) rfl (s_nil rfl ?_)
    first | refine n_op .no (q := 3) rfl (s_fa0 rfl fo_188_1 ?_) | refine n_op .no (q := 3) rfl (s_fa rfl fo_188_1 ?_)
    refine n_op .no (q := 4) rfl (s_ld rfl (by repeat (first | exact gs_same _ _ _ | exact e1 | exact h3 | refine (gs_ne (by omega) _).trans ?_)) ag_26 (by first | exact rfl | exact e1 | exact h3) ?_)
    refine n_op .no (q := 5) rfl (s_mv rfl ?_)
    refine n_op .no (q := 6) rfl (s_loB rfl e5 rfl (by omega) fun a7 c7 tc hr => ?_)
    refine n_op .no (q := 7) rfl (s_nil rfl ?_)
    first | refine n_op .no (q := 8) rfl (s_fa0 rfl fo_188_1 ?_) | refine n_op .no (q := 8) rfl (s_fa rfl fo_188_1 ?_)
    refine n_op .no (q := 9) rfl (s_stg rfl rfl sz_26 (by repeat (first | exact gs_same _ _ _ | exact e1 | refine (gs_ne (by omega) _).trans ?_)) rfl rfl (by first | assumption | omega) ?_)
    refine n_nil ?_
    repeat (first | refine w_seq ?_ | refine w_blk ?_ | refine z_seq ?_ | refine z_blk ?_ | refine w_skip ?_)
    refine w_reg 2 rfl rfl (j' := 12) ?_
    refine n_op .no (q := 10) rfl (s_mv rfl ?_)
    refine n_op .no (q := 11) rfl (s_as rfl ?_)
    refine n_nil ?_
    repeat (first | refine w_ret ?_ | refine w_seq ?_ | refine w_blk ?_ | refine z_seq ?_ | refine z_blk ?_ | refine w_skip ?_)
    refine z_r1 rfl rfl ?_
    refine ⟨z, bs.drop s, bad, rfl, ⟨_, _, gs_same _ _ _, ?_, ?_, ?_, BytesNew.other hr (hr.ne e1) _⟩, by rw [List.length_drop]; omega, hz, Kp.set k2.z (FRd.of h1) _⟩
    · rw [splice_length (by simp; omega)]; exact h2
    · rw [splice_get (by simp; omega), if_pos (by simp)]; simp
    · rw [splice_get (by simp; omega), if_neg (by simp)]; exact h4

theorem rtext_c {g : Gm} {n b r : Nat} {bs : Bs} {bad : Bool} (h : RdAt b g r bs bad) :
    C 76 #[.pointer (some ⟨r, 0, none⟩)] g n fun u g' n' => ∃ t bs' bad', u = .string (str t) ∧ RdAt b g' r bs' bad' ∧ bs'.length ≤ bs.length ∧ Kp (FRd r) g n g' := by
  obtain ⟨c0, v0, h01, _⟩ := id h
  refine c_in1 Tryz.func76 rfl Tryz.ntmps76 rfl fun hw => ?_
  repeat (first | refine w_seq ?_ | refine w_blk ?_ | refine z_seq ?_ | refine z_blk ?_ | refine w_skip ?_)
  refine w_reg 1 rfl rfl (j' := 1) ?_
  refine n_op .no (q := 0) rfl (s_as rfl ?_)
  refine n_nil ?_
  repeat (first | refine w_seq ?_ | refine w_blk ?_ | refine z_seq ?_ | refine z_blk ?_ | refine w_skip ?_)
  refine w_reg 3 rfl rfl (j' := 4) ?_
  refine n_op .no (q := 1) rfl (s_mv rfl ?_)
  refine n_call .no rfl rfl rfl ?_
  refine C.use (rnum_c (s := 2) h (by decide) rfl) fun v g1 n1 hw1 hn1 hq => ?_
  obtain ⟨z, bs1, bad1, rfl, hR, hlen, hz, k1⟩ := hq
  obtain ⟨z0, z1⟩ := hz (Nat.le_refl _)
  obtain ⟨m, rfl⟩ := Int.eq_ofNat_of_zero_le z0
  obtain ⟨c, v, h1, h2, h3, h4, h5⟩ := hR
  obtain ⟨av, cv, rfl⟩ := h5.len
  have hrn := hw1 _ _ h1
  refine n_op .no (q := 3) rfl (s_as rfl ?_)
  refine n_nil ?_
  repeat (first | refine w_seq ?_ | refine w_blk ?_ | refine z_seq ?_ | refine z_blk ?_ | refine w_skip ?_)
  refine w_reg 7 rfl rfl (j' := 7) ?_
  refine n_op .no (q := 0) rfl (s_mv rfl ?_)
  refine n_op .no (q := 1) rfl (s_mv rfl ?_)
  refine n_op .no (q := 2) rfl (s_nil rfl ?_)
  first | refine n_op .no (q := 3) rfl (s_fa0 rfl fo_188_1 ?_) | refine n_op .no (q := 3) rfl (s_fa rfl fo_188_1 ?_)
  refine n_op .no (q := 4) rfl (s_ld rfl (by repeat (first | exact gs_same _ _ _ | exact h1 | exact h3 | refine (gs_ne (by omega) _).trans ?_)) ag_26 (by first | exact rfl | exact h1 | exact h3) ?_)
  refine n_op .no (q := 5) rfl (s_len rfl rfl un_26 rfl ?_)
  refine n_op .no (q := 6) rfl (s_bin rfl rfl rfl ?_)
  refine n_nil ?_
  by_cases hc : bs1.length < m
  · repeat (first | refine w_seq ?_ | refine w_blk ?_ | refine z_seq ?_ | refine z_blk ?_ | refine w_skip ?_)
    refine w_yes rfl (decide_eq_true (by omega)) ?_
    have hsp : 297 + 1 ≤ (splice c 298 [.bool true]).length := by rw [splice_length (by simp; omega)]; omega
    repeat (first | refine w_seq ?_ | refine w_blk ?_ | refine z_seq ?_ | refine z_blk ?_ | refine w_skip ?_)
    refine w_reg 8 rfl rfl (j' := 15) ?_
    refine n_op .no (q := 7) rfl (s_mv rfl ?_)
    refine n_op .no (q := 8) rfl (s_mv rfl ?_)
    refine n_op .no (q := 9) rfl (s_nil rfl ?_)
    first | refine n_op .no (q := 10) rfl (s_fa0 rfl fo_188_2 ?_) | refine n_op .no (q := 10) rfl (s_fa rfl fo_188_2 ?_)
    refine n_op .no (q := 11) rfl (s_stg rfl rfl sz_4 (by repeat (first | exact gs_same _ _ _ | exact h1 | refine (gs_ne (by omega) _).trans ?_)) rfl rfl (by first | assumption | omega) ?_)
    refine n_op .no (q := 12) rfl (s_nil rfl ?_)
    first | refine n_op .no (q := 13) rfl (s_fa0 rfl fo_188_1 ?_) | refine n_op .no (q := 13) rfl (s_fa rfl fo_188_1 ?_)
    refine n_op .no (q := 14) rfl (s_stg rfl rfl sz_26 (by repeat (first | exact gs_same _ _ _ | exact h1 | refine (gs_ne (by omega) _).trans ?_)) rfl rfl (by first | assumption | omega) ?_)
    refine n_nil ?_
    repeat (first | refine w_seq ?_ | refine w_blk ?_ | refine z_seq ?_ | refine z_blk ?_ | refine w_skip ?_)
    refine w_reg 1 rfl rfl (j' := 16) ?_
    refine n_op .no (q := 15) rfl (s_as rfl ?_)
    refine n_nil ?_
    repeat (first | refine w_ret ?_ | refine w_seq ?_ | refine w_blk ?_ | refine z_seq ?_ | refine z_blk ?_ | refine w_skip ?_)
    refine z_r1 rfl rfl ?_
    refine ⟨[], [], true, rfl, ⟨_, _, gs_same _ _ _, ?_, ?_, ?_, BytesNew.nil _ _⟩, Nat.zero_le _, Kp.set (Kp.set (k1.dn (by omega)) (FRd.of h01) _) (FRd.of h01) _⟩
    · rw [splice_length (by rw [splice_length (by simp; omega)]; simp; omega), splice_length (by simp; omega)]; exact h2
    · rw [splice_get (by rw [splice_length (by simp; omega)]; simp; omega), if_pos (by simp)]; rfl
    · rw [splice_get (by rw [splice_length (by simp; omega)]; simp; omega), if_neg (by simp), splice_get (by simp; omega), if_pos (by simp)]; rfl
  · repeat (first | refine w_seq ?_ | refine w_blk ?_ | refine z_seq ?_ | refine z_blk ?_ | refine w_skip ?_)
    refine w_no rfl (decide_eq_false (by omega)) ?_
    repeat (first | refine w_seq ?_ | refine w_blk ?_ | refine z_seq ?_ | refine z_blk ?_ | refine w_skip ?_)
    refine w_reg 8 rfl rfl (j' := 15) ?_
    refine n_op .no (q := 7) rfl (s_mv rfl ?_)
    refine n_op .no (q := 8) rfl (s_nil rfl ?_)
    first | refine n_op .no (q := 9) rfl (s_fa0 rfl fo_188_1 ?_) | refine n_op .no (q := 9) rfl (s_fa rfl fo_188_1 ?_)
    refine n_op .no (q := 10) rfl (s_ld rfl (by repeat (first | exact gs_same _ _ _ | exact h1 | exact h3 | refine (gs_ne (by omega) _).trans ?_)) ag_26 (by first | exact rfl | exact h1 | exact h3) ?_)
    refine n_op .no (q := 11) rfl (s_mv rfl ?_)
    refine n_op .no (q := 12) rfl (s_hiB rfl h5.at rfl (by omega) fun w hw2 => ?_)
    obtain ⟨aw, cw, rfl⟩ := hw2.len
    refine n_op .no (q := 13) rfl (s_b2s un_26 un_9 un_5 rfl hw2 fun tc => ?_)
    refine n_op .no (q := 14) rfl (s_as rfl ?_)
    refine n_nil ?_
    repeat (first | refine w_seq ?_ | refine w_blk ?_ | refine z_seq ?_ | refine z_blk ?_ | refine w_skip ?_)
    refine w_reg 10 rfl rfl (j' := 25) ?_
    refine n_op .no (q := 15) rfl (s_mv rfl ?_)
    refine n_op .no (q := 16) rfl (s_mv rfl ?_)
    refine n_op .no (q := 17) rfl (s_nil rfl ?_)
    first | refine n_op .no (q := 18) rfl (s_fa0 rfl fo_188_1 ?_) | refine n_op .no (q := 18) rfl (s_fa rfl fo_188_1 ?_)
    refine n_op .no (q := 19) rfl (s_ld rfl (by repeat (first | exact gs_same _ _ _ | exact h1 | exact h3 | refine (gs_ne (by omega) _).trans ?_)) ag_26 (by first | exact rfl | exact h1 | exact h3) ?_)
    refine n_op .no (q := 20) rfl (s_mv rfl ?_)
    refine n_op .no (q := 21) rfl (s_loB rfl h5 rfl (by omega) fun a7 c7 tc hr => ?_)
    refine n_op .no (q := 22) rfl (s_nil rfl ?_)
    first | refine n_op .no (q := 23) rfl (s_fa0 rfl fo_188_1 ?_) | refine n_op .no (q := 23) rfl (s_fa rfl fo_188_1 ?_)
    refine n_op .no (q := 24) rfl (s_stg rfl rfl sz_26 (by repeat (first | exact gs_same _ _ _ | exact h1 | refine (gs_ne (by omega) _).trans ?_)) rfl rfl (by first | assumption | omega) ?_)
    refine n_nil ?_
    repeat (first | refine w_seq ?_ | refine w_blk ?_ | refine z_seq ?_ | refine z_blk ?_ | refine w_skip ?_)
    refine w_reg 2 rfl rfl (j' := 27) ?_
    refine n_op .no (q := 25) rfl (s_mv rfl ?_)
    refine n_op .no (q := 26) rfl (s_as rfl ?_)
    refine n_nil ?_
    repeat (first | refine w_ret ?_ | refine w_seq ?_ | refine w_blk ?_ | refine z_seq ?_ | refine z_blk ?_ | refine w_skip ?_)
    refine z_r1 rfl rfl ?_
    refine ⟨_, bs1.drop m, bad1, rfl, ⟨_, _, gs_same _ _ _, ?_, ?_, ?_, BytesNew.other hr (hr.ne h1) _⟩, by rw [List.length_drop]; omega, Kp.set (k1.dn (by omega)) (FRd.of h01) _⟩
    · rw [splice_length (by simp; omega)]; exact h2
    · rw [splice_get (by simp; omega), if_pos (by simp)]; simp
    · rw [splice_get (by simp; omega), if_neg (by simp)]; exact h4

theorem rcount_c {g : Gm} {n b r : Nat} {bs : Bs} {bad : Bool} (h : RdAt b g r bs bad) :
    C 77 #[.pointer (some ⟨r, 0, none⟩), .int .i64 1] g n fun u g' n' => ∃ (m : Nat) (bs' : Bs) (bad' : Bool), u = .int .i64 (m : Int) ∧ m ≤ bs.length ∧ RdAt b g' r bs' bad' ∧ bs'.length ≤ bs.length ∧ Kp (FRd r) g n g' := by
  obtain ⟨c0, v0, h01, _⟩ := id h
  refine c_in2 Tryz.func77 rfl Tryz.ntmps77 rfl fun hw => ?_
  repeat (first | refine w_seq ?_ | refine w_blk ?_ | refine z_seq ?_ | refine z_blk ?_ | refine w_skip ?_)
  refine w_reg 1 rfl rfl (j' := 1) ?_
  refine n_op .no (q := 0) rfl (s_as rfl ?_)
  refine n_nil ?_
  repeat (first | refine w_seq ?_ | refine w_blk ?_ | refine z_seq ?_ | refine z_blk ?_ | refine w_skip ?_)
  refine w_reg 4 rfl rfl (j' := 5) ?_
  refine n_op .no (q := 1) rfl (s_mv rfl ?_)
  refine n_op .no (q := 2) rfl (s_mv rfl ?_)
  refine n_call .no rfl rfl rfl ?_
  refine C.use (rnum_c (s := 1) h (by decide) rfl) fun v g1 n1 hw1 hn1 hq => ?_
  obtain ⟨z, bs1, bad1, rfl, hR, hlen, hz, k1⟩ := hq
  obtain ⟨z0, z1⟩ := hz (by decide)
  obtain ⟨m, rfl⟩ := Int.eq_ofNat_of_zero_le z0
  obtain ⟨c, v, h1, h2, h3, h4, h5⟩ := id hR
  obtain ⟨av, cv, rfl⟩ := h5.len
  have hrn := hw1 _ _ h1
  refine n_op .no (q := 4) rfl (s_as rfl ?_)
  refine n_nil ?_
  repeat (first | refine w_seq ?_ | refine w_blk ?_ | refine z_seq ?_ | refine z_blk ?_ | refine w_skip ?_)
  refine w_reg 7 rfl rfl (j' := 7) ?_
  refine n_op .no (q := 0) rfl (s_mv rfl ?_)
  refine n_op .no (q := 1) rfl (s_mv rfl ?_)
  refine n_op .no (q := 2) rfl (s_nil rfl ?_)
  first | refine n_op .no (q := 3) rfl (s_fa0 rfl fo_188_1 ?_) | refine n_op .no (q := 3) rfl (s_fa rfl fo_188_1 ?_)
  refine n_op .no (q := 4) rfl (s_ld rfl (by repeat (first | exact gs_same _ _ _ | exact h1 | exact h3 | refine (gs_ne (by omega) _).trans ?_)) ag_26 (by first | exact rfl | exact h1 | exact h3) ?_)
  refine n_op .no (q := 5) rfl (s_len rfl rfl un_26 rfl ?_)
  refine n_op .no (q := 6) rfl (s_bin rfl rfl rfl ?_)
  refine n_nil ?_
  by_cases hc : bs1.length < m
  · repeat (first | refine w_seq ?_ | refine w_blk ?_ | refine z_seq ?_ | refine z_blk ?_ | refine w_skip ?_)
    refine w_yes rfl (decide_eq_true (by omega)) ?_
    have hsp : 297 + 1 ≤ (splice c 298 [.bool true]).length := by rw [splice_length (by simp; omega)]; omega
    repeat (first | refine w_seq ?_ | refine w_blk ?_ | refine z_seq ?_ | refine z_blk ?_ | refine w_skip ?_)
    refine w_reg 8 rfl rfl (j' := 15) ?_
    refine n_op .no (q := 7) rfl (s_mv rfl ?_)
    refine n_op .no (q := 8) rfl (s_mv rfl ?_)
    refine n_op .no (q := 9) rfl (s_nil rfl ?_)
    first | refine n_op .no (q := 10) rfl (s_fa0 rfl fo_188_2 ?_) | refine n_op .no (q := 10) rfl (s_fa rfl fo_188_2 ?_)
    refine n_op .no (q := 11) rfl (s_stg rfl rfl sz_4 (by repeat (first | exact gs_same _ _ _ | exact h1 | refine (gs_ne (by omega) _).trans ?_)) rfl rfl (by first | assumption | omega) ?_)
    refine n_op .no (q := 12) rfl (s_nil rfl ?_)
    first | refine n_op .no (q := 13) rfl (s_fa0 rfl fo_188_1 ?_) | refine n_op .no (q := 13) rfl (s_fa rfl fo_188_1 ?_)
    refine n_op .no (q := 14) rfl (s_stg rfl rfl sz_26 (by repeat (first | exact gs_same _ _ _ | exact h1 | refine (gs_ne (by omega) _).trans ?_)) rfl rfl (by first | assumption | omega) ?_)
    refine n_nil ?_
    repeat (first | refine w_seq ?_ | refine w_blk ?_ | refine z_seq ?_ | refine z_blk ?_ | refine w_skip ?_)
    refine w_reg 1 rfl rfl (j' := 16) ?_
    refine n_op .no (q := 15) rfl (s_as rfl ?_)
    refine n_nil ?_
    repeat (first | refine w_ret ?_ | refine w_seq ?_ | refine w_blk ?_ | refine z_seq ?_ | refine z_blk ?_ | refine w_skip ?_)
    refine z_r1 rfl rfl ?_
    refine ⟨0, [], true, rfl, Nat.zero_le _, ⟨_, _, gs_same _ _ _, ?_, ?_, ?_, BytesNew.nil _ _⟩, Nat.zero_le _, Kp.set (Kp.set (k1.dn (by omega)) (FRd.of h01) _) (FRd.of h01) _⟩
    · rw [splice_length (by rw [splice_length (by simp; omega)]; simp; omega), splice_length (by simp; omega)]; exact h2
    · rw [splice_get (by rw [splice_length (by simp; omega)]; simp; omega), if_pos (by simp)]; rfl
    · rw [splice_get (by rw [splice_length (by simp; omega)]; simp; omega), if_neg (by simp), splice_get (by simp; omega), if_pos (by simp)]; rfl
  · repeat (first | refine w_seq ?_ | refine w_blk ?_ | refine z_seq ?_ | refine z_blk ?_ | refine w_skip ?_)
    refine w_no rfl (decide_eq_false (by omega)) ?_
    repeat (first | refine w_seq ?_ | refine w_blk ?_ | refine z_seq ?_ | refine z_blk ?_ | refine w_skip ?_)
    refine w_reg 2 rfl rfl (j' := 9) ?_
    refine n_op .no (q := 7) rfl (s_mv rfl ?_)
    refine n_op .no (q := 8) rfl (s_as rfl ?_)
    refine n_nil ?_
    repeat (first | refine w_ret ?_ | refine w_seq ?_ | refine w_blk ?_ | refine z_seq ?_ | refine z_blk ?_ | refine w_skip ?_)
    refine z_r1 rfl rfl ?_
    exact ⟨m, bs1, bad1, rfl, by omega, hR, hlen, k1.dn (by omega)⟩

theorem rbool_c {g : Gm} {n b r : Nat} {bs : Bs} {bad : Bool} (h : RdAt b g r bs bad) :
    C 78 #[.pointer (some ⟨r, 0, none⟩)] g n fun u g' n' => ∃ t bs' bad', u = .bool t ∧ RdAt b g' r bs' bad' ∧ bs'.length ≤ bs.length ∧ Kp (FRd r) g n g' := by
  refine c_in1 Tryz.func78 rfl Tryz.ntmps78 rfl fun hw => ?_
  repeat (first | refine w_seq ?_ | refine w_blk ?_ | refine z_seq ?_ | refine z_blk ?_ | refine w_skip ?_)
  refine w_reg 1 rfl rfl (j' := 1) ?_
  refine n_op .no (q := 0) rfl (s_as rfl ?_)
  refine n_nil ?_
  repeat (first | refine w_seq ?_ | refine w_blk ?_ | refine z_seq ?_ | refine z_blk ?_ | refine w_skip ?_)
  refine w_reg 4 rfl rfl (j' := 5) ?_
  refine n_op .no (q := 1) rfl (s_mv rfl ?_)
  refine n_call .no rfl rfl rfl ?_
  refine C.use (rnum_c (s := 1) h (by decide) rfl) fun v g1 n1 hw1 hn1 hq => ?_
  obtain ⟨z, bs1, bad1, rfl, hR, hlen, hz, k1⟩ := hq
  refine n_op .no (q := 3) rfl (s_bin rfl rfl rfl ?_)
  refine n_op .no (q := 4) rfl (s_as rfl ?_)
  refine n_nil ?_
  repeat (first | refine w_ret ?_ | refine w_seq ?_ | refine w_blk ?_ | refine z_seq ?_ | refine z_blk ?_ | refine w_skip ?_)
  refine z_r1 rfl rfl ?_
  exact ⟨_, bs1, bad1, rfl, hR, hlen, k1.dn (by omega)⟩

theorem rend_c {g : Gm} {n b r : Nat} {bs : Bs} {bad : Bool} (h : RdAt b g r bs bad) :
    C 79 #[.pointer (some ⟨r, 0, none⟩)] g n fun u g' n' => (∃ t, u = .bool t) ∧ K0 g n g' := by
  obtain ⟨c, v, h1, h2, h3, h4, h5⟩ := h
  obtain ⟨av, cv, rfl⟩ := h5.len
  refine c_in1 Tryz.func79 rfl Tryz.ntmps79 rfl fun hw => ?_
  have hrn := hw _ _ h1
  repeat (first | refine w_seq ?_ | refine w_blk ?_ | refine z_seq ?_ | refine z_blk ?_ | refine w_skip ?_)
  refine w_reg 1 rfl rfl (j' := 1) ?_
  refine n_op .no (q := 0) rfl (s_as rfl ?_)
  refine n_nil ?_
  cases bad
  · repeat (first | refine w_seq ?_ | refine w_blk ?_ | refine z_seq ?_ | refine z_blk ?_ | refine w_skip ?_)
    refine w_reg 14 rfl rfl (j' := 15) ?_
    refine n_op .no (q := 1) rfl (s_mv rfl ?_)
    refine n_op .no (q := 2) rfl (s_nil rfl ?_)
    first | refine n_op .no (q := 3) rfl (s_fa0 rfl fo_188_2 ?_) | refine n_op .no (q := 3) rfl (s_fa rfl fo_188_2 ?_)
    refine n_op .no (q := 4) rfl (s_ld rfl (by repeat (first | exact gs_same _ _ _ | exact h1 | exact h3 | exact h4 | refine (gs_ne (by omega) _).trans ?_)) ag_4 (by first | exact rfl | exact h1 | exact h3 | exact h4) ?_)
    refine n_op .no (q := 5) rfl (s_not rfl ?_)
    refine n_op .no (q := 6) rfl (s_mv rfl ?_)
    refine n_op (.yes rfl rfl (rfl)) (q := 7) rfl (s_mv rfl ?_)
    refine n_op (.yes rfl rfl (rfl)) (q := 8) rfl (s_nil rfl ?_)
    first | refine n_op (.yes rfl rfl (rfl)) (q := 9) rfl (s_fa0 rfl fo_188_1 ?_) | refine n_op (.yes rfl rfl (rfl)) (q := 9) rfl (s_fa rfl fo_188_1 ?_)
    refine n_op (.yes rfl rfl (rfl)) (q := 10) rfl (s_ld rfl (by repeat (first | exact gs_same _ _ _ | exact h1 | exact h3 | exact h4 | refine (gs_ne (by omega) _).trans ?_)) ag_26 (by first | exact rfl | exact h1 | exact h3 | exact h4) ?_)
    refine n_op (.yes rfl rfl (rfl)) (q := 11) rfl (s_len rfl rfl un_26 rfl ?_)
    refine n_op (.yes rfl rfl (rfl)) (q := 12) rfl (s_bin rfl rfl rfl ?_)
    refine n_op .no (q := 13) rfl (s_pt rfl (rfl) rfl ?_)
    refine n_op .no (q := 14) rfl (s_as rfl ?_)
    refine n_nil ?_
    repeat (first | refine w_ret ?_ | refine w_seq ?_ | refine w_blk ?_ | refine z_seq ?_ | refine z_blk ?_ | refine w_skip ?_)
    refine z_r1 rfl rfl ?_
    exact ⟨⟨_, rfl⟩, (by repeat (first | exact Kp.refl _ _ _ | refine Kp.new ?_ (by omega) _))⟩
  · repeat (first | refine w_seq ?_ | refine w_blk ?_ | refine z_seq ?_ | refine z_blk ?_ | refine w_skip ?_)
    refine w_reg 14 rfl rfl (j' := 15) ?_
    refine n_op .no (q := 1) rfl (s_mv rfl ?_)
    refine n_op .no (q := 2) rfl (s_nil rfl ?_)
    first | refine n_op .no (q := 3) rfl (s_fa0 rfl fo_188_2 ?_) | refine n_op .no (q := 3) rfl (s_fa rfl fo_188_2 ?_)
    refine n_op .no (q := 4) rfl (s_ld rfl (by repeat (first | exact gs_same _ _ _ | exact h1 | exact h3 | exact h4 | refine (gs_ne (by omega) _).trans ?_)) ag_4 (by first | exact rfl | exact h1 | exact h3 | exact h4) ?_)
    refine n_op .no (q := 5) rfl (s_not rfl ?_)
    refine n_op .no (q := 6) rfl (s_mv rfl ?_)
    refine n_sk rfl rfl (rfl) ?_
    refine n_sk rfl rfl (rfl) ?_
    refine n_sk rfl rfl (rfl) ?_
    refine n_sk rfl rfl (rfl) ?_
    refine n_sk rfl rfl (rfl) ?_
    refine n_sk rfl rfl (rfl) ?_
    refine n_op .no (q := 13) rfl (s_pf rfl (rfl) rfl ?_)
    refine n_op .no (q := 14) rfl (s_as rfl ?_)
    refine n_nil ?_
    repeat (first | refine w_ret ?_ | refine w_seq ?_ | refine w_blk ?_ | refine z_seq ?_ | refine z_blk ?_ | refine w_skip ?_)
    refine z_r1 rfl rfl ?_
    exact ⟨⟨_, rfl⟩, (by repeat (first | exact Kp.refl _ _ _ | refine Kp.new ?_ (by omega) _))⟩

end Go.Proofs.YtehmailaabjdjaaGreat
end

section
open Go.Proofs
namespace Go.Proofs.YtehmailaabjdjaaGreat
set_option linter.unusedSimpArgs false
set_option linter.unusedVariables false
set_option maxRecDepth 100000

/-- Guards, writes in rows of one's own, all names from b on. -/
structure GdsOwn (b : Nat) (g : Gm) (v : Value) (gs : List Gd) : Prop where
  row : ∃ cs, SlOwn g 3 v gs.length cs ∧ Rows 3 (fun c x => c = gdC x) cs gs
  from_ : ∀ l, vname v = some l → b ≤ l
structure WrsOwn (b : Nat) (g : Gm) (v : Value) (ws : List Wr) : Prop where
  row : ∃ cs, SlOwn g 3 v ws.length cs ∧ Rows 3 (WrC (BytesNew b g)) cs ws
  from_ : ∀ l, vname v = some l → b ≤ l

/-- A row of three's own row may change. -/
def F3 (v : Value) (x : Nat) (o : AObj) : Prop := vname v = some x ∧ ∃ c, o = .cells c 3 false
theorem F3.nob (v : Value) : NoB (F3 v) := fun x cl ro h => by obtain ⟨_, c, e⟩ := h; cases e

theorem SlOwn.is {g : Gm} {k m : Nat} {v : Value} {cs : List Value} (h : SlOwn g k v m cs) {x : Nat} (hx : vname v = some x) : ∃ cl, g x = some (.cells cl k false) := by
  obtain ⟨_, ⟨rfl, _⟩ | ⟨l', o, c, cl, rfl, _, h4, _⟩⟩ := h
  · cases hx
  · simp only [vname, Option.some.injEq] at hx
    subst hx
    exact ⟨cl, h4⟩
theorem SlOwn.ne0 {g : Gm} {k m : Nat} {v : Value} {cs : List Value} (h : SlOwn g (k + 1) v m cs) {x : Nat} {c : List Value} {ro : Bool} (hx : g x = some (.cells c 0 ro)) : vname v ≠ some x := fun e => by
  obtain ⟨cl, hcl⟩ := h.is e
  rw [hcl] at hx; cases hx

section
variable {F : Nat → AObj → Prop} {g g' : Gm} {n b r : Nat} {v w : Value} {gs : List Gd} {ws : List Wr}

theorem GdsOwn.rd (h : GdsOwn b g v gs) : GdsRd g v gs := by
  obtain ⟨⟨cs, h1, h2⟩, _⟩ := h
  exact ⟨cs, h1.slc, h2⟩
theorem WrsOwn.rd (h : WrsOwn b g v ws) : WrsRd g v ws := by
  obtain ⟨⟨cs, h1, h2⟩, _⟩ := h
  exact ⟨cs, h1.slc, h2.mono fun c x _ hx => hx.mono fun _ _ k => k.at⟩
theorem GdsOwn.nil (b : Nat) (g : Gm) : GdsOwn b g (.slice none 0 0) [] := ⟨⟨[], SlOwn.nil _ _, rfl⟩, fun l h => by cases h⟩
theorem WrsOwn.nil (b : Nat) (g : Gm) : WrsOwn b g (.slice none 0 0) [] := ⟨⟨[], SlOwn.nil _ _, rfl⟩, fun l h => by cases h⟩
theorem GdsOwn.kp (h : GdsOwn b g v gs) (hk : Kp F g n g') (hw : WF g n) (hv : Off F g v) : GdsOwn b g' v gs := by
  obtain ⟨⟨cs, h1, h2⟩, h3⟩ := h
  exact ⟨⟨cs, h1.kp hk hw hv, h2⟩, h3⟩
theorem WrsOwn.kp (h : WrsOwn b g v ws) (hk : Kp F g n g') (hw : WF g n) (hF : NoB F) (hv : Off F g v) : WrsOwn b g' v ws := by
  obtain ⟨⟨cs, h1, h2⟩, h3⟩ := h
  exact ⟨⟨cs, h1.kp hk hw hv, h2.mono fun c x _ hx => hx.mono fun _ _ k => k.kp hk hw hF⟩, h3⟩
theorem GdsOwn.kp0 (h : GdsOwn b g v gs) (hk : K0 g n g') (hw : WF g n) : GdsOwn b g' v gs := h.kp hk hw (Off.z g v)
theorem WrsOwn.kp0 (h : WrsOwn b g v ws) (hk : K0 g n g') (hw : WF g n) : WrsOwn b g' v ws := h.kp hk hw NoB.z (Off.z g v)
theorem GdsOwn.is (h : GdsOwn b g v gs) {x : Nat} (hx : vname v = some x) : ∃ cl, g x = some (.cells cl 3 false) := by
  obtain ⟨⟨cs, h1, _⟩, _⟩ := h; exact h1.is hx
theorem WrsOwn.is (h : WrsOwn b g v ws) {x : Nat} (hx : vname v = some x) : ∃ cl, g x = some (.cells cl 3 false) := by
  obtain ⟨⟨cs, h1, _⟩, _⟩ := h; exact h1.is hx
theorem off_fr {x : Nat} (h : ∀ x, vname v = some x → ∃ cl, g x = some (.cells cl 3 false)) : Off (FRd x) g v := fun l o hl ho hf => by
  obtain ⟨cl, hcl⟩ := h l hl
  obtain ⟨_, c, q, rfl⟩ := hf
  rw [hcl] at ho; cases ho
theorem ne_of3 {x : Nat} {c : List Value} {ro : Bool} (h : ∀ x, vname v = some x → ∃ cl, g x = some (.cells cl 3 false)) (hx : g x = some (.cells c 0 ro)) : vname v ≠ some x := fun e => by
  obtain ⟨cl, hcl⟩ := h x e
  rw [hcl] at hx; cases hx
theorem RdAt.kp {bs : Bs} {bad : Bool} (h : RdAt b g r bs bad) (hk : Kp F g n g') (hw : WF g n) (hF : NoB F) (h0 : ∀ c, ¬ F r (.cells c 0 false)) : RdAt b g' r bs bad := by
  obtain ⟨c, v, q1, q2, q3, q4, q5⟩ := h
  exact ⟨c, v, hk.at hw q1 (h0 c), q2, q3, q4, q5.kp hk hw hF⟩
theorem RdAt.fr {l : Nat} {bs : Bs} {bad : Bool} (h : RdAt b g r bs bad) (hk : Kp (FRd l) g n g') (hw : WF g n) (hne : r ≠ l) : RdAt b g' r bs bad := h.kp hk hw (FRd.nob l) fun c hf => hne hf.1
theorem RdAt.f3 {bs : Bs} {bad : Bool} (h : RdAt b g r bs bad) (hk : Kp (F3 v) g n g') (hw : WF g n) : RdAt b g' r bs bad := h.kp hk hw (F3.nob v) fun c hf => by obtain ⟨_, c', e⟩ := hf; cases e
end

theorem app37 : AppT E6.P 37 37 3 32 := ⟨36, _, un_37, sz_36, by_36, zp_36, rfl, by decide, by decide, by rw [un_37]; rfl⟩
theorem app40 : AppT E6.P 40 40 3 48 := ⟨39, _, un_40, sz_39, by_39, zp_39, rfl, by decide, by decide, by rw [un_40]; rfl⟩

/-- A row of guards that is appended to. -/
theorem GdsOwn.app {b nm : Nat} {g g' : Gm} {v : Value} {gs : List Gd} {x : Gd} {a : Option Addr} {c : Nat} {cs ds : List Value} (h : Rows 3 (fun c x => c = gdC x) cs gs) (hf : ∀ l, vname v = some l → b ≤ l) (hd : ds = gdC x) (hr : SlOwn g' 3 (.slice a (gs.length + 1) c) (gs.length + 1) (cs ++ ds)) (hg : Gr g g' nm v (.slice a (gs.length + 1) c)) (hb : b ≤ nm) : GdsOwn b g' (.slice a (gs.length + 1) c) (gs ++ [x]) := by
  subst hd
  refine ⟨⟨_, by rw [List.length_append]; exact hr, Rows.append h (Rows.one rfl rfl)⟩, fun l hl => ?_⟩
  rcases hg.name with q | q | q
  · rw [q] at hl; cases hl
  · rw [q] at hl; exact hf l hl
  · rw [q] at hl; cases hl; exact hb
theorem gr_f3 {g0 g g' : Gm} {n nm : Nat} {v w : Value} (hg : Gr g g' nm v w) (hk : K0 g0 n g) (hn : n ≤ nm) (h3 : ∀ x, vname v = some x → ∃ cl, g0 x = some (.cells cl 3 false)) : Kp (F3 v) g0 n g' :=
  hg.kp hk.z hn fun l hl => .inr fun o ho => by
    obtain ⟨cl, hcl⟩ := h3 l hl
    rw [hcl] at ho; cases ho
    exact ⟨hl, _, rfl⟩

theorem C.useG {f : FuncId} {args : Array Value} {g : Gm} {n : Nat} {R R' : Value → Gm → Nat → Prop} (h : C f args g n R) (k : ∀ v g' n', WF g' n' → n ≤ n' → (∀ l, l < n → g l = none → g' l = none) → R v g' n' → R' v g' n') : C f args g n R' :=
  ⟨h.out.strong.mono fun v τ ⟨h1, h2, h3, h4⟩ => k v τ.get τ.nxt h2 h3 h4 h1⟩
theorem WF.none {g : Gm} {n l : Nat} (h : WF g n) (hl : n ≤ l) : g l = none := by
  cases hg : g l with
  | none => rfl
  | some o => exact absurd (h _ _ hg) (by omega)
theorem Kp.add {F : Nat → AObj → Prop} {g g' : Gm} {n l : Nat} (h : Kp F g n g') (hl : g l = none) (o : AObj) : Kp F g n (gset g' l o) := fun x o' hx ho hf => by
  by_cases e : x = l
  · subst e; rw [hl] at ho; cases ho
  · rw [gs_ne e]; exact h x o' hx ho hf
theorem Kp.low0 {F : Nat → AObj → Prop} {g g' : Gm} {n q : Nat} (h : Kp F g n g') (hF : ∀ x o, F x o → q ≤ x) (hq : q ≤ n) : K0 g q g' := fun x o hx ho _ => h x o (by omega) ho fun hf => by have := hF x o hf; omega
theorem Gr.kpn {g g' : Gm} {n nm : Nat} {v w : Value} (hg : Gr g g' nm v w) (hn : g nm = none) (h3 : ∀ x, vname v = some x → ∃ cl, g x = some (.cells cl 3 false)) : Kp (F3 v) g n g' := fun x o hx ho hf => by
  by_cases e : vname v = some x
  · obtain ⟨cl, hcl⟩ := h3 x e
    rw [hcl] at ho; cases ho
    exact absurd ⟨e, _, rfl⟩ hf
  · by_cases e2 : x = nm
    · subst e2; rw [hn] at ho; cases ho
    · rw [hg.same x e2 e]; exact ho

section
variable {N : Nat} {f : Nat → Value} {s : Sls} {g : Gm} {n nm : Nat} {k : Sls → Gm → List Nat → List Nat → Prop} {d : Tmp} {ty : TypeId} {pos : String} {af : Array Edge} {gd : Option (Nat × Bool)}
theorem s_s2b' {x : Operand} {bs : List UInt8} (hx : ov N s x = some (.string (str bs)))
    (hk : ∀ tc wr, k ((d, .slice (some ⟨nm, 0, none⟩) bs.length bs.length) :: s) (gset g nm (.cells (u8c bs) 1 false)) tc wr) : ST N f s g n nm ⟨some d, .convert 9 26 x, ty, pos, af, gd⟩ k :=
  s_s2b un_9 un_26 un_5 hx fun tc wr => by rw [str_size, str_list]; exact hk tc wr
end

def zC : List Value := [.int .i64 0, .int .i64 0, .int .i64 0, .string .empty, .int .i64 0, .slice none 0 0, .slice none 0 0]

theorem get_c {g : Gm} {n : Nat} {v : Value} {bs : Bs} (h : BytesAt g v bs) (hl : bs.length ≤ 2 ^ 30) :
    C 33 #[v] g n fun u g' n' => ∃ x gv wv ok, u = .tuple #[.agg (calC x gv wv).toArray, .bool ok] ∧ GdsOwn n g' gv x.gs ∧ WrsOwn n g' wv x.ws ∧ (ok = true → x.put = bs ∧ bs ≠ []) ∧ (ok = false → x = Cal.zero) ∧ (x.gs.length ≤ bs.length ∧ x.ws.length ≤ bs.length) ∧ K0 g n g' := by
  obtain ⟨a, c, rfl⟩ := h.len
  refine c_in1 Tryz.func33 rfl Tryz.ntmps33 rfl fun hw => ?_
  repeat (first | refine w_seq ?_ | refine w_blk ?_ | refine z_seq ?_ | refine z_blk ?_ | refine w_skip ?_)
  refine w_reg 2 rfl rfl (j' := 2) ?_
  refine n_op .no (q := 0) rfl (s_al zl_55 ?_)
  refine n_op .no (q := 1) rfl (s_as rfl ?_)
  refine n_nil ?_
  repeat (first | refine w_seq ?_ | refine w_blk ?_ | refine z_seq ?_ | refine z_blk ?_ | refine w_skip ?_)
  refine w_reg 3 rfl rfl (j' := 5) ?_
  refine n_op .no (q := 2) rfl (s_mv rfl ?_)
  refine n_call .no rfl rfl rfl ?_
  refine C.use (newReader_c (h.kp0 (n := n) (by repeat (first | exact Kp.refl _ _ _ | refine Kp.new ?_ (by omega) _)) hw) (by omega)) fun v g1 n1 hw1 hn1 hq => ?_
  obtain ⟨r, rfl, hr1, hr2, hR1, k1⟩ := hq
  refine n_op .no (q := 4) rfl (s_as rfl ?_)
  refine n_nil ?_
  repeat (first | refine w_seq ?_ | refine w_blk ?_ | refine z_seq ?_ | refine z_blk ?_ | refine w_skip ?_)
  refine w_reg 13 rfl rfl (j' := 13) ?_
  refine n_op .no (q := 0) rfl (s_mv rfl ?_)
  refine n_call .no rfl rfl rfl ?_
  refine C.useG (rnum_c (s := 1) hR1 (by decide) rfl) fun v g2 n2 hw2 hn2 hx2 hq => ?_
  obtain ⟨z1, b1, d1, rfl, hR2, l2, -, k2⟩ := hq
  refine n_op .no (q := 2) rfl (s_mv rfl ?_)
  refine n_call .no rfl rfl rfl ?_
  refine C.useG (rnum_c (s := 1) hR2 (by decide) rfl) fun v g3 n3 hw3 hn3 hx3 hq => ?_
  obtain ⟨z2, b2, d2, rfl, hR3, l3, -, k3⟩ := hq
  refine n_op .no (q := 4) rfl (s_mv rfl ?_)
  refine n_call .no rfl rfl rfl ?_
  refine C.useG (rnum_c (s := 8) hR3 (by decide) rfl) fun v g4 n4 hw4 hn4 hx4 hq => ?_
  obtain ⟨z3, b3, d3, rfl, hR4, l4, -, k4⟩ := hq
  refine n_op .no (q := 6) rfl (s_mv rfl ?_)
  refine n_call .no rfl rfl rfl ?_
  refine C.useG (rtext_c hR4) fun v g5 n5 hw5 hn5 hx5 hq => ?_
  obtain ⟨t, b4, d4, rfl, hR5, l5, k5⟩ := hq
  refine n_op .no (q := 8) rfl (s_mv rfl ?_)
  refine n_call .no rfl rfl rfl ?_
  refine C.useG (rnum_c (s := 8) hR5 (by decide) rfl) fun v g6 n6 hw6 hn6 hx6 hq => ?_
  obtain ⟨z4, b5, d5, rfl, hR6, l6, -, k6⟩ := hq
  refine n_op .no (q := 10) rfl (s_bld pl_55 zl_55 rfl rfl rfl ?_)
  refine n_op .no (q := 11) rfl (s_al zl_55 ?_)
  refine n_op .no (q := 12) rfl (s_stw rfl rfl sz_55 rfl (by repeat (first | exact gs_same _ _ _ | refine (gs_ne (by omega) _).trans ?_)) (by exact rfl) rfl ?_)
  refine n_nil ?_
  repeat (first | refine w_seq ?_ | refine w_blk ?_ | refine z_seq ?_ | refine z_blk ?_ | refine w_skip ?_)
  refine w_gen fun g9 n9 hg9 hn9 hwg9 => ?_
  have c9 : g9 (n1 + 11) = some (.cells [.int .i64 z2, .int .i64 z3, .int .i64 z1, .string (str t), .int .i64 z4, .slice none 0 0, .slice none 0 0] 0 false) := by rw [hg9]; exact gs_same _ _ _
  have fr : g6 (n1 + 11) = none := hx6 _ (by omega) (hx5 _ (by omega) (hx4 _ (by omega) (hx3 _ (by omega) (hx2 _ (by omega) (hw1.none (by omega))))))
  have k69 : K0 g6 n6 g9 := by rw [hg9]; exact Kp.add (Kp.add (Kp.refl _ _ _) fr _) fr _
  have k16 : Kp (FRd r) g1 n1 g6 := ((((k2.dn (by omega)).tr k3 (by omega)).tr k4 (by omega)).tr k5 (by omega)).tr k6 (by omega)
  have hR9 := hR6.kp0 k69 hw6
  have k19 : Kp (FRd r) g1 n1 g9 := k16.trans0 k69 (by omega)
  have e9 : g9 n = some (.cells zC 0 false) := k19.rloc (by omega) (by omega) (k1.lt (by omega) (gs_same _ _ _))
  have k9 : K0 g n g9 := Kp.trans0 (n' := n) (by repeat (first | exact Kp.refl _ _ _ | refine Kp.new ?_ (by omega) _)) ((k1.trans0 (k19.rfw (q := n + 5) hr1 (by omega)) (Nat.le_refl _)).dn (by omega)) (Nat.le_refl _)
  clear hg9 k69 k16 fr hR6 hR5 hR4 hR3 hR2
  repeat (first | refine w_seq ?_ | refine w_blk ?_ | refine z_seq ?_ | refine z_blk ?_ | refine w_skip ?_)
  refine w_reg 3 rfl rfl (j' := 3) ?_
  refine n_op .no (q := 0) rfl (s_mv rfl ?_)
  refine n_call .no rfl rfl rfl ?_
  refine C.use (rcount_c hR9) fun v g10 n10 hw10 hn10 hq => ?_
  obtain ⟨m, b6, d6, rfl, hm, hR10, l10, k10⟩ := hq
  have c10 := k10.rloc (by omega) (by omega) c9
  have e10 := k10.rloc (by omega) (by omega) e9
  have kk10 : K0 g n g10 := k9.trans0 (k10.rfw (q := n) (by omega) (by omega)) (Nat.le_refl _)
  refine n_op .no (q := 2) rfl (s_mv rfl ?_)
  refine n_nil ?_
  refine z_seq ?_
  refine z_meet (β := Unit) (fun _ => [(0, .slice a bs.length c), (2, .pointer (some ⟨n, 0, none⟩)), (3, .bool false), (4, .pointer (some ⟨r, 0, none⟩)), (5, .pointer (some ⟨n1 + 11, 0, none⟩))])
    (fun _ g' n' => n9 ≤ n' ∧ K0 g n g' ∧ g' n = some (.cells zC 0 false) ∧ ∃ gs gv bs' bad', gs.length ≤ bs.length ∧ bs'.length ≤ bs.length ∧ GdsOwn n g' gv gs ∧ RdAt (n + 5) g' r bs' bad' ∧ g' (n1 + 11) = some (.cells [.int .i64 z2, .int .i64 z3, .int .i64 z1, .string (str t), .int .i64 z4, gv, .slice none 0 0] 0 false)) ?_ ?_
  · repeat (first | refine w_seq ?_ | refine w_blk ?_ | refine z_seq ?_ | refine z_blk ?_ | refine w_skip ?_)
    refine w_loop (β := Nat) (fun i => [(0, .slice a bs.length c), (2, .pointer (some ⟨n, 0, none⟩)), (3, .bool false), (4, .pointer (some ⟨r, 0, none⟩)), (5, .pointer (some ⟨n1 + 11, 0, none⟩)), (20, .int .i64 (m : Int)), (21, .int .i64 (i : Int))])
      (fun i g' n' => i ≤ m ∧ n9 ≤ n' ∧ K0 g n g' ∧ g' n = some (.cells zC 0 false) ∧ ∃ gs gv bs' bad', gs.length = i ∧ bs'.length ≤ bs.length ∧ GdsOwn n g' gv gs ∧ RdAt (n + 5) g' r bs' bad' ∧ g' (n1 + 11) = some (.cells [.int .i64 z2, .int .i64 z3, .int .i64 z1, .string (str t), .int .i64 z4, gv, .slice none 0 0] 0 false)) (fun i => m - i) 0
      ⟨rfl, rfl, rfl, rfl, rfl, rfl, rfl, trivial⟩ ⟨by omega, by omega, kk10, e10, [], _, b6, d6, rfl, by omega, GdsOwn.nil _ _, hR10, c10⟩ ?_
    rintro i f gL nL hwL ⟨hi, hnL, kL, eL, gs, gv, bL, dL, rfl, hbL, hG, hR, cL⟩
    obtain ⟨ag, cg, rfl⟩ := hG.rd.len
    repeat (first | refine w_seq ?_ | refine w_blk ?_ | refine z_seq ?_ | refine z_blk ?_ | refine w_skip ?_)
    refine w_reg 1 rfl rfl (j' := 1) ?_
    refine n_op .no (q := 0) rfl (s_bin rfl rfl rfl ?_)
    refine n_nil ?_
    repeat (first | refine w_seq ?_ | refine w_blk ?_ | refine z_seq ?_ | refine z_blk ?_ | refine w_skip ?_)
    refine w_if rfl (fun hc => ?_) (fun hc => ?_)
    · have hc : gs.length < m := by simpa using hc
      repeat (first | refine w_seq ?_ | refine w_blk ?_ | refine z_seq ?_ | refine z_blk ?_ | refine w_skip ?_)
      refine w_drw (T6 33 5) [(0, []), (1, []), (2, []), (3, [2]), (5, [2]), (7, [2]), (4, [2]), (6, [2]), (8, [2]), (9, [2]), (10, [2]), (11, []), (12, []), (13, []), (14, [])] 15 (by kernel_rfl) rfl rfl (j' := 16) ?_
      first | refine d_op rfl rfl .no (q := 1) rfl (s_fa0 rfl fo_55_5 ⟨⟨rfl, rfl⟩, ?_⟩) | refine d_op rfl rfl .no (q := 1) rfl (s_fa rfl fo_55_5 ⟨⟨rfl, rfl⟩, ?_⟩)
      first | refine d_op rfl rfl .no (q := 2) rfl (s_fa0 rfl fo_42_0 ⟨⟨rfl, rfl⟩, ?_⟩) | refine d_op rfl rfl .no (q := 2) rfl (s_fa rfl fo_42_0 ⟨⟨rfl, rfl⟩, ?_⟩)
      refine d_tc rfl rfl rfl .no (q := 3) rfl (s_ld rfl (by repeat (first | exact gs_same _ _ _ | exact cL | refine (gs_ne (by omega) _).trans ?_)) ag_37 (by first | exact rfl | exact cL) ⟨clash_nil, ?_⟩)
      refine d_op rfl rfl .no (q := 4) rfl (s_mv rfl ⟨⟨rfl, rfl⟩, ?_⟩)
      refine d_op rfl rfl .no (q := 6) rfl (s_mv rfl ⟨⟨rfl, rfl⟩, ?_⟩)
      refine d_op rfl rfl .no (q := 8) rfl (s_mv rfl ⟨⟨rfl, rfl⟩, ?_⟩)
      refine d_call rfl .no rfl rfl rfl (call_rd rfl) ?_
      refine C.useG (rtext_c hR) fun v g2 n2 hw2 hn2 hx2 hq => ?_
      obtain ⟨key, bL2, dL2, rfl, hR2, l2, j2⟩ := hq
      refine ⟨?_, ?_⟩
      · repeat' (first | exact trivial | exact (j2.rloc (by omega) (by omega) cL).trans cL.symm | apply And.intro)
      have cL2 := j2.rloc (by omega) (by omega) cL
      refine d_call rfl .no rfl rfl rfl (call_rd rfl) ?_
      refine C.useG (rnum_c (s := 8) hR2 (by decide) rfl) fun v g3 n3 hw3 hn3 hx3 hq => ?_
      obtain ⟨zr, bL3, dL3, rfl, hR3, l3, -, j3⟩ := hq
      refine ⟨?_, ?_⟩
      · repeat' (first | exact trivial | exact (j3.rloc (by omega) (by omega) cL2).trans cL2.symm | apply And.intro)
      have cL3 := j3.rloc (by omega) (by omega) cL2
      refine d_call rfl .no rfl rfl rfl (call_rd rfl) ?_
      refine C.useG (rbool_c hR3) fun v g4 n4 hw4 hn4 hx4 hq => ?_
      obtain ⟨ub, bL4, dL4, rfl, hR4, l4, j4⟩ := hq
      refine ⟨?_, ?_⟩
      · repeat' (first | exact trivial | exact (j4.rloc (by omega) (by omega) cL3).trans cL3.symm | apply And.intro)
      have cL4 := j4.rloc (by omega) (by omega) cL3
      have jj : Kp (FRd r) gL nL g4 := ((j2.dn (by omega)).tr j3 (by omega)).tr j4 (by omega)
      have fr : ∀ l, nL ≤ l → l < nL + 16 → g4 l = none := fun l q1 q2 => hx4 _ (by omega) (hx3 _ (by omega) (hx2 _ (by omega) (hwL.none q1)))
      have hG4 := hG.kp jj hwL (off_fr fun _ => hG.is)
      obtain ⟨⟨cs, s1, s2⟩, s3⟩ := hG4
      have ka : K0 g4 n4 (gset g4 (nL + 11) (.cells [.string (str key), .int .i64 zr, .bool ub] 3 false)) := Kp.add (Kp.refl _ _ _) (fr _ (by omega) (by omega)) _
      refine d_op rfl rfl .no (q := 10) rfl (s_bld pl_36 zl_36 rfl rfl rfl ⟨⟨rfl, rfl⟩, ?_⟩)
      refine d_al rfl rfl rfl .no (q := 11) rfl (s_bs el_37 ez_37 rfl rfl rfl ?_)
      refine d_tc rfl rfl rfl .no (q := 12) rfl (s_app app37 rfl rfl (s1.kp0 ka hw4) (src_one (gs_same _ _ _) rfl) rfl (by omega) fun aw cw g5 tc wr hrow hg => ⟨clash_nil, ?_⟩)
      have kf : Kp (F3 (.slice ag gs.length cg)) g4 n4 g5 := fun x o hx ho hf => by
        by_cases e : vname (.slice ag gs.length cg) = some x
        · obtain ⟨cl, hcl⟩ := s1.is e
          rw [hcl] at ho; cases ho
          exact absurd ⟨e, _, rfl⟩ hf
        · by_cases e2 : x = nL + 12
          · subst e2; rw [fr _ (by omega) (by omega)] at ho; cases ho
          · rw [hg.same x e2 e]; exact ka x o hx ho id
      have hG5 : GdsOwn n g5 (.slice aw (gs.length + 1) cw) (gs ++ [⟨key, zr, ub⟩]) := GdsOwn.app s2 s3 rfl hrow hg (by omega)
      have c5 := kf.at hw4 cL4 (fun hf => by obtain ⟨_, c', e⟩ := hf; cases e)
      have e5 := kf.at hw4 (j4.rloc (by omega) (by omega) (j3.rloc (by omega) (by omega) (j2.rloc (by omega) (by omega) eL))) (fun hf => by obtain ⟨_, c', e⟩ := hf; cases e)
      have R5 := hR4.f3 kf hw4
      have kk5 : K0 g n g5 := (kL.trans0 (jj.rfw (q := n) (by omega) (by omega)) (Nat.le_refl _)).trans0 (kf.low0 (q := n) (fun x o hf => s3 x hf.1) (by omega)) (Nat.le_refl _)
      first | refine d_op rfl rfl .no (q := 13) rfl (s_fa0 rfl fo_55_5 ⟨⟨rfl, rfl⟩, ?_⟩) | refine d_op rfl rfl .no (q := 13) rfl (s_fa rfl fo_55_5 ⟨⟨rfl, rfl⟩, ?_⟩)
      first | refine d_op rfl rfl .no (q := 14) rfl (s_fa0 rfl fo_42_0 ⟨⟨rfl, rfl⟩, ?_⟩) | refine d_op rfl rfl .no (q := 14) rfl (s_fa rfl fo_42_0 ⟨⟨rfl, rfl⟩, ?_⟩)
      refine d_tc rfl rfl rfl .no (q := 15) rfl (s_st rfl rfl sz_37 (by repeat (first | exact gs_same _ _ _ | exact c5 | refine (gs_ne (by omega) _).trans ?_)) rfl rfl (by exact rfl) ⟨clash_nil, ?_⟩)
      refine d_nil ?_
      repeat (first | refine w_seq ?_ | refine w_blk ?_ | refine z_seq ?_ | refine z_blk ?_ | refine w_skip ?_)
      repeat (first | refine w_seq ?_ | refine w_blk ?_ | refine z_seq ?_ | refine z_blk ?_ | refine w_skip ?_)
      refine w_reg 2 rfl rfl (j' := 2) ?_
      first | refine n_op .no (q := 0) rfl (s_bin rfl rfl (bi_inc (by omega)) ?_) | refine n_op .no (q := 0) rfl (s_bin rfl rfl (bi_add rfl (by omega) (by omega)) ?_)
      refine n_op .no (q := 1) rfl (s_mv rfl ?_)
      refine n_nil ?_
      have kz : ∀ o, Kp (FRd (n1 + 11)) g5 n4 (gset g5 (n1 + 11) o) := fun o => Kp.set (Kp.refl _ _ _) (FRd.of c5) o
      have hw5 : WF g5 n4 := fun x o ho => by
        by_cases e2 : x = nL + 12
        · omega
        · by_cases e : vname (.slice ag gs.length cg) = some x
          · have := hw4 _ _ (s1.is e).choose_spec; omega
          · rw [hg.same x e2 e] at ho
            by_cases e3 : x = nL + 11
            · omega
            · rw [gs_ne e3] at ho; exact hw4 _ _ ho
      refine z_round (gs.length + 1) ⟨rfl, rfl, rfl, rfl, rfl, rfl, rfl, trivial⟩ ⟨hc, by omega, kk5.trans0 ((kz _).low0 (q := n) (fun x o hf => by have := hf.1; omega) (by omega)) (Nat.le_refl _), (kz _).rloc (by omega) (by omega) e5, _, _, bL4, dL4, by simp, by omega, hG5.kp (kz _) hw5 (off_fr fun _ => hG5.is), R5.fr (kz _) hw5 (by omega), gs_same _ _ _⟩ (by omega)
    · refine w_exit rfl ?_
      exact z_met () ⟨rfl, rfl, rfl, rfl, rfl, trivial⟩ ⟨by omega, kL, eL, gs, _, bL, dL, by omega, hbL, hG, hR, cL⟩
  rintro _ f g11 n11 hw11 ⟨hn11, k11, e11, gs, gv, bm, dm, hgl, hbm, hG, hRm, c11⟩
  clear k10 c10 e10 kk10 hR10 c9 hR9 k19 e9 k9 k1 k2 k3 k4 k5 k6 hx2 hx3 hx4 hx5 hx6 hR1
  obtain ⟨ag, cg, rfl⟩ := hG.rd.len
  repeat (first | refine w_seq ?_ | refine w_blk ?_ | refine z_seq ?_ | refine z_blk ?_ | refine w_skip ?_)
  refine w_reg 3 rfl rfl (j' := 3) ?_
  refine n_op .no (q := 0) rfl (s_mv rfl ?_)
  refine n_call .no rfl rfl rfl ?_
  refine C.use (rcount_c hRm) fun v g20 n20 hw20 hn20 hq => ?_
  obtain ⟨m2, b20, d20, rfl, hm2, hR20, l20, k20⟩ := hq
  have c20 := k20.rloc (by omega) (by omega) c11
  have e20 := k20.rloc (by omega) (by omega) e11
  have hG20 := hG.kp (n := n11) (k20.dn (by omega)) hw11 (off_fr fun _ => hG.is)
  have kk20 : K0 g n g20 := k11.trans0 (k20.rfw (q := n) (by omega) (by omega)) (Nat.le_refl _)
  refine n_op .no (q := 2) rfl (s_mv rfl ?_)
  refine n_nil ?_
  refine z_seq ?_
  refine z_meet (β := Unit) (fun _ => [(0, .slice a bs.length c), (2, .pointer (some ⟨n, 0, none⟩)), (3, .bool false), (4, .pointer (some ⟨r, 0, none⟩)), (5, .pointer (some ⟨n1 + 11, 0, none⟩))])
    (fun _ g' n' => n9 ≤ n' ∧ K0 g n g' ∧ g' n = some (.cells zC 0 false) ∧ ∃ ws wv bs' bad', ws.length ≤ bs.length ∧ GdsOwn n g' (.slice ag gs.length cg) gs ∧ WrsOwn n g' wv ws ∧ RdAt (n + 5) g' r bs' bad' ∧ g' (n1 + 11) = some (.cells [.int .i64 z2, .int .i64 z3, .int .i64 z1, .string (str t), .int .i64 z4, .slice ag gs.length cg, wv] 0 false)) ?_ ?_
  · repeat (first | refine w_seq ?_ | refine w_blk ?_ | refine z_seq ?_ | refine z_blk ?_ | refine w_skip ?_)
    refine w_loop (β := Nat) (fun i => [(0, .slice a bs.length c), (2, .pointer (some ⟨n, 0, none⟩)), (3, .bool false), (4, .pointer (some ⟨r, 0, none⟩)), (5, .pointer (some ⟨n1 + 11, 0, none⟩)), (39, .int .i64 (m2 : Int)), (40, .int .i64 (i : Int))])
      (fun i g' n' => i ≤ m2 ∧ n9 ≤ n' ∧ K0 g n g' ∧ g' n = some (.cells zC 0 false) ∧ ∃ ws wv bs' bad', ws.length = i ∧ GdsOwn n g' (.slice ag gs.length cg) gs ∧ WrsOwn n g' wv ws ∧ (∀ x, vname (.slice ag gs.length cg) = some x → vname wv ≠ some x) ∧ RdAt (n + 5) g' r bs' bad' ∧ g' (n1 + 11) = some (.cells [.int .i64 z2, .int .i64 z3, .int .i64 z1, .string (str t), .int .i64 z4, .slice ag gs.length cg, wv] 0 false)) (fun i => m2 - i) 0
      ⟨rfl, rfl, rfl, rfl, rfl, rfl, rfl, trivial⟩ ⟨by omega, by omega, kk20, e20, [], _, b20, d20, rfl, hG20, WrsOwn.nil _ _, (fun x _ h => by cases h), hR20, c20⟩ ?_
    rintro i f gL nL hwL ⟨hi, hnL, kL, eL, ws, wv, bL, dL, rfl, hG, hW, hne, hR, cL⟩
    obtain ⟨aw, cw, rfl⟩ := hW.rd.len
    repeat (first | refine w_seq ?_ | refine w_blk ?_ | refine z_seq ?_ | refine z_blk ?_ | refine w_skip ?_)
    refine w_reg 1 rfl rfl (j' := 1) ?_
    refine n_op .no (q := 0) rfl (s_bin rfl rfl rfl ?_)
    refine n_nil ?_
    repeat (first | refine w_seq ?_ | refine w_blk ?_ | refine z_seq ?_ | refine z_blk ?_ | refine w_skip ?_)
    refine w_if rfl (fun hc => ?_) (fun hc => ?_)
    · have hc : ws.length < m2 := by simpa using hc
      repeat (first | refine w_seq ?_ | refine w_blk ?_ | refine z_seq ?_ | refine z_blk ?_ | refine w_skip ?_)
      refine w_drw (T6 33 9) [(0, []), (1, []), (2, []), (3, [2]), (5, [2]), (8, [2]), (4, [2]), (6, [2]), (9, [2]), (7, [2, 9]), (10, [2]), (11, [2]), (12, []), (13, []), (14, []), (15, [])] 16 (by kernel_rfl) rfl rfl (j' := 17) ?_
      first | refine d_op rfl rfl .no (q := 1) rfl (s_fa0 rfl fo_55_5 ⟨⟨rfl, rfl⟩, ?_⟩) | refine d_op rfl rfl .no (q := 1) rfl (s_fa rfl fo_55_5 ⟨⟨rfl, rfl⟩, ?_⟩)
      first | refine d_op rfl rfl .no (q := 2) rfl (s_fa0 rfl fo_42_1 ⟨⟨rfl, rfl⟩, ?_⟩) | refine d_op rfl rfl .no (q := 2) rfl (s_fa rfl fo_42_1 ⟨⟨rfl, rfl⟩, ?_⟩)
      refine d_tc rfl rfl rfl .no (q := 3) rfl (s_ld rfl (by repeat (first | exact gs_same _ _ _ | exact cL | refine (gs_ne (by omega) _).trans ?_)) ag_40 (by first | exact rfl | exact cL) ⟨clash_nil, ?_⟩)
      refine d_op rfl rfl .no (q := 4) rfl (s_mv rfl ⟨⟨rfl, rfl⟩, ?_⟩)
      refine d_op rfl rfl .no (q := 6) rfl (s_mv rfl ⟨⟨rfl, rfl⟩, ?_⟩)
      refine d_op rfl rfl .no (q := 9) rfl (s_mv rfl ⟨⟨rfl, rfl⟩, ?_⟩)
      refine d_call rfl .no rfl rfl rfl (call_rd rfl) ?_
      refine C.useG (rtext_c hR) fun v g2 n2 hw2 hn2 hx2 hq => ?_
      obtain ⟨key, bL2, dL2, rfl, hR2, l2, j2⟩ := hq
      refine ⟨?_, ?_⟩
      · repeat' (first | exact trivial | exact (j2.rloc (by omega) (by omega) cL).trans cL.symm | apply And.intro)
      have cL2 := j2.rloc (by omega) (by omega) cL
      refine d_call rfl .no rfl rfl rfl (call_rd rfl) ?_
      refine C.useG (rtext_c hR2) fun v g3 n3 hw3 hn3 hx3 hq => ?_
      obtain ⟨val, bL3, dL3, rfl, hR3, l3, j3⟩ := hq
      refine ⟨?_, ?_⟩
      · repeat' (first | exact trivial | exact (j3.rloc (by omega) (by omega) cL2).trans cL2.symm | apply And.intro)
      have cL3 := j3.rloc (by omega) (by omega) cL2
      refine d_call rfl .no rfl rfl rfl (call_rd rfl) ?_
      refine C.useG (rbool_c hR3) fun v g4 n4 hw4 hn4 hx4 hq => ?_
      obtain ⟨ub, bL4, dL4, rfl, hR4, l4, j4⟩ := hq
      refine ⟨?_, ?_⟩
      · repeat' (first | exact trivial | exact (j4.rloc (by omega) (by omega) cL3).trans cL3.symm | apply And.intro)
      have cL4 := j4.rloc (by omega) (by omega) cL3
      have jj : Kp (FRd r) gL nL g4 := ((j2.dn (by omega)).tr j3 (by omega)).tr j4 (by omega)
      have fr : ∀ l, nL ≤ l → l < nL + 17 → g4 l = none := fun l q1 q2 => hx4 _ (by omega) (hx3 _ (by omega) (hx2 _ (by omega) (hwL.none q1)))
      have hG4 := hG.kp jj hwL (off_fr fun _ => hG.is)
      have hW4 := hW.kp jj hwL (FRd.nob r) (off_fr fun _ => hW.is)
      obtain ⟨⟨cs, s1, s2⟩, s3⟩ := hW4
      refine d_al rfl rfl rfl .no (q := 8) rfl (s_s2b' rfl fun tc wr => ?_)
      refine d_op rfl rfl .no (q := 11) rfl (s_bld pl_39 zl_39 rfl rfl rfl ⟨⟨rfl, rfl⟩, ?_⟩)
      refine d_al rfl rfl rfl .no (q := 12) rfl (s_bs el_40 ez_40 rfl rfl rfl ?_)
      have ka : K0 g4 n4 (gset (gset g4 (nL + 8) (.cells (u8c val) 1 false)) (nL + 12) (.cells [.string (str key), .slice (some ⟨nL + 8, 0, none⟩) val.length val.length, .bool ub] 3 false)) := Kp.add (Kp.add (Kp.refl _ _ _) (fr _ (by omega) (by omega)) _) (fr _ (by omega) (by omega)) _
      refine d_tc rfl rfl rfl .no (q := 13) rfl (s_app app40 rfl rfl (s1.kp0 ka hw4) (src_one (gs_same _ _ _) rfl) rfl (by omega) fun aw' cw' g5 tc wr hrow hg => ⟨clash_nil, ?_⟩)
      have kf : Kp (F3 (.slice aw ws.length cw)) g4 n4 g5 := fun x o hx ho hf => by
        by_cases e : vname (.slice aw ws.length cw) = some x
        · obtain ⟨cl, hcl⟩ := s1.is e
          rw [hcl] at ho; cases ho
          exact absurd ⟨e, _, rfl⟩ hf
        · by_cases e2 : x = nL + 13
          · subst e2; rw [fr _ (by omega) (by omega)] at ho; cases ho
          · rw [hg.same x e2 e]; exact ka x o hx ho id
      have hno : ∀ l, nL ≤ l → l < nL + 17 → vname (.slice aw ws.length cw) ≠ some l := fun l q1 q2 e => by
        obtain ⟨cl, hcl⟩ := s1.is e
        rw [fr _ q1 q2] at hcl; cases hcl
      have hb8 : g5 (nL + 8) = some (.cells (u8c val) 1 false) := (hg.same _ (by omega) (hno _ (by omega) (by omega))).trans ((gs_ne (by omega) _).trans (gs_same _ _ _))
      have hW5 : WrsOwn n g5 (.slice aw' (ws.length + 1) cw') (ws ++ [⟨key, val, ub⟩]) := by
        refine ⟨⟨_, by rw [List.length_append]; exact hrow, Rows.append (s2.mono fun c x _ hx => hx.mono fun _ _ k => k.kp kf hw4 (F3.nob _)) (Rows.one rfl ⟨_, _, rfl, bytes_row hb8 rfl (by omega)⟩)⟩, fun l hl => ?_⟩
        rcases hg.name with q | q | q
        · rw [q] at hl; cases hl
        · rw [q] at hl; exact s3 l hl
        · rw [q] at hl; cases hl; omega
      have hG5 : GdsOwn n g5 (.slice ag gs.length cg) gs := hG4.kp kf hw4 fun l o hl ho hf => hne l hl hf.1
      have hne5 : ∀ x, vname (.slice ag gs.length cg) = some x → vname (.slice aw' (ws.length + 1) cw') ≠ some x := fun x hx e => by
        rcases hg.name with q | q | q
        · rw [q] at e; cases e
        · rw [q] at e; exact hne x hx e
        · rw [q] at e; cases e
          obtain ⟨cl, hcl⟩ := hG4.is hx
          rw [fr _ (by omega) (by omega)] at hcl; cases hcl
      have c5 := kf.at hw4 cL4 (fun hf => by obtain ⟨_, c', e⟩ := hf; cases e)
      have e5 := kf.at hw4 (j4.rloc (by omega) (by omega) (j3.rloc (by omega) (by omega) (j2.rloc (by omega) (by omega) eL))) (fun hf => by obtain ⟨_, c', e⟩ := hf; cases e)
      have R5 := hR4.f3 kf hw4
      have kk5 : K0 g n g5 := (kL.trans0 (jj.rfw (q := n) (by omega) (by omega)) (Nat.le_refl _)).trans0 (kf.low0 (q := n) (fun x o hf => s3 x hf.1) (by omega)) (Nat.le_refl _)
      first | refine d_op rfl rfl .no (q := 14) rfl (s_fa0 rfl fo_55_5 ⟨⟨rfl, rfl⟩, ?_⟩) | refine d_op rfl rfl .no (q := 14) rfl (s_fa rfl fo_55_5 ⟨⟨rfl, rfl⟩, ?_⟩)
      first | refine d_op rfl rfl .no (q := 15) rfl (s_fa0 rfl fo_42_1 ⟨⟨rfl, rfl⟩, ?_⟩) | refine d_op rfl rfl .no (q := 15) rfl (s_fa rfl fo_42_1 ⟨⟨rfl, rfl⟩, ?_⟩)
      refine d_tc rfl rfl rfl .no (q := 16) rfl (s_st rfl rfl sz_40 (by repeat (first | exact gs_same _ _ _ | exact c5 | refine (gs_ne (by omega) _).trans ?_)) rfl rfl (by exact rfl) ⟨clash_nil, ?_⟩)
      refine d_nil ?_
      repeat (first | refine w_seq ?_ | refine w_blk ?_ | refine z_seq ?_ | refine z_blk ?_ | refine w_skip ?_)
      repeat (first | refine w_seq ?_ | refine w_blk ?_ | refine z_seq ?_ | refine z_blk ?_ | refine w_skip ?_)
      refine w_reg 2 rfl rfl (j' := 2) ?_
      first | refine n_op .no (q := 0) rfl (s_bin rfl rfl (bi_inc (by omega)) ?_) | refine n_op .no (q := 0) rfl (s_bin rfl rfl (bi_add rfl (by omega) (by omega)) ?_)
      refine n_op .no (q := 1) rfl (s_mv rfl ?_)
      refine n_nil ?_
      have kz : ∀ o, Kp (FRd (n1 + 11)) g5 n4 (gset g5 (n1 + 11) o) := fun o => Kp.set (Kp.refl _ _ _) (FRd.of c5) o
      have hw5 : WF g5 n4 := fun x o ho => by
        by_cases e2 : x = nL + 13
        · omega
        · by_cases e : vname (.slice aw ws.length cw) = some x
          · have := hw4 _ _ (s1.is e).choose_spec; omega
          · rw [hg.same x e2 e] at ho
            by_cases e3 : x = nL + 12
            · omega
            · rw [gs_ne e3] at ho
              by_cases e4 : x = nL + 8
              · omega
              · rw [gs_ne e4] at ho; exact hw4 _ _ ho
      refine z_round (ws.length + 1) ⟨rfl, rfl, rfl, rfl, rfl, rfl, rfl, trivial⟩ ⟨hc, by omega, kk5.trans0 ((kz _).low0 (q := n) (fun x o hf => by have := hf.1; omega) (by omega)) (Nat.le_refl _), (kz _).rloc (by omega) (by omega) e5, _, _, bL4, dL4, by simp, hG5.kp (kz _) hw5 (off_fr fun _ => hG5.is), hW5.kp (kz _) hw5 (FRd.nob _) (off_fr fun _ => hW5.is), hne5, R5.fr (kz _) hw5 (by omega), gs_same _ _ _⟩ (by omega)
    · refine w_exit rfl ?_
      exact z_met () ⟨rfl, rfl, rfl, rfl, rfl, trivial⟩ ⟨by omega, kL, eL, ws, _, bL, dL, by omega, hG, hW, hR, cL⟩
  rintro _ f g12 n12 hw12 ⟨hn12, k12, e12, ws, wv, bm2, dm2, hwl, hG, hW, hRm2, c12⟩
  clear k20 c20 e20 kk20 hR20 hG20 k11 e11 c11 hRm
  obtain ⟨aw, cw, rfl⟩ := hW.rd.len
  obtain ⟨x, hx⟩ : ∃ x : Cal, x = ⟨z2, z3, z1, t, z4, gs, ws⟩ := ⟨_, rfl⟩
  have hc12 : g12 (n1 + 11) = some (.cells (calC x (.slice ag gs.length cg) (.slice aw ws.length cw)) 0 false) := by rw [hx]; exact c12
  have hA : CalAt g12 x (.slice ag gs.length cg) (.slice aw ws.length cw) := by rw [hx]; exact ⟨hG.rd, hW.rd⟩
  have hxl : x.gs.length < 2 ^ 40 ∧ x.ws.length < 2 ^ 40 := by rw [hx]; exact ⟨by show gs.length < _; omega, by show ws.length < _; omega⟩
  have h12 := h.kp0 k12 hw
  clear c12
  repeat (first | refine w_seq ?_ | refine w_blk ?_ | refine z_seq ?_ | refine z_blk ?_ | refine w_skip ?_)
  refine w_reg 15 rfl rfl (j' := 15) ?_
  refine n_op .no (q := 0) rfl (s_mv rfl ?_)
  refine n_call .no rfl rfl rfl ?_
  refine C.use (rend_c hRm2) fun v g21 n21 hw21 hn21 hq => ?_
  obtain ⟨⟨q, rfl⟩, k21⟩ := hq
  have c21 := (k21.dn (m := n12) (by omega)).at0 hw12 hc12
  have e21 := (k21.dn (m := n12) (by omega)).at0 hw12 e12
  have kk21 : K0 g n g21 := k12.trans0 k21 (by omega)
  cases q
  · refine n_op .no (q := 2) rfl (s_not rfl ?_)
    refine n_op .no (q := 3) rfl (s_mv rfl ?_)
    refine n_sk rfl rfl (rfl) ?_
    refine n_sk rfl rfl (rfl) ?_
    refine n_sk rfl rfl (rfl) ?_
    refine n_sk rfl rfl (rfl) ?_
    refine n_sk rfl rfl (rfl) ?_
    refine n_op .no (q := 9) rfl (s_pt rfl (rfl) rfl ?_)
    refine n_op .no (q := 10) rfl (s_mv rfl ?_)
    refine n_sk rfl rfl (rfl) ?_
    refine n_sk rfl rfl (rfl) ?_
    refine n_sk rfl rfl (rfl) ?_
    refine n_op .no (q := 14) rfl (s_pt rfl (rfl) rfl ?_)
    refine n_nil ?_
    repeat (first | refine w_seq ?_ | refine w_blk ?_ | refine z_seq ?_ | refine z_blk ?_ | refine w_skip ?_)
    refine w_yes rfl (rfl) ?_
    repeat (first | refine w_seq ?_ | refine w_blk ?_ | refine z_seq ?_ | refine z_blk ?_ | refine w_skip ?_)
    refine w_reg 3 rfl rfl (j' := 3) ?_
    refine n_op .no (q := 0) rfl (s_bld pl_55 zl_55 rfl rfl rfl ?_)
    refine n_op .no (q := 1) rfl (s_stw rfl rfl sz_55 rfl (by repeat (first | exact gs_same _ _ _ | exact e21 | refine (gs_ne (by omega) _).trans ?_)) (by exact rfl) rfl ?_)
    refine n_op .no (q := 2) rfl (s_as rfl ?_)
    refine n_nil ?_
    repeat (first | refine w_ret ?_ | refine w_seq ?_ | refine w_blk ?_ | refine z_seq ?_ | refine z_blk ?_ | refine w_skip ?_)
    refine z_rc1 rfl rfl rfl (by repeat (first | exact gs_same _ _ _ | refine (gs_ne (by omega) _).trans ?_)) ag_55 sz_55 (by exact rfl) (by exact Nat.le_of_ble_eq_true rfl) ?_
    exact ⟨Cal.zero, _, _, false, rfl, GdsOwn.nil _ _, WrsOwn.nil _ _, (fun h => by cases h), (fun _ => rfl), ⟨Nat.zero_le _, Nat.zero_le _⟩, Kp.new kk21 (by omega) _⟩
  · refine n_op .no (q := 2) rfl (s_not rfl ?_)
    refine n_op .no (q := 3) rfl (s_mv rfl ?_)
    refine n_op (.yes rfl rfl (rfl)) (q := 4) rfl (s_ldf rfl (by repeat (first | exact gs_same _ _ _ | exact c21 | refine (gs_ne (by omega) _).trans ?_)) ag_55 sz_55 (by exact rfl) ?_)
    refine n_call (.yes rfl rfl (rfl)) rfl rfl rfl ?_
    refine C.use (put_c (hA.kp0 (k21.dn (by omega)) hw12) hxl) fun v g22 n22 hw22 hn22 hq => ?_
    obtain ⟨⟨ap, cp, rfl⟩, hB, k22⟩ := hq
    have kk22 : K0 g n g22 := kk21.trans0 k22 (by omega)
    refine n_op (.yes rfl rfl (rfl)) (q := 6) rfl (s_mv rfl ?_)
    refine n_call (.yes rfl rfl (rfl)) rfl rfl rfl ?_
    refine C.use (bytesEqual_c hB.at (h.kp0 kk22 hw)) fun v g23 n23 hw23 hn23 hq => ?_
    obtain ⟨rfl, k23⟩ := hq
    have kk23 : K0 g n g23 := kk22.trans0 k23 (by omega)
    have c23 := (k23.dn (m := n22) (by omega)).at0 hw22 ((k22.dn (m := n21) (by omega)).at0 hw21 c21)
    have e23 := (k23.dn (m := n22) (by omega)).at0 hw22 ((k22.dn (m := n21) (by omega)).at0 hw21 e21)
    have hG23 := ((hG.kp0 (k21.dn (by omega)) hw12).kp0 (k22.dn (by omega)) hw21).kp0 (k23.dn (by omega)) hw22
    have hW23 := ((hW.kp0 (k21.dn (by omega)) hw12).kp0 (k22.dn (by omega)) hw21).kp0 (k23.dn (by omega)) hw22
    by_cases he : x.put = bs
    · have hd : decide (x.put = bs) = true := decide_eq_true he
      rw [hd]
      by_cases h0 : bs.length = 0
      · refine n_op (.yes rfl rfl (rfl)) (q := 8) rfl (s_not rfl ?_)
        refine n_op .no (q := 9) rfl (s_pf rfl (rfl) rfl ?_)
        refine n_op .no (q := 10) rfl (s_mv rfl ?_)
        refine n_op (.yes rfl rfl (rfl)) (q := 11) rfl (s_mv rfl ?_)
        refine n_op (.yes rfl rfl (rfl)) (q := 12) rfl (s_len rfl rfl un_26 rfl ?_)
        refine n_op (.yes rfl rfl (rfl)) (q := 13) rfl (s_bin rfl rfl rfl ?_)
        refine n_op .no (q := 14) rfl (s_pf rfl (rfl) rfl ?_)
        refine n_nil ?_
        repeat (first | refine w_seq ?_ | refine w_blk ?_ | refine z_seq ?_ | refine z_blk ?_ | refine w_skip ?_)
        refine w_yes rfl (beq_iff_eq.2 (by omega)) ?_
        repeat (first | refine w_seq ?_ | refine w_blk ?_ | refine z_seq ?_ | refine z_blk ?_ | refine w_skip ?_)
        refine w_reg 3 rfl rfl (j' := 3) ?_
        refine n_op .no (q := 0) rfl (s_bld pl_55 zl_55 rfl rfl rfl ?_)
        refine n_op .no (q := 1) rfl (s_stw rfl rfl sz_55 rfl (by repeat (first | exact gs_same _ _ _ | exact e23 | refine (gs_ne (by omega) _).trans ?_)) (by exact rfl) rfl ?_)
        refine n_op .no (q := 2) rfl (s_as rfl ?_)
        refine n_nil ?_
        repeat (first | refine w_ret ?_ | refine w_seq ?_ | refine w_blk ?_ | refine z_seq ?_ | refine z_blk ?_ | refine w_skip ?_)
        refine z_rc1 rfl rfl rfl (by repeat (first | exact gs_same _ _ _ | refine (gs_ne (by omega) _).trans ?_)) ag_55 sz_55 (by exact rfl) (by exact Nat.le_of_ble_eq_true rfl) ?_
        exact ⟨Cal.zero, _, _, false, rfl, GdsOwn.nil _ _, WrsOwn.nil _ _, (fun h => by cases h), (fun _ => rfl), ⟨Nat.zero_le _, Nat.zero_le _⟩, Kp.new kk23 (by omega) _⟩
      · refine n_op (.yes rfl rfl (rfl)) (q := 8) rfl (s_not rfl ?_)
        refine n_op .no (q := 9) rfl (s_pf rfl (rfl) rfl ?_)
        refine n_op .no (q := 10) rfl (s_mv rfl ?_)
        refine n_op (.yes rfl rfl (rfl)) (q := 11) rfl (s_mv rfl ?_)
        refine n_op (.yes rfl rfl (rfl)) (q := 12) rfl (s_len rfl rfl un_26 rfl ?_)
        refine n_op (.yes rfl rfl (rfl)) (q := 13) rfl (s_bin rfl rfl rfl ?_)
        refine n_op .no (q := 14) rfl (s_pf rfl (rfl) rfl ?_)
        refine n_nil ?_
        repeat (first | refine w_seq ?_ | refine w_blk ?_ | refine z_seq ?_ | refine z_blk ?_ | refine w_skip ?_)
        refine w_no rfl (beq_eq_false_iff_ne.2 (by omega)) ?_
        repeat (first | refine w_seq ?_ | refine w_blk ?_ | refine z_seq ?_ | refine z_blk ?_ | refine w_skip ?_)
        refine w_reg 3 rfl rfl (j' := 3) ?_
        refine n_op .no (q := 0) rfl (s_ldf rfl (by repeat (first | exact gs_same _ _ _ | exact c23 | exact e23 | refine (gs_ne (by omega) _).trans ?_)) ag_55 sz_55 (by exact rfl) ?_)
        refine n_op .no (q := 1) rfl (s_stw rfl rfl sz_55 rfl (by repeat (first | exact gs_same _ _ _ | exact c23 | exact e23 | refine (gs_ne (by omega) _).trans ?_)) (by exact rfl) rfl ?_)
        refine n_op .no (q := 2) rfl (s_as rfl ?_)
        refine n_nil ?_
        repeat (first | refine w_ret ?_ | refine w_seq ?_ | refine w_blk ?_ | refine z_seq ?_ | refine z_blk ?_ | refine w_skip ?_)
        refine z_rc1 rfl rfl rfl (by repeat (first | exact gs_same _ _ _ | refine (gs_ne (by omega) _).trans ?_)) ag_55 sz_55 (by exact rfl) (by exact Nat.le_of_ble_eq_true rfl) ?_
        subst hx
        have kz : ∀ o, Kp (FRd n) g23 n23 (gset g23 n o) := fun o => Kp.set (Kp.refl _ _ _) (FRd.of e23) o
        exact ⟨_, _, _, true, rfl, hG23.kp (kz _) hw23 (off_fr fun _ => hG23.is), hW23.kp (kz _) hw23 (FRd.nob _) (off_fr fun _ => hW23.is), fun _ => ⟨he, fun e => h0 (by rw [e]; rfl)⟩, (fun h => by cases h), ⟨hgl, hwl⟩, Kp.new kk23 (by omega) _⟩
    · have hd : decide (x.put = bs) = false := decide_eq_false he
      rw [hd]
      refine n_op (.yes rfl rfl (rfl)) (q := 8) rfl (s_not rfl ?_)
      refine n_op .no (q := 9) rfl (s_pf rfl (rfl) rfl ?_)
      refine n_op .no (q := 10) rfl (s_mv rfl ?_)
      refine n_sk rfl rfl (rfl) ?_
      refine n_sk rfl rfl (rfl) ?_
      refine n_sk rfl rfl (rfl) ?_
      refine n_op .no (q := 14) rfl (s_pt rfl (rfl) rfl ?_)
      refine n_nil ?_
      repeat (first | refine w_seq ?_ | refine w_blk ?_ | refine z_seq ?_ | refine z_blk ?_ | refine w_skip ?_)
      refine w_yes rfl (rfl) ?_
      repeat (first | refine w_seq ?_ | refine w_blk ?_ | refine z_seq ?_ | refine z_blk ?_ | refine w_skip ?_)
      refine w_reg 3 rfl rfl (j' := 3) ?_
      refine n_op .no (q := 0) rfl (s_bld pl_55 zl_55 rfl rfl rfl ?_)
      refine n_op .no (q := 1) rfl (s_stw rfl rfl sz_55 rfl (by repeat (first | exact gs_same _ _ _ | exact e23 | refine (gs_ne (by omega) _).trans ?_)) (by exact rfl) rfl ?_)
      refine n_op .no (q := 2) rfl (s_as rfl ?_)
      refine n_nil ?_
      repeat (first | refine w_ret ?_ | refine w_seq ?_ | refine w_blk ?_ | refine z_seq ?_ | refine z_blk ?_ | refine w_skip ?_)
      refine z_rc1 rfl rfl rfl (by repeat (first | exact gs_same _ _ _ | refine (gs_ne (by omega) _).trans ?_)) ag_55 sz_55 (by exact rfl) (by exact Nat.le_of_ble_eq_true rfl) ?_
      exact ⟨Cal.zero, _, _, false, rfl, GdsOwn.nil _ _, WrsOwn.nil _ _, (fun h => by cases h), (fun _ => rfl), ⟨Nat.zero_le _, Nat.zero_le _⟩, Kp.new kk23 (by omega) _⟩

end Go.Proofs.YtehmailaabjdjaaGreat
end

section
open Go.Proofs
namespace Go.Proofs.YtehmailaabjdjaaGreat
set_option linter.unusedSimpArgs false
set_option linter.unusedVariables false
set_option maxRecDepth 100000

theorem bne4 {a b : Bool} (h : a ≠ b) : (!(a == b)) = true := by cases a <;> cases b <;> first | rfl | exact absurd rfl h
theorem beq4 {a b : Bool} (h : a = b) : (!(a == b)) = false := by cases a <;> cases b <;> first | rfl | cases h

theorem same_c {g : Gm} {n : Nat} {x y : Cal} {gv wv gw ww : Value} (h1 : CalAt g x gv wv) (h2 : CalAt g y gw ww) (hn : x.gs.length < 2 ^ 40 ∧ x.ws.length < 2 ^ 40) :
    C 34 #[.agg (calC x gv wv).toArray, .agg (calC y gw ww).toArray] g n fun u g' n' => (∃ r, u = .bool r ∧ (r = true ↔ x = y)) ∧ K0 g n g' := by
  obtain ⟨ax, cx, rfl⟩ := h1.gs.len
  obtain ⟨bx, dx, rfl⟩ := h1.ws.len
  obtain ⟨ay, cy, rfl⟩ := h2.gs.len
  obtain ⟨by_, dy, rfl⟩ := h2.ws.len
  refine c_in2 Tryz.func34 rfl Tryz.ntmps34 rfl fun hw => ?_
  repeat (first | refine w_seq ?_ | refine w_blk ?_ | refine z_seq ?_ | refine z_blk ?_ | refine w_skip ?_)
  refine w_reg 3 rfl rfl (j' := 3) ?_
  refine n_op .no (q := 0) rfl (s_boxa rfl ?_)
  refine n_op .no (q := 1) rfl (s_boxa rfl ?_)
  refine n_op .no (q := 2) rfl (s_as rfl ?_)
  refine n_nil ?_
  by_cases a1 : x.from_ = y.from_
  rotate_left
  · repeat (first | refine w_seq ?_ | refine w_blk ?_ | refine z_seq ?_ | refine z_blk ?_ | refine w_skip ?_)
    refine w_reg 55 rfl rfl (j' := 58) ?_
    first | refine n_op .no (q := 3) rfl (s_fa0 rfl fo_55_0 ?_) | refine n_op .no (q := 3) rfl (s_fa rfl fo_55_0 ?_)
    refine n_op .no (q := 4) rfl (s_ld rfl (by repeat (first | exact gs_same _ _ _ | refine (gs_ne (by omega) _).trans ?_)) ag_3 (by first | exact rfl) ?_)
    first | refine n_op .no (q := 5) rfl (s_fa0 rfl fo_55_0 ?_) | refine n_op .no (q := 5) rfl (s_fa rfl fo_55_0 ?_)
    refine n_op .no (q := 6) rfl (s_ld rfl (by repeat (first | exact gs_same _ _ _ | refine (gs_ne (by omega) _).trans ?_)) ag_3 (by first | exact rfl) ?_)
    refine n_op .no (q := 7) rfl (s_bin rfl rfl rfl ?_)
    refine n_op .no (q := 8) rfl (s_mv rfl ?_)
    refine n_sk rfl rfl (bne_iff_ne.2 a1) ?_
    refine n_sk rfl rfl (bne_iff_ne.2 a1) ?_
    refine n_sk rfl rfl (bne_iff_ne.2 a1) ?_
    refine n_sk rfl rfl (bne_iff_ne.2 a1) ?_
    refine n_sk rfl rfl (bne_iff_ne.2 a1) ?_
    refine n_op .no (q := 14) rfl (s_pt rfl (bne_iff_ne.2 a1) rfl ?_)
    refine n_op .no (q := 15) rfl (s_mv rfl ?_)
    refine n_sk rfl rfl (rfl) ?_
    refine n_sk rfl rfl (rfl) ?_
    refine n_sk rfl rfl (rfl) ?_
    refine n_sk rfl rfl (rfl) ?_
    refine n_sk rfl rfl (rfl) ?_
    refine n_op .no (q := 21) rfl (s_pt rfl (rfl) rfl ?_)
    refine n_op .no (q := 22) rfl (s_mv rfl ?_)
    refine n_sk rfl rfl (rfl) ?_
    refine n_sk rfl rfl (rfl) ?_
    refine n_sk rfl rfl (rfl) ?_
    refine n_sk rfl rfl (rfl) ?_
    refine n_sk rfl rfl (rfl) ?_
    refine n_op .no (q := 28) rfl (s_pt rfl (rfl) rfl ?_)
    refine n_op .no (q := 29) rfl (s_mv rfl ?_)
    refine n_sk rfl rfl (rfl) ?_
    refine n_sk rfl rfl (rfl) ?_
    refine n_sk rfl rfl (rfl) ?_
    refine n_sk rfl rfl (rfl) ?_
    refine n_sk rfl rfl (rfl) ?_
    refine n_op .no (q := 35) rfl (s_pt rfl (rfl) rfl ?_)
    refine n_op .no (q := 36) rfl (s_mv rfl ?_)
    refine n_sk rfl rfl (rfl) ?_
    refine n_sk rfl rfl (rfl) ?_
    refine n_sk rfl rfl (rfl) ?_
    refine n_sk rfl rfl (rfl) ?_
    refine n_sk rfl rfl (rfl) ?_
    refine n_sk rfl rfl (rfl) ?_
    refine n_sk rfl rfl (rfl) ?_
    refine n_sk rfl rfl (rfl) ?_
    refine n_sk rfl rfl (rfl) ?_
    refine n_op .no (q := 46) rfl (s_pt rfl (rfl) rfl ?_)
    refine n_op .no (q := 47) rfl (s_mv rfl ?_)
    refine n_sk rfl rfl (rfl) ?_
    refine n_sk rfl rfl (rfl) ?_
    refine n_sk rfl rfl (rfl) ?_
    refine n_sk rfl rfl (rfl) ?_
    refine n_sk rfl rfl (rfl) ?_
    refine n_sk rfl rfl (rfl) ?_
    refine n_sk rfl rfl (rfl) ?_
    refine n_sk rfl rfl (rfl) ?_
    refine n_sk rfl rfl (rfl) ?_
    refine n_op .no (q := 57) rfl (s_pt rfl (rfl) rfl ?_)
    refine n_nil ?_
    repeat (first | refine w_seq ?_ | refine w_blk ?_ | refine z_seq ?_ | refine z_blk ?_ | refine w_skip ?_)
    refine w_yes rfl (rfl) ?_
    repeat (first | refine w_seq ?_ | refine w_blk ?_ | refine z_seq ?_ | refine z_blk ?_ | refine w_skip ?_)
    refine w_reg 1 rfl rfl (j' := 59) ?_
    refine n_op .no (q := 58) rfl (s_as rfl ?_)
    refine n_nil ?_
    repeat (first | refine w_ret ?_ | refine w_seq ?_ | refine w_blk ?_ | refine z_seq ?_ | refine z_blk ?_ | refine w_skip ?_)
    refine z_r1 rfl rfl ?_
    exact ⟨⟨_, rfl, ⟨fun h => (by cases h), fun h => absurd (by rw [h]) a1⟩⟩, (by repeat (first | exact Kp.refl _ _ _ | refine Kp.new ?_ (by omega) _))⟩
  by_cases a2 : x.id = y.id
  rotate_left
  · repeat (first | refine w_seq ?_ | refine w_blk ?_ | refine z_seq ?_ | refine z_blk ?_ | refine w_skip ?_)
    refine w_reg 55 rfl rfl (j' := 58) ?_
    first | refine n_op .no (q := 3) rfl (s_fa0 rfl fo_55_0 ?_) | refine n_op .no (q := 3) rfl (s_fa rfl fo_55_0 ?_)
    refine n_op .no (q := 4) rfl (s_ld rfl (by repeat (first | exact gs_same _ _ _ | refine (gs_ne (by omega) _).trans ?_)) ag_3 (by first | exact rfl) ?_)
    first | refine n_op .no (q := 5) rfl (s_fa0 rfl fo_55_0 ?_) | refine n_op .no (q := 5) rfl (s_fa rfl fo_55_0 ?_)
    refine n_op .no (q := 6) rfl (s_ld rfl (by repeat (first | exact gs_same _ _ _ | refine (gs_ne (by omega) _).trans ?_)) ag_3 (by first | exact rfl) ?_)
    refine n_op .no (q := 7) rfl (s_bin rfl rfl rfl ?_)
    refine n_op .no (q := 8) rfl (s_mv rfl ?_)
    first | refine n_op (.yes rfl rfl (bne_eq_false_iff_eq.2 a1)) (q := 9) rfl (s_fa0 rfl fo_55_1 ?_) | refine n_op (.yes rfl rfl (bne_eq_false_iff_eq.2 a1)) (q := 9) rfl (s_fa rfl fo_55_1 ?_)
    refine n_op (.yes rfl rfl (bne_eq_false_iff_eq.2 a1)) (q := 10) rfl (s_ld rfl (by repeat (first | exact gs_same _ _ _ | refine (gs_ne (by omega) _).trans ?_)) ag_2 (by first | exact rfl) ?_)
    first | refine n_op (.yes rfl rfl (bne_eq_false_iff_eq.2 a1)) (q := 11) rfl (s_fa0 rfl fo_55_1 ?_) | refine n_op (.yes rfl rfl (bne_eq_false_iff_eq.2 a1)) (q := 11) rfl (s_fa rfl fo_55_1 ?_)
    refine n_op (.yes rfl rfl (bne_eq_false_iff_eq.2 a1)) (q := 12) rfl (s_ld rfl (by repeat (first | exact gs_same _ _ _ | refine (gs_ne (by omega) _).trans ?_)) ag_2 (by first | exact rfl) ?_)
    refine n_op (.yes rfl rfl (bne_eq_false_iff_eq.2 a1)) (q := 13) rfl (s_bin rfl rfl rfl ?_)
    refine n_op .no (q := 14) rfl (s_pf rfl (bne_eq_false_iff_eq.2 a1) rfl ?_)
    refine n_op .no (q := 15) rfl (s_mv rfl ?_)
    refine n_sk rfl rfl (bne_iff_ne.2 a2) ?_
    refine n_sk rfl rfl (bne_iff_ne.2 a2) ?_
    refine n_sk rfl rfl (bne_iff_ne.2 a2) ?_
    refine n_sk rfl rfl (bne_iff_ne.2 a2) ?_
    refine n_sk rfl rfl (bne_iff_ne.2 a2) ?_
    refine n_op .no (q := 21) rfl (s_pt rfl (bne_iff_ne.2 a2) rfl ?_)
    refine n_op .no (q := 22) rfl (s_mv rfl ?_)
    refine n_sk rfl rfl (rfl) ?_
    refine n_sk rfl rfl (rfl) ?_
    refine n_sk rfl rfl (rfl) ?_
    refine n_sk rfl rfl (rfl) ?_
    refine n_sk rfl rfl (rfl) ?_
    refine n_op .no (q := 28) rfl (s_pt rfl (rfl) rfl ?_)
    refine n_op .no (q := 29) rfl (s_mv rfl ?_)
    refine n_sk rfl rfl (rfl) ?_
    refine n_sk rfl rfl (rfl) ?_
    refine n_sk rfl rfl (rfl) ?_
    refine n_sk rfl rfl (rfl) ?_
    refine n_sk rfl rfl (rfl) ?_
    refine n_op .no (q := 35) rfl (s_pt rfl (rfl) rfl ?_)
    refine n_op .no (q := 36) rfl (s_mv rfl ?_)
    refine n_sk rfl rfl (rfl) ?_
    refine n_sk rfl rfl (rfl) ?_
    refine n_sk rfl rfl (rfl) ?_
    refine n_sk rfl rfl (rfl) ?_
    refine n_sk rfl rfl (rfl) ?_
    refine n_sk rfl rfl (rfl) ?_
    refine n_sk rfl rfl (rfl) ?_
    refine n_sk rfl rfl (rfl) ?_
    refine n_sk rfl rfl (rfl) ?_
    refine n_op .no (q := 46) rfl (s_pt rfl (rfl) rfl ?_)
    refine n_op .no (q := 47) rfl (s_mv rfl ?_)
    refine n_sk rfl rfl (rfl) ?_
    refine n_sk rfl rfl (rfl) ?_
    refine n_sk rfl rfl (rfl) ?_
    refine n_sk rfl rfl (rfl) ?_
    refine n_sk rfl rfl (rfl) ?_
    refine n_sk rfl rfl (rfl) ?_
    refine n_sk rfl rfl (rfl) ?_
    refine n_sk rfl rfl (rfl) ?_
    refine n_sk rfl rfl (rfl) ?_
    refine n_op .no (q := 57) rfl (s_pt rfl (rfl) rfl ?_)
    refine n_nil ?_
    repeat (first | refine w_seq ?_ | refine w_blk ?_ | refine z_seq ?_ | refine z_blk ?_ | refine w_skip ?_)
    refine w_yes rfl (rfl) ?_
    repeat (first | refine w_seq ?_ | refine w_blk ?_ | refine z_seq ?_ | refine z_blk ?_ | refine w_skip ?_)
    refine w_reg 1 rfl rfl (j' := 59) ?_
    refine n_op .no (q := 58) rfl (s_as rfl ?_)
    refine n_nil ?_
    repeat (first | refine w_ret ?_ | refine w_seq ?_ | refine w_blk ?_ | refine z_seq ?_ | refine z_blk ?_ | refine w_skip ?_)
    refine z_r1 rfl rfl ?_
    exact ⟨⟨_, rfl, ⟨fun h => (by cases h), fun h => absurd (by rw [h]) a2⟩⟩, (by repeat (first | exact Kp.refl _ _ _ | refine Kp.new ?_ (by omega) _))⟩
  by_cases a3 : x.kind = y.kind
  rotate_left
  · repeat (first | refine w_seq ?_ | refine w_blk ?_ | refine z_seq ?_ | refine z_blk ?_ | refine w_skip ?_)
    refine w_reg 55 rfl rfl (j' := 58) ?_
    first | refine n_op .no (q := 3) rfl (s_fa0 rfl fo_55_0 ?_) | refine n_op .no (q := 3) rfl (s_fa rfl fo_55_0 ?_)
    refine n_op .no (q := 4) rfl (s_ld rfl (by repeat (first | exact gs_same _ _ _ | refine (gs_ne (by omega) _).trans ?_)) ag_3 (by first | exact rfl) ?_)
    first | refine n_op .no (q := 5) rfl (s_fa0 rfl fo_55_0 ?_) | refine n_op .no (q := 5) rfl (s_fa rfl fo_55_0 ?_)
    refine n_op .no (q := 6) rfl (s_ld rfl (by repeat (first | exact gs_same _ _ _ | refine (gs_ne (by omega) _).trans ?_)) ag_3 (by first | exact rfl) ?_)
    refine n_op .no (q := 7) rfl (s_bin rfl rfl rfl ?_)
    refine n_op .no (q := 8) rfl (s_mv rfl ?_)
    first | refine n_op (.yes rfl rfl (bne_eq_false_iff_eq.2 a1)) (q := 9) rfl (s_fa0 rfl fo_55_1 ?_) | refine n_op (.yes rfl rfl (bne_eq_false_iff_eq.2 a1)) (q := 9) rfl (s_fa rfl fo_55_1 ?_)
    refine n_op (.yes rfl rfl (bne_eq_false_iff_eq.2 a1)) (q := 10) rfl (s_ld rfl (by repeat (first | exact gs_same _ _ _ | refine (gs_ne (by omega) _).trans ?_)) ag_2 (by first | exact rfl) ?_)
    first | refine n_op (.yes rfl rfl (bne_eq_false_iff_eq.2 a1)) (q := 11) rfl (s_fa0 rfl fo_55_1 ?_) | refine n_op (.yes rfl rfl (bne_eq_false_iff_eq.2 a1)) (q := 11) rfl (s_fa rfl fo_55_1 ?_)
    refine n_op (.yes rfl rfl (bne_eq_false_iff_eq.2 a1)) (q := 12) rfl (s_ld rfl (by repeat (first | exact gs_same _ _ _ | refine (gs_ne (by omega) _).trans ?_)) ag_2 (by first | exact rfl) ?_)
    refine n_op (.yes rfl rfl (bne_eq_false_iff_eq.2 a1)) (q := 13) rfl (s_bin rfl rfl rfl ?_)
    refine n_op .no (q := 14) rfl (s_pf rfl (bne_eq_false_iff_eq.2 a1) rfl ?_)
    refine n_op .no (q := 15) rfl (s_mv rfl ?_)
    first | refine n_op (.yes rfl rfl (bne_eq_false_iff_eq.2 a2)) (q := 16) rfl (s_fa0 rfl fo_55_2 ?_) | refine n_op (.yes rfl rfl (bne_eq_false_iff_eq.2 a2)) (q := 16) rfl (s_fa rfl fo_55_2 ?_)
    refine n_op (.yes rfl rfl (bne_eq_false_iff_eq.2 a2)) (q := 17) rfl (s_ld rfl (by repeat (first | exact gs_same _ _ _ | refine (gs_ne (by omega) _).trans ?_)) ag_3 (by first | exact rfl) ?_)
    first | refine n_op (.yes rfl rfl (bne_eq_false_iff_eq.2 a2)) (q := 18) rfl (s_fa0 rfl fo_55_2 ?_) | refine n_op (.yes rfl rfl (bne_eq_false_iff_eq.2 a2)) (q := 18) rfl (s_fa rfl fo_55_2 ?_)
    refine n_op (.yes rfl rfl (bne_eq_false_iff_eq.2 a2)) (q := 19) rfl (s_ld rfl (by repeat (first | exact gs_same _ _ _ | refine (gs_ne (by omega) _).trans ?_)) ag_3 (by first | exact rfl) ?_)
    refine n_op (.yes rfl rfl (bne_eq_false_iff_eq.2 a2)) (q := 20) rfl (s_bin rfl rfl rfl ?_)
    refine n_op .no (q := 21) rfl (s_pf rfl (bne_eq_false_iff_eq.2 a2) rfl ?_)
    refine n_op .no (q := 22) rfl (s_mv rfl ?_)
    refine n_sk rfl rfl (bne_iff_ne.2 a3) ?_
    refine n_sk rfl rfl (bne_iff_ne.2 a3) ?_
    refine n_sk rfl rfl (bne_iff_ne.2 a3) ?_
    refine n_sk rfl rfl (bne_iff_ne.2 a3) ?_
    refine n_sk rfl rfl (bne_iff_ne.2 a3) ?_
    refine n_op .no (q := 28) rfl (s_pt rfl (bne_iff_ne.2 a3) rfl ?_)
    refine n_op .no (q := 29) rfl (s_mv rfl ?_)
    refine n_sk rfl rfl (rfl) ?_
    refine n_sk rfl rfl (rfl) ?_
    refine n_sk rfl rfl (rfl) ?_
    refine n_sk rfl rfl (rfl) ?_
    refine n_sk rfl rfl (rfl) ?_
    refine n_op .no (q := 35) rfl (s_pt rfl (rfl) rfl ?_)
    refine n_op .no (q := 36) rfl (s_mv rfl ?_)
    refine n_sk rfl rfl (rfl) ?_
    refine n_sk rfl rfl (rfl) ?_
    refine n_sk rfl rfl (rfl) ?_
    refine n_sk rfl rfl (rfl) ?_
    refine n_sk rfl rfl (rfl) ?_
    refine n_sk rfl rfl (rfl) ?_
    refine n_sk rfl rfl (rfl) ?_
    refine n_sk rfl rfl (rfl) ?_
    refine n_sk rfl rfl (rfl) ?_
    refine n_op .no (q := 46) rfl (s_pt rfl (rfl) rfl ?_)
    refine n_op .no (q := 47) rfl (s_mv rfl ?_)
    refine n_sk rfl rfl (rfl) ?_
    refine n_sk rfl rfl (rfl) ?_
    refine n_sk rfl rfl (rfl) ?_
    refine n_sk rfl rfl (rfl) ?_
    refine n_sk rfl rfl (rfl) ?_
    refine n_sk rfl rfl (rfl) ?_
    refine n_sk rfl rfl (rfl) ?_
    refine n_sk rfl rfl (rfl) ?_
    refine n_sk rfl rfl (rfl) ?_
    refine n_op .no (q := 57) rfl (s_pt rfl (rfl) rfl ?_)
    refine n_nil ?_
    repeat (first | refine w_seq ?_ | refine w_blk ?_ | refine z_seq ?_ | refine z_blk ?_ | refine w_skip ?_)
    refine w_yes rfl (rfl) ?_
    repeat (first | refine w_seq ?_ | refine w_blk ?_ | refine z_seq ?_ | refine z_blk ?_ | refine w_skip ?_)
    refine w_reg 1 rfl rfl (j' := 59) ?_
    refine n_op .no (q := 58) rfl (s_as rfl ?_)
    refine n_nil ?_
    repeat (first | refine w_ret ?_ | refine w_seq ?_ | refine w_blk ?_ | refine z_seq ?_ | refine z_blk ?_ | refine w_skip ?_)
    refine z_r1 rfl rfl ?_
    exact ⟨⟨_, rfl, ⟨fun h => (by cases h), fun h => absurd (by rw [h]) a3⟩⟩, (by repeat (first | exact Kp.refl _ _ _ | refine Kp.new ?_ (by omega) _))⟩
  by_cases a4 : x.key = y.key
  rotate_left
  · repeat (first | refine w_seq ?_ | refine w_blk ?_ | refine z_seq ?_ | refine z_blk ?_ | refine w_skip ?_)
    refine w_reg 55 rfl rfl (j' := 58) ?_
    first | refine n_op .no (q := 3) rfl (s_fa0 rfl fo_55_0 ?_) | refine n_op .no (q := 3) rfl (s_fa rfl fo_55_0 ?_)
    refine n_op .no (q := 4) rfl (s_ld rfl (by repeat (first | exact gs_same _ _ _ | refine (gs_ne (by omega) _).trans ?_)) ag_3 (by first | exact rfl) ?_)
    first | refine n_op .no (q := 5) rfl (s_fa0 rfl fo_55_0 ?_) | refine n_op .no (q := 5) rfl (s_fa rfl fo_55_0 ?_)
    refine n_op .no (q := 6) rfl (s_ld rfl (by repeat (first | exact gs_same _ _ _ | refine (gs_ne (by omega) _).trans ?_)) ag_3 (by first | exact rfl) ?_)
    refine n_op .no (q := 7) rfl (s_bin rfl rfl rfl ?_)
    refine n_op .no (q := 8) rfl (s_mv rfl ?_)
    first | refine n_op (.yes rfl rfl (bne_eq_false_iff_eq.2 a1)) (q := 9) rfl (s_fa0 rfl fo_55_1 ?_) | refine n_op (.yes rfl rfl (bne_eq_false_iff_eq.2 a1)) (q := 9) rfl (s_fa rfl fo_55_1 ?_)
    refine n_op (.yes rfl rfl (bne_eq_false_iff_eq.2 a1)) (q := 10) rfl (s_ld rfl (by repeat (first | exact gs_same _ _ _ | refine (gs_ne (by omega) _).trans ?_)) ag_2 (by first | exact rfl) ?_)
    first | refine n_op (.yes rfl rfl (bne_eq_false_iff_eq.2 a1)) (q := 11) rfl (s_fa0 rfl fo_55_1 ?_) | refine n_op (.yes rfl rfl (bne_eq_false_iff_eq.2 a1)) (q := 11) rfl (s_fa rfl fo_55_1 ?_)
    refine n_op (.yes rfl rfl (bne_eq_false_iff_eq.2 a1)) (q := 12) rfl (s_ld rfl (by repeat (first | exact gs_same _ _ _ | refine (gs_ne (by omega) _).trans ?_)) ag_2 (by first | exact rfl) ?_)
    refine n_op (.yes rfl rfl (bne_eq_false_iff_eq.2 a1)) (q := 13) rfl (s_bin rfl rfl rfl ?_)
    refine n_op .no (q := 14) rfl (s_pf rfl (bne_eq_false_iff_eq.2 a1) rfl ?_)
    refine n_op .no (q := 15) rfl (s_mv rfl ?_)
    first | refine n_op (.yes rfl rfl (bne_eq_false_iff_eq.2 a2)) (q := 16) rfl (s_fa0 rfl fo_55_2 ?_) | refine n_op (.yes rfl rfl (bne_eq_false_iff_eq.2 a2)) (q := 16) rfl (s_fa rfl fo_55_2 ?_)
    refine n_op (.yes rfl rfl (bne_eq_false_iff_eq.2 a2)) (q := 17) rfl (s_ld rfl (by repeat (first | exact gs_same _ _ _ | refine (gs_ne (by omega) _).trans ?_)) ag_3 (by first | exact rfl) ?_)
    first | refine n_op (.yes rfl rfl (bne_eq_false_iff_eq.2 a2)) (q := 18) rfl (s_fa0 rfl fo_55_2 ?_) | refine n_op (.yes rfl rfl (bne_eq_false_iff_eq.2 a2)) (q := 18) rfl (s_fa rfl fo_55_2 ?_)
    refine n_op (.yes rfl rfl (bne_eq_false_iff_eq.2 a2)) (q := 19) rfl (s_ld rfl (by repeat (first | exact gs_same _ _ _ | refine (gs_ne (by omega) _).trans ?_)) ag_3 (by first | exact rfl) ?_)
    refine n_op (.yes rfl rfl (bne_eq_false_iff_eq.2 a2)) (q := 20) rfl (s_bin rfl rfl rfl ?_)
    refine n_op .no (q := 21) rfl (s_pf rfl (bne_eq_false_iff_eq.2 a2) rfl ?_)
    refine n_op .no (q := 22) rfl (s_mv rfl ?_)
    first | refine n_op (.yes rfl rfl (bne_eq_false_iff_eq.2 a3)) (q := 23) rfl (s_fa0 rfl fo_55_3 ?_) | refine n_op (.yes rfl rfl (bne_eq_false_iff_eq.2 a3)) (q := 23) rfl (s_fa rfl fo_55_3 ?_)
    refine n_op (.yes rfl rfl (bne_eq_false_iff_eq.2 a3)) (q := 24) rfl (s_ld rfl (by repeat (first | exact gs_same _ _ _ | refine (gs_ne (by omega) _).trans ?_)) ag_9 (by first | exact rfl) ?_)
    first | refine n_op (.yes rfl rfl (bne_eq_false_iff_eq.2 a3)) (q := 25) rfl (s_fa0 rfl fo_55_3 ?_) | refine n_op (.yes rfl rfl (bne_eq_false_iff_eq.2 a3)) (q := 25) rfl (s_fa rfl fo_55_3 ?_)
    refine n_op (.yes rfl rfl (bne_eq_false_iff_eq.2 a3)) (q := 26) rfl (s_ld rfl (by repeat (first | exact gs_same _ _ _ | refine (gs_ne (by omega) _).trans ?_)) ag_9 (by first | exact rfl) ?_)
    refine n_op (.yes rfl rfl (bne_eq_false_iff_eq.2 a3)) (q := 27) rfl (s_bin rfl rfl rfl ?_)
    refine n_op .no (q := 28) rfl (s_pf rfl (bne_eq_false_iff_eq.2 a3) rfl ?_)
    refine n_op .no (q := 29) rfl (s_mv rfl ?_)
    refine n_sk rfl rfl (strn_t a4) ?_
    refine n_sk rfl rfl (strn_t a4) ?_
    refine n_sk rfl rfl (strn_t a4) ?_
    refine n_sk rfl rfl (strn_t a4) ?_
    refine n_sk rfl rfl (strn_t a4) ?_
    refine n_op .no (q := 35) rfl (s_pt rfl (strn_t a4) rfl ?_)
    refine n_op .no (q := 36) rfl (s_mv rfl ?_)
    refine n_sk rfl rfl (rfl) ?_
    refine n_sk rfl rfl (rfl) ?_
    refine n_sk rfl rfl (rfl) ?_
    refine n_sk rfl rfl (rfl) ?_
    refine n_sk rfl rfl (rfl) ?_
    refine n_sk rfl rfl (rfl) ?_
    refine n_sk rfl rfl (rfl) ?_
    refine n_sk rfl rfl (rfl) ?_
    refine n_sk rfl rfl (rfl) ?_
    refine n_op .no (q := 46) rfl (s_pt rfl (rfl) rfl ?_)
    refine n_op .no (q := 47) rfl (s_mv rfl ?_)
    refine n_sk rfl rfl (rfl) ?_
    refine n_sk rfl rfl (rfl) ?_
    refine n_sk rfl rfl (rfl) ?_
    refine n_sk rfl rfl (rfl) ?_
    refine n_sk rfl rfl (rfl) ?_
    refine n_sk rfl rfl (rfl) ?_
    refine n_sk rfl rfl (rfl) ?_
    refine n_sk rfl rfl (rfl) ?_
    refine n_sk rfl rfl (rfl) ?_
    refine n_op .no (q := 57) rfl (s_pt rfl (rfl) rfl ?_)
    refine n_nil ?_
    repeat (first | refine w_seq ?_ | refine w_blk ?_ | refine z_seq ?_ | refine z_blk ?_ | refine w_skip ?_)
    refine w_yes rfl (rfl) ?_
    repeat (first | refine w_seq ?_ | refine w_blk ?_ | refine z_seq ?_ | refine z_blk ?_ | refine w_skip ?_)
    refine w_reg 1 rfl rfl (j' := 59) ?_
    refine n_op .no (q := 58) rfl (s_as rfl ?_)
    refine n_nil ?_
    repeat (first | refine w_ret ?_ | refine w_seq ?_ | refine w_blk ?_ | refine z_seq ?_ | refine z_blk ?_ | refine w_skip ?_)
    refine z_r1 rfl rfl ?_
    exact ⟨⟨_, rfl, ⟨fun h => (by cases h), fun h => absurd (by rw [h]) a4⟩⟩, (by repeat (first | exact Kp.refl _ _ _ | refine Kp.new ?_ (by omega) _))⟩
  by_cases a5 : x.rev = y.rev
  rotate_left
  · repeat (first | refine w_seq ?_ | refine w_blk ?_ | refine z_seq ?_ | refine z_blk ?_ | refine w_skip ?_)
    refine w_reg 55 rfl rfl (j' := 58) ?_
    first | refine n_op .no (q := 3) rfl (s_fa0 rfl fo_55_0 ?_) | refine n_op .no (q := 3) rfl (s_fa rfl fo_55_0 ?_)
    refine n_op .no (q := 4) rfl (s_ld rfl (by repeat (first | exact gs_same _ _ _ | refine (gs_ne (by omega) _).trans ?_)) ag_3 (by first | exact rfl) ?_)
    first | refine n_op .no (q := 5) rfl (s_fa0 rfl fo_55_0 ?_) | refine n_op .no (q := 5) rfl (s_fa rfl fo_55_0 ?_)
    refine n_op .no (q := 6) rfl (s_ld rfl (by repeat (first | exact gs_same _ _ _ | refine (gs_ne (by omega) _).trans ?_)) ag_3 (by first | exact rfl) ?_)
    refine n_op .no (q := 7) rfl (s_bin rfl rfl rfl ?_)
    refine n_op .no (q := 8) rfl (s_mv rfl ?_)
    first | refine n_op (.yes rfl rfl (bne_eq_false_iff_eq.2 a1)) (q := 9) rfl (s_fa0 rfl fo_55_1 ?_) | refine n_op (.yes rfl rfl (bne_eq_false_iff_eq.2 a1)) (q := 9) rfl (s_fa rfl fo_55_1 ?_)
    refine n_op (.yes rfl rfl (bne_eq_false_iff_eq.2 a1)) (q := 10) rfl (s_ld rfl (by repeat (first | exact gs_same _ _ _ | refine (gs_ne (by omega) _).trans ?_)) ag_2 (by first | exact rfl) ?_)
    first | refine n_op (.yes rfl rfl (bne_eq_false_iff_eq.2 a1)) (q := 11) rfl (s_fa0 rfl fo_55_1 ?_) | refine n_op (.yes rfl rfl (bne_eq_false_iff_eq.2 a1)) (q := 11) rfl (s_fa rfl fo_55_1 ?_)
    refine n_op (.yes rfl rfl (bne_eq_false_iff_eq.2 a1)) (q := 12) rfl (s_ld rfl (by repeat (first | exact gs_same _ _ _ | refine (gs_ne (by omega) _).trans ?_)) ag_2 (by first | exact rfl) ?_)
    refine n_op (.yes rfl rfl (bne_eq_false_iff_eq.2 a1)) (q := 13) rfl (s_bin rfl rfl rfl ?_)
    refine n_op .no (q := 14) rfl (s_pf rfl (bne_eq_false_iff_eq.2 a1) rfl ?_)
    refine n_op .no (q := 15) rfl (s_mv rfl ?_)
    first | refine n_op (.yes rfl rfl (bne_eq_false_iff_eq.2 a2)) (q := 16) rfl (s_fa0 rfl fo_55_2 ?_) | refine n_op (.yes rfl rfl (bne_eq_false_iff_eq.2 a2)) (q := 16) rfl (s_fa rfl fo_55_2 ?_)
    refine n_op (.yes rfl rfl (bne_eq_false_iff_eq.2 a2)) (q := 17) rfl (s_ld rfl (by repeat (first | exact gs_same _ _ _ | refine (gs_ne (by omega) _).trans ?_)) ag_3 (by first | exact rfl) ?_)
    first | refine n_op (.yes rfl rfl (bne_eq_false_iff_eq.2 a2)) (q := 18) rfl (s_fa0 rfl fo_55_2 ?_) | refine n_op (.yes rfl rfl (bne_eq_false_iff_eq.2 a2)) (q := 18) rfl (s_fa rfl fo_55_2 ?_)
    refine n_op (.yes rfl rfl (bne_eq_false_iff_eq.2 a2)) (q := 19) rfl (s_ld rfl (by repeat (first | exact gs_same _ _ _ | refine (gs_ne (by omega) _).trans ?_)) ag_3 (by first | exact rfl) ?_)
    refine n_op (.yes rfl rfl (bne_eq_false_iff_eq.2 a2)) (q := 20) rfl (s_bin rfl rfl rfl ?_)
    refine n_op .no (q := 21) rfl (s_pf rfl (bne_eq_false_iff_eq.2 a2) rfl ?_)
    refine n_op .no (q := 22) rfl (s_mv rfl ?_)
    first | refine n_op (.yes rfl rfl (bne_eq_false_iff_eq.2 a3)) (q := 23) rfl (s_fa0 rfl fo_55_3 ?_) | refine n_op (.yes rfl rfl (bne_eq_false_iff_eq.2 a3)) (q := 23) rfl (s_fa rfl fo_55_3 ?_)
    refine n_op (.yes rfl rfl (bne_eq_false_iff_eq.2 a3)) (q := 24) rfl (s_ld rfl (by repeat (first | exact gs_same _ _ _ | refine (gs_ne (by omega) _).trans ?_)) ag_9 (by first | exact rfl) ?_)
    first | refine n_op (.yes rfl rfl (bne_eq_false_iff_eq.2 a3)) (q := 25) rfl (s_fa0 rfl fo_55_3 ?_) | refine n_op (.yes rfl rfl (bne_eq_false_iff_eq.2 a3)) (q := 25) rfl (s_fa rfl fo_55_3 ?_)
    refine n_op (.yes rfl rfl (bne_eq_false_iff_eq.2 a3)) (q := 26) rfl (s_ld rfl (by repeat (first | exact gs_same _ _ _ | refine (gs_ne (by omega) _).trans ?_)) ag_9 (by first | exact rfl) ?_)
    refine n_op (.yes rfl rfl (bne_eq_false_iff_eq.2 a3)) (q := 27) rfl (s_bin rfl rfl rfl ?_)
    refine n_op .no (q := 28) rfl (s_pf rfl (bne_eq_false_iff_eq.2 a3) rfl ?_)
    refine n_op .no (q := 29) rfl (s_mv rfl ?_)
    first | refine n_op (.yes rfl rfl (strn_f a4)) (q := 30) rfl (s_fa0 rfl fo_55_4 ?_) | refine n_op (.yes rfl rfl (strn_f a4)) (q := 30) rfl (s_fa rfl fo_55_4 ?_)
    refine n_op (.yes rfl rfl (strn_f a4)) (q := 31) rfl (s_ld rfl (by repeat (first | exact gs_same _ _ _ | refine (gs_ne (by omega) _).trans ?_)) ag_2 (by first | exact rfl) ?_)
    first | refine n_op (.yes rfl rfl (strn_f a4)) (q := 32) rfl (s_fa0 rfl fo_55_4 ?_) | refine n_op (.yes rfl rfl (strn_f a4)) (q := 32) rfl (s_fa rfl fo_55_4 ?_)
    refine n_op (.yes rfl rfl (strn_f a4)) (q := 33) rfl (s_ld rfl (by repeat (first | exact gs_same _ _ _ | refine (gs_ne (by omega) _).trans ?_)) ag_2 (by first | exact rfl) ?_)
    refine n_op (.yes rfl rfl (strn_f a4)) (q := 34) rfl (s_bin rfl rfl rfl ?_)
    refine n_op .no (q := 35) rfl (s_pf rfl (strn_f a4) rfl ?_)
    refine n_op .no (q := 36) rfl (s_mv rfl ?_)
    refine n_sk rfl rfl (bne_iff_ne.2 a5) ?_
    refine n_sk rfl rfl (bne_iff_ne.2 a5) ?_
    refine n_sk rfl rfl (bne_iff_ne.2 a5) ?_
    refine n_sk rfl rfl (bne_iff_ne.2 a5) ?_
    refine n_sk rfl rfl (bne_iff_ne.2 a5) ?_
    refine n_sk rfl rfl (bne_iff_ne.2 a5) ?_
    refine n_sk rfl rfl (bne_iff_ne.2 a5) ?_
    refine n_sk rfl rfl (bne_iff_ne.2 a5) ?_
    refine n_sk rfl rfl (bne_iff_ne.2 a5) ?_
    refine n_op .no (q := 46) rfl (s_pt rfl (bne_iff_ne.2 a5) rfl ?_)
    refine n_op .no (q := 47) rfl (s_mv rfl ?_)
    refine n_sk rfl rfl (rfl) ?_
    refine n_sk rfl rfl (rfl) ?_
    refine n_sk rfl rfl (rfl) ?_
    refine n_sk rfl rfl (rfl) ?_
    refine n_sk rfl rfl (rfl) ?_
    refine n_sk rfl rfl (rfl) ?_
    refine n_sk rfl rfl (rfl) ?_
    refine n_sk rfl rfl (rfl) ?_
    refine n_sk rfl rfl (rfl) ?_
    refine n_op .no (q := 57) rfl (s_pt rfl (rfl) rfl ?_)
    refine n_nil ?_
    repeat (first | refine w_seq ?_ | refine w_blk ?_ | refine z_seq ?_ | refine z_blk ?_ | refine w_skip ?_)
    refine w_yes rfl (rfl) ?_
    repeat (first | refine w_seq ?_ | refine w_blk ?_ | refine z_seq ?_ | refine z_blk ?_ | refine w_skip ?_)
    refine w_reg 1 rfl rfl (j' := 59) ?_
    refine n_op .no (q := 58) rfl (s_as rfl ?_)
    refine n_nil ?_
    repeat (first | refine w_ret ?_ | refine w_seq ?_ | refine w_blk ?_ | refine z_seq ?_ | refine z_blk ?_ | refine w_skip ?_)
    refine z_r1 rfl rfl ?_
    exact ⟨⟨_, rfl, ⟨fun h => (by cases h), fun h => absurd (by rw [h]) a5⟩⟩, (by repeat (first | exact Kp.refl _ _ _ | refine Kp.new ?_ (by omega) _))⟩
  by_cases a6 : x.gs.length = y.gs.length
  rotate_left
  · repeat (first | refine w_seq ?_ | refine w_blk ?_ | refine z_seq ?_ | refine z_blk ?_ | refine w_skip ?_)
    refine w_reg 55 rfl rfl (j' := 58) ?_
    first | refine n_op .no (q := 3) rfl (s_fa0 rfl fo_55_0 ?_) | refine n_op .no (q := 3) rfl (s_fa rfl fo_55_0 ?_)
    refine n_op .no (q := 4) rfl (s_ld rfl (by repeat (first | exact gs_same _ _ _ | refine (gs_ne (by omega) _).trans ?_)) ag_3 (by first | exact rfl) ?_)
    first | refine n_op .no (q := 5) rfl (s_fa0 rfl fo_55_0 ?_) | refine n_op .no (q := 5) rfl (s_fa rfl fo_55_0 ?_)
    refine n_op .no (q := 6) rfl (s_ld rfl (by repeat (first | exact gs_same _ _ _ | refine (gs_ne (by omega) _).trans ?_)) ag_3 (by first | exact rfl) ?_)
    refine n_op .no (q := 7) rfl (s_bin rfl rfl rfl ?_)
    refine n_op .no (q := 8) rfl (s_mv rfl ?_)
    first | refine n_op (.yes rfl rfl (bne_eq_false_iff_eq.2 a1)) (q := 9) rfl (s_fa0 rfl fo_55_1 ?_) | refine n_op (.yes rfl rfl (bne_eq_false_iff_eq.2 a1)) (q := 9) rfl (s_fa rfl fo_55_1 ?_)
    refine n_op (.yes rfl rfl (bne_eq_false_iff_eq.2 a1)) (q := 10) rfl (s_ld rfl (by repeat (first | exact gs_same _ _ _ | refine (gs_ne (by omega) _).trans ?_)) ag_2 (by first | exact rfl) ?_)
    first | refine n_op (.yes rfl rfl (bne_eq_false_iff_eq.2 a1)) (q := 11) rfl (s_fa0 rfl fo_55_1 ?_) | refine n_op (.yes rfl rfl (bne_eq_false_iff_eq.2 a1)) (q := 11) rfl (s_fa rfl fo_55_1 ?_)
    refine n_op (.yes rfl rfl (bne_eq_false_iff_eq.2 a1)) (q := 12) rfl (s_ld rfl (by repeat (first | exact gs_same _ _ _ | refine (gs_ne (by omega) _).trans ?_)) ag_2 (by first | exact rfl) ?_)
    refine n_op (.yes rfl rfl (bne_eq_false_iff_eq.2 a1)) (q := 13) rfl (s_bin rfl rfl rfl ?_)
    refine n_op .no (q := 14) rfl (s_pf rfl (bne_eq_false_iff_eq.2 a1) rfl ?_)
    refine n_op .no (q := 15) rfl (s_mv rfl ?_)
    first | refine n_op (.yes rfl rfl (bne_eq_false_iff_eq.2 a2)) (q := 16) rfl (s_fa0 rfl fo_55_2 ?_) | refine n_op (.yes rfl rfl (bne_eq_false_iff_eq.2 a2)) (q := 16) rfl (s_fa rfl fo_55_2 ?_)
    refine n_op (.yes rfl rfl (bne_eq_false_iff_eq.2 a2)) (q := 17) rfl (s_ld rfl (by repeat (first | exact gs_same _ _ _ | refine (gs_ne (by omega) _).trans ?_)) ag_3 (by first | exact rfl) ?_)
    first | refine n_op (.yes rfl rfl (bne_eq_false_iff_eq.2 a2)) (q := 18) rfl (s_fa0 rfl fo_55_2 ?_) | refine n_op (.yes rfl rfl (bne_eq_false_iff_eq.2 a2)) (q := 18) rfl (s_fa rfl fo_55_2 ?_)
    refine n_op (.yes rfl rfl (bne_eq_false_iff_eq.2 a2)) (q := 19) rfl (s_ld rfl (by repeat (first | exact gs_same _ _ _ | refine (gs_ne (by omega) _).trans ?_)) ag_3 (by first | exact rfl) ?_)
    refine n_op (.yes rfl rfl (bne_eq_false_iff_eq.2 a2)) (q := 20) rfl (s_bin rfl rfl rfl ?_)
    refine n_op .no (q := 21) rfl (s_pf rfl (bne_eq_false_iff_eq.2 a2) rfl ?_)
    refine n_op .no (q := 22) rfl (s_mv rfl ?_)
    first | refine n_op (.yes rfl rfl (bne_eq_false_iff_eq.2 a3)) (q := 23) rfl (s_fa0 rfl fo_55_3 ?_) | refine n_op (.yes rfl rfl (bne_eq_false_iff_eq.2 a3)) (q := 23) rfl (s_fa rfl fo_55_3 ?_)
    refine n_op (.yes rfl rfl (bne_eq_false_iff_eq.2 a3)) (q := 24) rfl (s_ld rfl (by repeat (first | exact gs_same _ _ _ | refine (gs_ne (by omega) _).trans ?_)) ag_9 (by first | exact rfl) ?_)
    first | refine n_op (.yes rfl rfl (bne_eq_false_iff_eq.2 a3)) (q := 25) rfl (s_fa0 rfl fo_55_3 ?_) | refine n_op (.yes rfl rfl (bne_eq_false_iff_eq.2 a3)) (q := 25) rfl (s_fa rfl fo_55_3 ?_)
    refine n_op (.yes rfl rfl (bne_eq_false_iff_eq.2 a3)) (q := 26) rfl (s_ld rfl (by repeat (first | exact gs_same _ _ _ | refine (gs_ne (by omega) _).trans ?_)) ag_9 (by first | exact rfl) ?_)
    refine n_op (.yes rfl rfl (bne_eq_false_iff_eq.2 a3)) (q := 27) rfl (s_bin rfl rfl rfl ?_)
    refine n_op .no (q := 28) rfl (s_pf rfl (bne_eq_false_iff_eq.2 a3) rfl ?_)
    refine n_op .no (q := 29) rfl (s_mv rfl ?_)
    first | refine n_op (.yes rfl rfl (strn_f a4)) (q := 30) rfl (s_fa0 rfl fo_55_4 ?_) | refine n_op (.yes rfl rfl (strn_f a4)) (q := 30) rfl (s_fa rfl fo_55_4 ?_)
    refine n_op (.yes rfl rfl (strn_f a4)) (q := 31) rfl (s_ld rfl (by repeat (first | exact gs_same _ _ _ | refine (gs_ne (by omega) _).trans ?_)) ag_2 (by first | exact rfl) ?_)
    first | refine n_op (.yes rfl rfl (strn_f a4)) (q := 32) rfl (s_fa0 rfl fo_55_4 ?_) | refine n_op (.yes rfl rfl (strn_f a4)) (q := 32) rfl (s_fa rfl fo_55_4 ?_)
    refine n_op (.yes rfl rfl (strn_f a4)) (q := 33) rfl (s_ld rfl (by repeat (first | exact gs_same _ _ _ | refine (gs_ne (by omega) _).trans ?_)) ag_2 (by first | exact rfl) ?_)
    refine n_op (.yes rfl rfl (strn_f a4)) (q := 34) rfl (s_bin rfl rfl rfl ?_)
    refine n_op .no (q := 35) rfl (s_pf rfl (strn_f a4) rfl ?_)
    refine n_op .no (q := 36) rfl (s_mv rfl ?_)
    first | refine n_op (.yes rfl rfl (bne_eq_false_iff_eq.2 a5)) (q := 37) rfl (s_fa0 rfl fo_55_5 ?_) | refine n_op (.yes rfl rfl (bne_eq_false_iff_eq.2 a5)) (q := 37) rfl (s_fa rfl fo_55_5 ?_)
    first | refine n_op (.yes rfl rfl (bne_eq_false_iff_eq.2 a5)) (q := 38) rfl (s_fa0 rfl fo_42_0 ?_) | refine n_op (.yes rfl rfl (bne_eq_false_iff_eq.2 a5)) (q := 38) rfl (s_fa rfl fo_42_0 ?_)
    refine n_op (.yes rfl rfl (bne_eq_false_iff_eq.2 a5)) (q := 39) rfl (s_ld rfl (by repeat (first | exact gs_same _ _ _ | refine (gs_ne (by omega) _).trans ?_)) ag_37 (by first | exact rfl) ?_)
    refine n_op (.yes rfl rfl (bne_eq_false_iff_eq.2 a5)) (q := 40) rfl (s_len rfl rfl un_37 rfl ?_)
    first | refine n_op (.yes rfl rfl (bne_eq_false_iff_eq.2 a5)) (q := 41) rfl (s_fa0 rfl fo_55_5 ?_) | refine n_op (.yes rfl rfl (bne_eq_false_iff_eq.2 a5)) (q := 41) rfl (s_fa rfl fo_55_5 ?_)
    first | refine n_op (.yes rfl rfl (bne_eq_false_iff_eq.2 a5)) (q := 42) rfl (s_fa0 rfl fo_42_0 ?_) | refine n_op (.yes rfl rfl (bne_eq_false_iff_eq.2 a5)) (q := 42) rfl (s_fa rfl fo_42_0 ?_)
    refine n_op (.yes rfl rfl (bne_eq_false_iff_eq.2 a5)) (q := 43) rfl (s_ld rfl (by repeat (first | exact gs_same _ _ _ | refine (gs_ne (by omega) _).trans ?_)) ag_37 (by first | exact rfl) ?_)
    refine n_op (.yes rfl rfl (bne_eq_false_iff_eq.2 a5)) (q := 44) rfl (s_len rfl rfl un_37 rfl ?_)
    refine n_op (.yes rfl rfl (bne_eq_false_iff_eq.2 a5)) (q := 45) rfl (s_bin rfl rfl rfl ?_)
    refine n_op .no (q := 46) rfl (s_pf rfl (bne_eq_false_iff_eq.2 a5) rfl ?_)
    refine n_op .no (q := 47) rfl (s_mv rfl ?_)
    refine n_sk rfl rfl (bne_iff_ne.2 (by omega)) ?_
    refine n_sk rfl rfl (bne_iff_ne.2 (by omega)) ?_
    refine n_sk rfl rfl (bne_iff_ne.2 (by omega)) ?_
    refine n_sk rfl rfl (bne_iff_ne.2 (by omega)) ?_
    refine n_sk rfl rfl (bne_iff_ne.2 (by omega)) ?_
    refine n_sk rfl rfl (bne_iff_ne.2 (by omega)) ?_
    refine n_sk rfl rfl (bne_iff_ne.2 (by omega)) ?_
    refine n_sk rfl rfl (bne_iff_ne.2 (by omega)) ?_
    refine n_sk rfl rfl (bne_iff_ne.2 (by omega)) ?_
    refine n_op .no (q := 57) rfl (s_pt rfl (bne_iff_ne.2 (by omega)) rfl ?_)
    refine n_nil ?_
    repeat (first | refine w_seq ?_ | refine w_blk ?_ | refine z_seq ?_ | refine z_blk ?_ | refine w_skip ?_)
    refine w_yes rfl (rfl) ?_
    repeat (first | refine w_seq ?_ | refine w_blk ?_ | refine z_seq ?_ | refine z_blk ?_ | refine w_skip ?_)
    refine w_reg 1 rfl rfl (j' := 59) ?_
    refine n_op .no (q := 58) rfl (s_as rfl ?_)
    refine n_nil ?_
    repeat (first | refine w_ret ?_ | refine w_seq ?_ | refine w_blk ?_ | refine z_seq ?_ | refine z_blk ?_ | refine w_skip ?_)
    refine z_r1 rfl rfl ?_
    exact ⟨⟨_, rfl, ⟨fun h => (by cases h), fun h => absurd (by rw [h]) a6⟩⟩, (by repeat (first | exact Kp.refl _ _ _ | refine Kp.new ?_ (by omega) _))⟩
  by_cases a7 : x.ws.length = y.ws.length
  rotate_left
  · repeat (first | refine w_seq ?_ | refine w_blk ?_ | refine z_seq ?_ | refine z_blk ?_ | refine w_skip ?_)
    refine w_reg 55 rfl rfl (j' := 58) ?_
    first | refine n_op .no (q := 3) rfl (s_fa0 rfl fo_55_0 ?_) | refine n_op .no (q := 3) rfl (s_fa rfl fo_55_0 ?_)
    refine n_op .no (q := 4) rfl (s_ld rfl (by repeat (first | exact gs_same _ _ _ | refine (gs_ne (by omega) _).trans ?_)) ag_3 (by first | exact rfl) ?_)
    first | refine n_op .no (q := 5) rfl (s_fa0 rfl fo_55_0 ?_) | refine n_op .no (q := 5) rfl (s_fa rfl fo_55_0 ?_)
    refine n_op .no (q := 6) rfl (s_ld rfl (by repeat (first | exact gs_same _ _ _ | refine (gs_ne (by omega) _).trans ?_)) ag_3 (by first | exact rfl) ?_)
    refine n_op .no (q := 7) rfl (s_bin rfl rfl rfl ?_)
    refine n_op .no (q := 8) rfl (s_mv rfl ?_)
    first | refine n_op (.yes rfl rfl (bne_eq_false_iff_eq.2 a1)) (q := 9) rfl (s_fa0 rfl fo_55_1 ?_) | refine n_op (.yes rfl rfl (bne_eq_false_iff_eq.2 a1)) (q := 9) rfl (s_fa rfl fo_55_1 ?_)
    refine n_op (.yes rfl rfl (bne_eq_false_iff_eq.2 a1)) (q := 10) rfl (s_ld rfl (by repeat (first | exact gs_same _ _ _ | refine (gs_ne (by omega) _).trans ?_)) ag_2 (by first | exact rfl) ?_)
    first | refine n_op (.yes rfl rfl (bne_eq_false_iff_eq.2 a1)) (q := 11) rfl (s_fa0 rfl fo_55_1 ?_) | refine n_op (.yes rfl rfl (bne_eq_false_iff_eq.2 a1)) (q := 11) rfl (s_fa rfl fo_55_1 ?_)
    refine n_op (.yes rfl rfl (bne_eq_false_iff_eq.2 a1)) (q := 12) rfl (s_ld rfl (by repeat (first | exact gs_same _ _ _ | refine (gs_ne (by omega) _).trans ?_)) ag_2 (by first | exact rfl) ?_)
    refine n_op (.yes rfl rfl (bne_eq_false_iff_eq.2 a1)) (q := 13) rfl (s_bin rfl rfl rfl ?_)
    refine n_op .no (q := 14) rfl (s_pf rfl (bne_eq_false_iff_eq.2 a1) rfl ?_)
    refine n_op .no (q := 15) rfl (s_mv rfl ?_)
    first | refine n_op (.yes rfl rfl (bne_eq_false_iff_eq.2 a2)) (q := 16) rfl (s_fa0 rfl fo_55_2 ?_) | refine n_op (.yes rfl rfl (bne_eq_false_iff_eq.2 a2)) (q := 16) rfl (s_fa rfl fo_55_2 ?_)
    refine n_op (.yes rfl rfl (bne_eq_false_iff_eq.2 a2)) (q := 17) rfl (s_ld rfl (by repeat (first | exact gs_same _ _ _ | refine (gs_ne (by omega) _).trans ?_)) ag_3 (by first | exact rfl) ?_)
    first | refine n_op (.yes rfl rfl (bne_eq_false_iff_eq.2 a2)) (q := 18) rfl (s_fa0 rfl fo_55_2 ?_) | refine n_op (.yes rfl rfl (bne_eq_false_iff_eq.2 a2)) (q := 18) rfl (s_fa rfl fo_55_2 ?_)
    refine n_op (.yes rfl rfl (bne_eq_false_iff_eq.2 a2)) (q := 19) rfl (s_ld rfl (by repeat (first | exact gs_same _ _ _ | refine (gs_ne (by omega) _).trans ?_)) ag_3 (by first | exact rfl) ?_)
    refine n_op (.yes rfl rfl (bne_eq_false_iff_eq.2 a2)) (q := 20) rfl (s_bin rfl rfl rfl ?_)
    refine n_op .no (q := 21) rfl (s_pf rfl (bne_eq_false_iff_eq.2 a2) rfl ?_)
    refine n_op .no (q := 22) rfl (s_mv rfl ?_)
    first | refine n_op (.yes rfl rfl (bne_eq_false_iff_eq.2 a3)) (q := 23) rfl (s_fa0 rfl fo_55_3 ?_) | refine n_op (.yes rfl rfl (bne_eq_false_iff_eq.2 a3)) (q := 23) rfl (s_fa rfl fo_55_3 ?_)
    refine n_op (.yes rfl rfl (bne_eq_false_iff_eq.2 a3)) (q := 24) rfl (s_ld rfl (by repeat (first | exact gs_same _ _ _ | refine (gs_ne (by omega) _).trans ?_)) ag_9 (by first | exact rfl) ?_)
    first | refine n_op (.yes rfl rfl (bne_eq_false_iff_eq.2 a3)) (q := 25) rfl (s_fa0 rfl fo_55_3 ?_) | refine n_op (.yes rfl rfl (bne_eq_false_iff_eq.2 a3)) (q := 25) rfl (s_fa rfl fo_55_3 ?_)
    refine n_op (.yes rfl rfl (bne_eq_false_iff_eq.2 a3)) (q := 26) rfl (s_ld rfl (by repeat (first | exact gs_same _ _ _ | refine (gs_ne (by omega) _).trans ?_)) ag_9 (by first | exact rfl) ?_)
    refine n_op (.yes rfl rfl (bne_eq_false_iff_eq.2 a3)) (q := 27) rfl (s_bin rfl rfl rfl ?_)
    refine n_op .no (q := 28) rfl (s_pf rfl (bne_eq_false_iff_eq.2 a3) rfl ?_)
    refine n_op .no (q := 29) rfl (s_mv rfl ?_)
    first | refine n_op (.yes rfl rfl (strn_f a4)) (q := 30) rfl (s_fa0 rfl fo_55_4 ?_) | refine n_op (.yes rfl rfl (strn_f a4)) (q := 30) rfl (s_fa rfl fo_55_4 ?_)
    refine n_op (.yes rfl rfl (strn_f a4)) (q := 31) rfl (s_ld rfl (by repeat (first | exact gs_same _ _ _ | refine (gs_ne (by omega) _).trans ?_)) ag_2 (by first | exact rfl) ?_)
    first | refine n_op (.yes rfl rfl (strn_f a4)) (q := 32) rfl (s_fa0 rfl fo_55_4 ?_) | refine n_op (.yes rfl rfl (strn_f a4)) (q := 32) rfl (s_fa rfl fo_55_4 ?_)
    refine n_op (.yes rfl rfl (strn_f a4)) (q := 33) rfl (s_ld rfl (by repeat (first | exact gs_same _ _ _ | refine (gs_ne (by omega) _).trans ?_)) ag_2 (by first | exact rfl) ?_)
    refine n_op (.yes rfl rfl (strn_f a4)) (q := 34) rfl (s_bin rfl rfl rfl ?_)
    refine n_op .no (q := 35) rfl (s_pf rfl (strn_f a4) rfl ?_)
    refine n_op .no (q := 36) rfl (s_mv rfl ?_)
    first | refine n_op (.yes rfl rfl (bne_eq_false_iff_eq.2 a5)) (q := 37) rfl (s_fa0 rfl fo_55_5 ?_) | refine n_op (.yes rfl rfl (bne_eq_false_iff_eq.2 a5)) (q := 37) rfl (s_fa rfl fo_55_5 ?_)
    first | refine n_op (.yes rfl rfl (bne_eq_false_iff_eq.2 a5)) (q := 38) rfl (s_fa0 rfl fo_42_0 ?_) | refine n_op (.yes rfl rfl (bne_eq_false_iff_eq.2 a5)) (q := 38) rfl (s_fa rfl fo_42_0 ?_)
    refine n_op (.yes rfl rfl (bne_eq_false_iff_eq.2 a5)) (q := 39) rfl (s_ld rfl (by repeat (first | exact gs_same _ _ _ | refine (gs_ne (by omega) _).trans ?_)) ag_37 (by first | exact rfl) ?_)
    refine n_op (.yes rfl rfl (bne_eq_false_iff_eq.2 a5)) (q := 40) rfl (s_len rfl rfl un_37 rfl ?_)
    first | refine n_op (.yes rfl rfl (bne_eq_false_iff_eq.2 a5)) (q := 41) rfl (s_fa0 rfl fo_55_5 ?_) | refine n_op (.yes rfl rfl (bne_eq_false_iff_eq.2 a5)) (q := 41) rfl (s_fa rfl fo_55_5 ?_)
    first | refine n_op (.yes rfl rfl (bne_eq_false_iff_eq.2 a5)) (q := 42) rfl (s_fa0 rfl fo_42_0 ?_) | refine n_op (.yes rfl rfl (bne_eq_false_iff_eq.2 a5)) (q := 42) rfl (s_fa rfl fo_42_0 ?_)
    refine n_op (.yes rfl rfl (bne_eq_false_iff_eq.2 a5)) (q := 43) rfl (s_ld rfl (by repeat (first | exact gs_same _ _ _ | refine (gs_ne (by omega) _).trans ?_)) ag_37 (by first | exact rfl) ?_)
    refine n_op (.yes rfl rfl (bne_eq_false_iff_eq.2 a5)) (q := 44) rfl (s_len rfl rfl un_37 rfl ?_)
    refine n_op (.yes rfl rfl (bne_eq_false_iff_eq.2 a5)) (q := 45) rfl (s_bin rfl rfl rfl ?_)
    refine n_op .no (q := 46) rfl (s_pf rfl (bne_eq_false_iff_eq.2 a5) rfl ?_)
    refine n_op .no (q := 47) rfl (s_mv rfl ?_)
    first | refine n_op (.yes rfl rfl (bne_eq_false_iff_eq.2 (by omega))) (q := 48) rfl (s_fa0 rfl fo_55_5 ?_) | refine n_op (.yes rfl rfl (bne_eq_false_iff_eq.2 (by omega))) (q := 48) rfl (s_fa rfl fo_55_5 ?_)
    first | refine n_op (.yes rfl rfl (bne_eq_false_iff_eq.2 (by omega))) (q := 49) rfl (s_fa0 rfl fo_42_1 ?_) | refine n_op (.yes rfl rfl (bne_eq_false_iff_eq.2 (by omega))) (q := 49) rfl (s_fa rfl fo_42_1 ?_)
    refine n_op (.yes rfl rfl (bne_eq_false_iff_eq.2 (by omega))) (q := 50) rfl (s_ld rfl (by repeat (first | exact gs_same _ _ _ | refine (gs_ne (by omega) _).trans ?_)) ag_40 (by first | exact rfl) ?_)
    refine n_op (.yes rfl rfl (bne_eq_false_iff_eq.2 (by omega))) (q := 51) rfl (s_len rfl rfl un_40 rfl ?_)
    first | refine n_op (.yes rfl rfl (bne_eq_false_iff_eq.2 (by omega))) (q := 52) rfl (s_fa0 rfl fo_55_5 ?_) | refine n_op (.yes rfl rfl (bne_eq_false_iff_eq.2 (by omega))) (q := 52) rfl (s_fa rfl fo_55_5 ?_)
    first | refine n_op (.yes rfl rfl (bne_eq_false_iff_eq.2 (by omega))) (q := 53) rfl (s_fa0 rfl fo_42_1 ?_) | refine n_op (.yes rfl rfl (bne_eq_false_iff_eq.2 (by omega))) (q := 53) rfl (s_fa rfl fo_42_1 ?_)
    refine n_op (.yes rfl rfl (bne_eq_false_iff_eq.2 (by omega))) (q := 54) rfl (s_ld rfl (by repeat (first | exact gs_same _ _ _ | refine (gs_ne (by omega) _).trans ?_)) ag_40 (by first | exact rfl) ?_)
    refine n_op (.yes rfl rfl (bne_eq_false_iff_eq.2 (by omega))) (q := 55) rfl (s_len rfl rfl un_40 rfl ?_)
    refine n_op (.yes rfl rfl (bne_eq_false_iff_eq.2 (by omega))) (q := 56) rfl (s_bin rfl rfl rfl ?_)
    refine n_op .no (q := 57) rfl (s_pf rfl (bne_eq_false_iff_eq.2 (by omega)) rfl ?_)
    refine n_nil ?_
    repeat (first | refine w_seq ?_ | refine w_blk ?_ | refine z_seq ?_ | refine z_blk ?_ | refine w_skip ?_)
    refine w_yes rfl (bne_iff_ne.2 (by omega)) ?_
    repeat (first | refine w_seq ?_ | refine w_blk ?_ | refine z_seq ?_ | refine z_blk ?_ | refine w_skip ?_)
    refine w_reg 1 rfl rfl (j' := 59) ?_
    refine n_op .no (q := 58) rfl (s_as rfl ?_)
    refine n_nil ?_
    repeat (first | refine w_ret ?_ | refine w_seq ?_ | refine w_blk ?_ | refine z_seq ?_ | refine z_blk ?_ | refine w_skip ?_)
    refine z_r1 rfl rfl ?_
    exact ⟨⟨_, rfl, ⟨fun h => (by cases h), fun h => absurd (by rw [h]) a7⟩⟩, (by repeat (first | exact Kp.refl _ _ _ | refine Kp.new ?_ (by omega) _))⟩
  repeat (first | refine w_seq ?_ | refine w_blk ?_ | refine z_seq ?_ | refine z_blk ?_ | refine w_skip ?_)
  refine w_reg 55 rfl rfl (j' := 58) ?_
  first | refine n_op .no (q := 3) rfl (s_fa0 rfl fo_55_0 ?_) | refine n_op .no (q := 3) rfl (s_fa rfl fo_55_0 ?_)
  refine n_op .no (q := 4) rfl (s_ld rfl (by repeat (first | exact gs_same _ _ _ | refine (gs_ne (by omega) _).trans ?_)) ag_3 (by first | exact rfl) ?_)
  first | refine n_op .no (q := 5) rfl (s_fa0 rfl fo_55_0 ?_) | refine n_op .no (q := 5) rfl (s_fa rfl fo_55_0 ?_)
  refine n_op .no (q := 6) rfl (s_ld rfl (by repeat (first | exact gs_same _ _ _ | refine (gs_ne (by omega) _).trans ?_)) ag_3 (by first | exact rfl) ?_)
  refine n_op .no (q := 7) rfl (s_bin rfl rfl rfl ?_)
  refine n_op .no (q := 8) rfl (s_mv rfl ?_)
  first | refine n_op (.yes rfl rfl (bne_eq_false_iff_eq.2 a1)) (q := 9) rfl (s_fa0 rfl fo_55_1 ?_) | refine n_op (.yes rfl rfl (bne_eq_false_iff_eq.2 a1)) (q := 9) rfl (s_fa rfl fo_55_1 ?_)
  refine n_op (.yes rfl rfl (bne_eq_false_iff_eq.2 a1)) (q := 10) rfl (s_ld rfl (by repeat (first | exact gs_same _ _ _ | refine (gs_ne (by omega) _).trans ?_)) ag_2 (by first | exact rfl) ?_)
  first | refine n_op (.yes rfl rfl (bne_eq_false_iff_eq.2 a1)) (q := 11) rfl (s_fa0 rfl fo_55_1 ?_) | refine n_op (.yes rfl rfl (bne_eq_false_iff_eq.2 a1)) (q := 11) rfl (s_fa rfl fo_55_1 ?_)
  refine n_op (.yes rfl rfl (bne_eq_false_iff_eq.2 a1)) (q := 12) rfl (s_ld rfl (by repeat (first | exact gs_same _ _ _ | refine (gs_ne (by omega) _).trans ?_)) ag_2 (by first | exact rfl) ?_)
  refine n_op (.yes rfl rfl (bne_eq_false_iff_eq.2 a1)) (q := 13) rfl (s_bin rfl rfl rfl ?_)
  refine n_op .no (q := 14) rfl (s_pf rfl (bne_eq_false_iff_eq.2 a1) rfl ?_)
  refine n_op .no (q := 15) rfl (s_mv rfl ?_)
  first | refine n_op (.yes rfl rfl (bne_eq_false_iff_eq.2 a2)) (q := 16) rfl (s_fa0 rfl fo_55_2 ?_) | refine n_op (.yes rfl rfl (bne_eq_false_iff_eq.2 a2)) (q := 16) rfl (s_fa rfl fo_55_2 ?_)
  refine n_op (.yes rfl rfl (bne_eq_false_iff_eq.2 a2)) (q := 17) rfl (s_ld rfl (by repeat (first | exact gs_same _ _ _ | refine (gs_ne (by omega) _).trans ?_)) ag_3 (by first | exact rfl) ?_)
  first | refine n_op (.yes rfl rfl (bne_eq_false_iff_eq.2 a2)) (q := 18) rfl (s_fa0 rfl fo_55_2 ?_) | refine n_op (.yes rfl rfl (bne_eq_false_iff_eq.2 a2)) (q := 18) rfl (s_fa rfl fo_55_2 ?_)
  refine n_op (.yes rfl rfl (bne_eq_false_iff_eq.2 a2)) (q := 19) rfl (s_ld rfl (by repeat (first | exact gs_same _ _ _ | refine (gs_ne (by omega) _).trans ?_)) ag_3 (by first | exact rfl) ?_)
  refine n_op (.yes rfl rfl (bne_eq_false_iff_eq.2 a2)) (q := 20) rfl (s_bin rfl rfl rfl ?_)
  refine n_op .no (q := 21) rfl (s_pf rfl (bne_eq_false_iff_eq.2 a2) rfl ?_)
  refine n_op .no (q := 22) rfl (s_mv rfl ?_)
  first | refine n_op (.yes rfl rfl (bne_eq_false_iff_eq.2 a3)) (q := 23) rfl (s_fa0 rfl fo_55_3 ?_) | refine n_op (.yes rfl rfl (bne_eq_false_iff_eq.2 a3)) (q := 23) rfl (s_fa rfl fo_55_3 ?_)
  refine n_op (.yes rfl rfl (bne_eq_false_iff_eq.2 a3)) (q := 24) rfl (s_ld rfl (by repeat (first | exact gs_same _ _ _ | refine (gs_ne (by omega) _).trans ?_)) ag_9 (by first | exact rfl) ?_)
  first | refine n_op (.yes rfl rfl (bne_eq_false_iff_eq.2 a3)) (q := 25) rfl (s_fa0 rfl fo_55_3 ?_) | refine n_op (.yes rfl rfl (bne_eq_false_iff_eq.2 a3)) (q := 25) rfl (s_fa rfl fo_55_3 ?_)
  refine n_op (.yes rfl rfl (bne_eq_false_iff_eq.2 a3)) (q := 26) rfl (s_ld rfl (by repeat (first | exact gs_same _ _ _ | refine (gs_ne (by omega) _).trans ?_)) ag_9 (by first | exact rfl) ?_)
  refine n_op (.yes rfl rfl (bne_eq_false_iff_eq.2 a3)) (q := 27) rfl (s_bin rfl rfl rfl ?_)
  refine n_op .no (q := 28) rfl (s_pf rfl (bne_eq_false_iff_eq.2 a3) rfl ?_)
  refine n_op .no (q := 29) rfl (s_mv rfl ?_)
  first | refine n_op (.yes rfl rfl (strn_f a4)) (q := 30) rfl (s_fa0 rfl fo_55_4 ?_) | refine n_op (.yes rfl rfl (strn_f a4)) (q := 30) rfl (s_fa rfl fo_55_4 ?_)
  refine n_op (.yes rfl rfl (strn_f a4)) (q := 31) rfl (s_ld rfl (by repeat (first | exact gs_same _ _ _ | refine (gs_ne (by omega) _).trans ?_)) ag_2 (by first | exact rfl) ?_)
  first | refine n_op (.yes rfl rfl (strn_f a4)) (q := 32) rfl (s_fa0 rfl fo_55_4 ?_) | refine n_op (.yes rfl rfl (strn_f a4)) (q := 32) rfl (s_fa rfl fo_55_4 ?_)
  refine n_op (.yes rfl rfl (strn_f a4)) (q := 33) rfl (s_ld rfl (by repeat (first | exact gs_same _ _ _ | refine (gs_ne (by omega) _).trans ?_)) ag_2 (by first | exact rfl) ?_)
  refine n_op (.yes rfl rfl (strn_f a4)) (q := 34) rfl (s_bin rfl rfl rfl ?_)
  refine n_op .no (q := 35) rfl (s_pf rfl (strn_f a4) rfl ?_)
  refine n_op .no (q := 36) rfl (s_mv rfl ?_)
  first | refine n_op (.yes rfl rfl (bne_eq_false_iff_eq.2 a5)) (q := 37) rfl (s_fa0 rfl fo_55_5 ?_) | refine n_op (.yes rfl rfl (bne_eq_false_iff_eq.2 a5)) (q := 37) rfl (s_fa rfl fo_55_5 ?_)
  first | refine n_op (.yes rfl rfl (bne_eq_false_iff_eq.2 a5)) (q := 38) rfl (s_fa0 rfl fo_42_0 ?_) | refine n_op (.yes rfl rfl (bne_eq_false_iff_eq.2 a5)) (q := 38) rfl (s_fa rfl fo_42_0 ?_)
  refine n_op (.yes rfl rfl (bne_eq_false_iff_eq.2 a5)) (q := 39) rfl (s_ld rfl (by repeat (first | exact gs_same _ _ _ | refine (gs_ne (by omega) _).trans ?_)) ag_37 (by first | exact rfl) ?_)
  refine n_op (.yes rfl rfl (bne_eq_false_iff_eq.2 a5)) (q := 40) rfl (s_len rfl rfl un_37 rfl ?_)
  first | refine n_op (.yes rfl rfl (bne_eq_false_iff_eq.2 a5)) (q := 41) rfl (s_fa0 rfl fo_55_5 ?_) | refine n_op (.yes rfl rfl (bne_eq_false_iff_eq.2 a5)) (q := 41) rfl (s_fa rfl fo_55_5 ?_)
  first | refine n_op (.yes rfl rfl (bne_eq_false_iff_eq.2 a5)) (q := 42) rfl (s_fa0 rfl fo_42_0 ?_) | refine n_op (.yes rfl rfl (bne_eq_false_iff_eq.2 a5)) (q := 42) rfl (s_fa rfl fo_42_0 ?_)
  refine n_op (.yes rfl rfl (bne_eq_false_iff_eq.2 a5)) (q := 43) rfl (s_ld rfl (by repeat (first | exact gs_same _ _ _ | refine (gs_ne (by omega) _).trans ?_)) ag_37 (by first | exact rfl) ?_)
  refine n_op (.yes rfl rfl (bne_eq_false_iff_eq.2 a5)) (q := 44) rfl (s_len rfl rfl un_37 rfl ?_)
  refine n_op (.yes rfl rfl (bne_eq_false_iff_eq.2 a5)) (q := 45) rfl (s_bin rfl rfl rfl ?_)
  refine n_op .no (q := 46) rfl (s_pf rfl (bne_eq_false_iff_eq.2 a5) rfl ?_)
  refine n_op .no (q := 47) rfl (s_mv rfl ?_)
  first | refine n_op (.yes rfl rfl (bne_eq_false_iff_eq.2 (by omega))) (q := 48) rfl (s_fa0 rfl fo_55_5 ?_) | refine n_op (.yes rfl rfl (bne_eq_false_iff_eq.2 (by omega))) (q := 48) rfl (s_fa rfl fo_55_5 ?_)
  first | refine n_op (.yes rfl rfl (bne_eq_false_iff_eq.2 (by omega))) (q := 49) rfl (s_fa0 rfl fo_42_1 ?_) | refine n_op (.yes rfl rfl (bne_eq_false_iff_eq.2 (by omega))) (q := 49) rfl (s_fa rfl fo_42_1 ?_)
  refine n_op (.yes rfl rfl (bne_eq_false_iff_eq.2 (by omega))) (q := 50) rfl (s_ld rfl (by repeat (first | exact gs_same _ _ _ | refine (gs_ne (by omega) _).trans ?_)) ag_40 (by first | exact rfl) ?_)
  refine n_op (.yes rfl rfl (bne_eq_false_iff_eq.2 (by omega))) (q := 51) rfl (s_len rfl rfl un_40 rfl ?_)
  first | refine n_op (.yes rfl rfl (bne_eq_false_iff_eq.2 (by omega))) (q := 52) rfl (s_fa0 rfl fo_55_5 ?_) | refine n_op (.yes rfl rfl (bne_eq_false_iff_eq.2 (by omega))) (q := 52) rfl (s_fa rfl fo_55_5 ?_)
  first | refine n_op (.yes rfl rfl (bne_eq_false_iff_eq.2 (by omega))) (q := 53) rfl (s_fa0 rfl fo_42_1 ?_) | refine n_op (.yes rfl rfl (bne_eq_false_iff_eq.2 (by omega))) (q := 53) rfl (s_fa rfl fo_42_1 ?_)
  refine n_op (.yes rfl rfl (bne_eq_false_iff_eq.2 (by omega))) (q := 54) rfl (s_ld rfl (by repeat (first | exact gs_same _ _ _ | refine (gs_ne (by omega) _).trans ?_)) ag_40 (by first | exact rfl) ?_)
  refine n_op (.yes rfl rfl (bne_eq_false_iff_eq.2 (by omega))) (q := 55) rfl (s_len rfl rfl un_40 rfl ?_)
  refine n_op (.yes rfl rfl (bne_eq_false_iff_eq.2 (by omega))) (q := 56) rfl (s_bin rfl rfl rfl ?_)
  refine n_op .no (q := 57) rfl (s_pf rfl (bne_eq_false_iff_eq.2 (by omega)) rfl ?_)
  refine n_nil ?_
  repeat (first | refine w_seq ?_ | refine w_blk ?_ | refine z_seq ?_ | refine z_blk ?_ | refine w_skip ?_)
  refine w_no rfl (bne_eq_false_iff_eq.2 (by omega)) ?_
  repeat (first | refine w_seq ?_ | refine w_blk ?_ | refine z_seq ?_ | refine z_blk ?_ | refine w_skip ?_)
  refine w_gen fun g5 n5 hg5 hn5 hwg5 => ?_
  have k5 : K0 g n g5 := by rw [hg5]; exact (by repeat (first | exact Kp.refl _ _ _ | refine Kp.new ?_ (by omega) _))
  have x5 : g5 n = some (.cells (calC x (.slice ax x.gs.length cx) (.slice bx x.ws.length dx)) 0 false) := by rw [hg5]; exact (by repeat (first | exact gs_same _ _ _ | refine (gs_ne (by omega) _).trans ?_))
  have y5 : g5 (n + 1) = some (.cells (calC y (.slice ay y.gs.length cy) (.slice by_ y.ws.length dy)) 0 false) := by rw [hg5]; exact (by repeat (first | exact gs_same _ _ _ | refine (gs_ne (by omega) _).trans ?_))
  have hA := h1.kp0 k5 hw
  have hB := h2.kp0 k5 hw
  clear hg5
  repeat (first | refine w_seq ?_ | refine w_blk ?_ | refine z_seq ?_ | refine z_blk ?_ | refine w_skip ?_)
  refine w_reg 5 rfl rfl (j' := 5) ?_
  first | refine n_op .no (q := 0) rfl (s_fa0 rfl fo_55_5 ?_) | refine n_op .no (q := 0) rfl (s_fa rfl fo_55_5 ?_)
  first | refine n_op .no (q := 1) rfl (s_fa0 rfl fo_42_0 ?_) | refine n_op .no (q := 1) rfl (s_fa rfl fo_42_0 ?_)
  refine n_op .no (q := 2) rfl (s_ld rfl (by repeat (first | exact gs_same _ _ _ | exact x5 | refine (gs_ne (by omega) _).trans ?_)) ag_37 (by first | exact rfl | exact x5) ?_)
  refine n_op .no (q := 3) rfl (s_len rfl rfl un_37 rfl ?_)
  refine n_op .no (q := 4) rfl (s_mv rfl ?_)
  refine n_nil ?_
  refine z_seq ?_
  refine z_meet (β := Unit) (fun _ => [(2, .pointer (some ⟨n, 0, none⟩)), (3, .pointer (some ⟨n + 1, 0, none⟩))])
    (fun _ g' n' => n5 ≤ n' ∧ K0 g5 n5 g' ∧ x.gs = y.gs) ?_ ?_
  · repeat (first | refine w_seq ?_ | refine w_blk ?_ | refine z_seq ?_ | refine z_blk ?_ | refine w_skip ?_)
    refine w_loop (β := Nat) (fun i => [(2, .pointer (some ⟨n, 0, none⟩)), (3, .pointer (some ⟨n + 1, 0, none⟩)), (67, .int .i64 x.gs.length), (68, .int .i64 i)])
      (fun i g' n' => i ≤ x.gs.length ∧ n5 ≤ n' ∧ K0 g5 n5 g' ∧ x.gs.take i = y.gs.take i) (fun i => x.gs.length - i) 0 ⟨rfl, rfl, rfl, rfl, trivial⟩ ⟨by omega, by omega, (by repeat (first | exact Kp.refl _ _ _ | refine Kp.new ?_ (by omega) _)), rfl⟩ ?_
    rintro i f g6 n6 hw6 ⟨hi, hn6, k6, ht⟩
    repeat (first | refine w_seq ?_ | refine w_blk ?_ | refine z_seq ?_ | refine z_blk ?_ | refine w_skip ?_)
    refine w_reg 1 rfl rfl (j' := 1) ?_
    refine n_op .no (q := 0) rfl (s_bin rfl rfl rfl ?_)
    refine n_nil ?_
    repeat (first | refine w_seq ?_ | refine w_blk ?_ | refine z_seq ?_ | refine z_blk ?_ | refine w_skip ?_)
    refine w_if rfl (fun hb => ?_) (fun hb => ?_)
    · have hi : i < x.gs.length := by simpa using hb
      have hi2 : i < y.gs.length := by omega
      obtain ⟨l3, o3, c3, cl3, ro3, p1, p2, p0, p5⟩ := (hA.gs.kp0 k6 hwg5).at hi
      cases p1
      obtain ⟨l4, o4, c4, cl4, ro4, q1, q2, q0, q5⟩ := (hB.gs.kp0 k6 hwg5).at hi2
      cases q1
      have x6 := k6.at0 hwg5 x5
      have y6 := k6.at0 hwg5 y5
      repeat (first | refine w_seq ?_ | refine w_blk ?_ | refine z_seq ?_ | refine z_blk ?_ | refine w_skip ?_)
      refine w_reg 2 rfl rfl (j' := 3) ?_
      refine n_op .no (q := 1) rfl (s_mv rfl ?_)
      refine n_op .no (q := 2) rfl (s_as rfl ?_)
      refine n_nil ?_
      repeat (first | refine w_seq ?_ | refine w_blk ?_ | refine z_seq ?_ | refine z_blk ?_ | refine w_skip ?_)
      refine w_drw (T6 34 6) [(0, []), (1, []), (2, []), (3, [2]), (4, []), (5, []), (6, [2, 5]), (7, [2, 5]), (8, [2, 5]), (9, [2, 5, 8]), (10, [2, 5]), (11, [2, 5]), (12, [])] 13 (by kernel_rfl) rfl rfl (j' := 16) ?_
      first | refine d_op rfl rfl .no (q := 3) rfl (s_fa0 rfl fo_55_5 ⟨⟨rfl, rfl⟩, ?_⟩) | refine d_op rfl rfl .no (q := 3) rfl (s_fa rfl fo_55_5 ⟨⟨rfl, rfl⟩, ?_⟩)
      first | refine d_op rfl rfl .no (q := 4) rfl (s_fa0 rfl fo_42_0 ⟨⟨rfl, rfl⟩, ?_⟩) | refine d_op rfl rfl .no (q := 4) rfl (s_fa rfl fo_42_0 ⟨⟨rfl, rfl⟩, ?_⟩)
      refine d_tc rfl rfl rfl .no (q := 5) rfl (s_ld rfl (by repeat (first | exact gs_same _ _ _ | exact x6 | exact y6 | exact p2 | exact q2 | exact p5 | exact q5 | refine (gs_ne (by omega) _).trans ?_)) ag_37 (by first | exact rfl | exact x6 | exact y6 | exact p2 | exact q2 | exact p5 | exact q5) ⟨clash_nil, ?_⟩)
      refine d_op rfl rfl .no (q := 6) rfl (s_mv rfl ⟨⟨rfl, rfl⟩, ?_⟩)
      refine d_op rfl rfl .no (q := 7) rfl (s_ia rfl rfl el_37 (by first | assumption | omega) ⟨⟨rfl, rfl⟩, ?_⟩)
      refine d_tc rfl rfl rfl .no (q := 8) rfl (s_lda rfl (by repeat (first | exact gs_same _ _ _ | exact x6 | exact y6 | exact p2 | exact q2 | exact p5 | exact q5 | refine (gs_ne (by omega) _).trans ?_)) ag_36 sz_36 (by first | exact Nat.le_of_ble_eq_true rfl | assumption | omega) (by first | exact x6 | exact y6 | exact p2 | exact q2 | exact p5 | exact q5 | exact rfl) ⟨clash_nil, ?_⟩)
      first | refine d_op rfl rfl .no (q := 9) rfl (s_fa0 rfl fo_55_5 ⟨⟨rfl, rfl⟩, ?_⟩) | refine d_op rfl rfl .no (q := 9) rfl (s_fa rfl fo_55_5 ⟨⟨rfl, rfl⟩, ?_⟩)
      first | refine d_op rfl rfl .no (q := 10) rfl (s_fa0 rfl fo_42_0 ⟨⟨rfl, rfl⟩, ?_⟩) | refine d_op rfl rfl .no (q := 10) rfl (s_fa rfl fo_42_0 ⟨⟨rfl, rfl⟩, ?_⟩)
      refine d_tc rfl rfl rfl .no (q := 11) rfl (s_ld rfl (by repeat (first | exact gs_same _ _ _ | exact x6 | exact y6 | exact p2 | exact q2 | exact p5 | exact q5 | refine (gs_ne (by omega) _).trans ?_)) ag_37 (by first | exact rfl | exact x6 | exact y6 | exact p2 | exact q2 | exact p5 | exact q5) ⟨clash_rd rfl, ?_⟩)
      refine d_op rfl rfl .no (q := 12) rfl (s_mv rfl ⟨⟨rfl, rfl⟩, ?_⟩)
      refine d_op rfl rfl .no (q := 13) rfl (s_ia rfl rfl el_37 (by first | assumption | omega) ⟨⟨rfl, rfl⟩, ?_⟩)
      refine d_tc rfl rfl rfl .no (q := 14) rfl (s_lda rfl (by repeat (first | exact gs_same _ _ _ | exact x6 | exact y6 | exact p2 | exact q2 | exact p5 | exact q5 | refine (gs_ne (by omega) _).trans ?_)) ag_36 sz_36 (by first | exact Nat.le_of_ble_eq_true rfl | assumption | omega) (by first | exact x6 | exact y6 | exact p2 | exact q2 | exact p5 | exact q5 | exact rfl) ⟨clash_rd rfl, ?_⟩)
      refine d_op rfl rfl .no (q := 15) rfl (s_neG x.gs[i] y.gs[i] rfl rfl ⟨⟨rfl, rfl⟩, ?_⟩)
      refine d_nil ?_
      by_cases he : x.gs[i] = y.gs[i]
      · repeat (first | refine w_seq ?_ | refine w_blk ?_ | refine z_seq ?_ | refine z_blk ?_ | refine w_skip ?_)
        refine w_no rfl (by simp [he]) ?_
        repeat (first | refine w_seq ?_ | refine w_blk ?_ | refine z_seq ?_ | refine z_blk ?_ | refine w_skip ?_)
        repeat (first | refine w_seq ?_ | refine w_blk ?_ | refine z_seq ?_ | refine z_blk ?_ | refine w_skip ?_)
        refine w_reg 2 rfl rfl (j' := 18) ?_
        first | refine n_op .no (q := 16) rfl (s_bin rfl rfl (bi_inc (by omega)) ?_) | refine n_op .no (q := 16) rfl (s_bin rfl rfl (bi_add rfl (by omega) (by omega)) ?_)
        refine n_op .no (q := 17) rfl (s_mv rfl ?_)
        refine n_nil ?_
        exact z_round (i + 1) ⟨rfl, rfl, rfl, rfl, trivial⟩ ⟨hi, by omega, k6, by rw [List.take_succ_eq_append_getElem hi, List.take_succ_eq_append_getElem hi2, ht, he]⟩ (by omega)
      · repeat (first | refine w_seq ?_ | refine w_blk ?_ | refine z_seq ?_ | refine z_blk ?_ | refine w_skip ?_)
        refine w_yes rfl (by simp [he]) ?_
        repeat (first | refine w_seq ?_ | refine w_blk ?_ | refine z_seq ?_ | refine z_blk ?_ | refine w_skip ?_)
        refine w_reg 1 rfl rfl (j' := 17) ?_
        refine n_op .no (q := 16) rfl (s_as rfl ?_)
        refine n_nil ?_
        repeat (first | refine w_ret ?_ | refine w_seq ?_ | refine w_blk ?_ | refine z_seq ?_ | refine z_blk ?_ | refine w_skip ?_)
        refine z_r1 rfl rfl ?_
        exact ⟨⟨_, rfl, ⟨fun h => (by cases h), fun h => absurd (by simp only [h]) he⟩⟩, k5.trans0 k6 (by omega)⟩
    · refine w_exit rfl ?_
      have : i = x.gs.length := by simp at hb; omega
      subst this
      rw [List.take_length, a6, List.take_length] at ht
      exact z_met () ⟨rfl, rfl, trivial⟩ ⟨by omega, k6, ht⟩
  rintro _ f g6 n6 hw6 ⟨hn6, k6, hgs⟩
  have x6 := k6.at0 hwg5 x5
  repeat (first | refine w_seq ?_ | refine w_blk ?_ | refine z_seq ?_ | refine z_blk ?_ | refine w_skip ?_)
  refine w_reg 5 rfl rfl (j' := 5) ?_
  first | refine n_op .no (q := 0) rfl (s_fa0 rfl fo_55_5 ?_) | refine n_op .no (q := 0) rfl (s_fa rfl fo_55_5 ?_)
  first | refine n_op .no (q := 1) rfl (s_fa0 rfl fo_42_1 ?_) | refine n_op .no (q := 1) rfl (s_fa rfl fo_42_1 ?_)
  refine n_op .no (q := 2) rfl (s_ld rfl (by repeat (first | exact gs_same _ _ _ | exact x6 | refine (gs_ne (by omega) _).trans ?_)) ag_40 (by first | exact rfl | exact x6) ?_)
  refine n_op .no (q := 3) rfl (s_len rfl rfl un_40 rfl ?_)
  refine n_op .no (q := 4) rfl (s_mv rfl ?_)
  refine n_nil ?_
  repeat (first | refine w_seq ?_ | refine w_blk ?_ | refine z_seq ?_ | refine z_blk ?_ | refine w_skip ?_)
  refine w_loop (β := Nat) (fun i => [(2, .pointer (some ⟨n, 0, none⟩)), (3, .pointer (some ⟨n + 1, 0, none⟩)), (88, .int .i64 x.ws.length), (89, .int .i64 i)])
    (fun i g' n' => i ≤ x.ws.length ∧ n5 ≤ n' ∧ K0 g5 n5 g' ∧ x.ws.take i = y.ws.take i) (fun i => x.ws.length - i) 0 ⟨rfl, rfl, rfl, rfl, trivial⟩ ⟨by omega, by omega, k6, rfl⟩ ?_
  clear x6 k6
  rintro i f g6 n6 hw6 ⟨hi, hn6, k6, ht⟩
  repeat (first | refine w_seq ?_ | refine w_blk ?_ | refine z_seq ?_ | refine z_blk ?_ | refine w_skip ?_)
  refine w_reg 1 rfl rfl (j' := 1) ?_
  refine n_op .no (q := 0) rfl (s_bin rfl rfl rfl ?_)
  refine n_nil ?_
  repeat (first | refine w_seq ?_ | refine w_blk ?_ | refine z_seq ?_ | refine z_blk ?_ | refine w_skip ?_)
  refine w_if rfl (fun hb => ?_) (fun hb => ?_)
  · have hi : i < x.ws.length := by simpa using hb
    have hi2 : i < y.ws.length := by omega
    obtain ⟨l3, o3, c3, cl3, ro3, s3, t3, p1, p2, p0, p5, p6⟩ := (hA.ws.kp0 k6 hwg5).at hi
    cases p1
    obtain ⟨l4, o4, c4, cl4, ro4, s4, t4, q1, q2, q0, q5, q6⟩ := (hB.ws.kp0 k6 hwg5).at hi2
    cases q1
    have hp2 := hw6 _ _ p2
    have hq2 := hw6 _ _ q2
    have x6 := k6.at0 hwg5 x5
    have y6 := k6.at0 hwg5 y5
    have hx6 := hw6 _ _ x6
    have hy6 := hw6 _ _ y6
    repeat (first | refine w_seq ?_ | refine w_blk ?_ | refine z_seq ?_ | refine z_blk ?_ | refine w_skip ?_)
    refine w_reg 2 rfl rfl (j' := 3) ?_
    refine n_op .no (q := 1) rfl (s_mv rfl ?_)
    refine n_op .no (q := 2) rfl (s_as rfl ?_)
    refine n_nil ?_
    repeat (first | refine w_seq ?_ | refine w_blk ?_ | refine z_seq ?_ | refine z_blk ?_ | refine w_skip ?_)
    refine w_drw (T6 34 12) [(0, []), (1, []), (2, []), (3, [2]), (4, []), (5, []), (6, [2, 5]), (7, [2, 5]), (8, [2, 5]), (9, [2, 5, 8]), (10, [2, 5]), (11, [2, 5]), (12, [2, 5, 8, 11]), (13, [2, 5, 8, 11, 12]), (14, [8, 11]), (15, [])] 16 (by kernel_rfl) rfl rfl (j' := 19) ?_
    first | refine d_op rfl rfl .no (q := 3) rfl (s_fa0 rfl fo_55_5 ⟨⟨rfl, rfl⟩, ?_⟩) | refine d_op rfl rfl .no (q := 3) rfl (s_fa rfl fo_55_5 ⟨⟨rfl, rfl⟩, ?_⟩)
    first | refine d_op rfl rfl .no (q := 4) rfl (s_fa0 rfl fo_42_1 ⟨⟨rfl, rfl⟩, ?_⟩) | refine d_op rfl rfl .no (q := 4) rfl (s_fa rfl fo_42_1 ⟨⟨rfl, rfl⟩, ?_⟩)
    refine d_tc rfl rfl rfl .no (q := 5) rfl (s_ld rfl (by repeat (first | exact gs_same _ _ _ | exact x6 | exact y6 | exact p2 | exact q2 | exact p5 | exact q5 | refine (gs_ne (by omega) _).trans ?_)) ag_40 (by first | exact rfl | exact x6 | exact y6 | exact p2 | exact q2 | exact p5 | exact q5) ⟨clash_nil, ?_⟩)
    refine d_op rfl rfl .no (q := 6) rfl (s_mv rfl ⟨⟨rfl, rfl⟩, ?_⟩)
    refine d_op rfl rfl .no (q := 7) rfl (s_ia rfl rfl el_40 (by first | assumption | omega) ⟨⟨rfl, rfl⟩, ?_⟩)
    refine d_tc rfl rfl rfl .no (q := 8) rfl (s_lda rfl (by repeat (first | exact gs_same _ _ _ | exact x6 | exact y6 | exact p2 | exact q2 | exact p5 | exact q5 | refine (gs_ne (by omega) _).trans ?_)) ag_39 sz_39 (by first | exact Nat.le_of_ble_eq_true rfl | assumption | omega) (by first | exact x6 | exact y6 | exact p2 | exact q2 | exact p5 | exact q5 | exact rfl) ⟨clash_nil, ?_⟩)
    first | refine d_op rfl rfl .no (q := 9) rfl (s_fa0 rfl fo_55_5 ⟨⟨rfl, rfl⟩, ?_⟩) | refine d_op rfl rfl .no (q := 9) rfl (s_fa rfl fo_55_5 ⟨⟨rfl, rfl⟩, ?_⟩)
    first | refine d_op rfl rfl .no (q := 10) rfl (s_fa0 rfl fo_42_1 ⟨⟨rfl, rfl⟩, ?_⟩) | refine d_op rfl rfl .no (q := 10) rfl (s_fa rfl fo_42_1 ⟨⟨rfl, rfl⟩, ?_⟩)
    refine d_tc rfl rfl rfl .no (q := 11) rfl (s_ld rfl (by repeat (first | exact gs_same _ _ _ | exact x6 | exact y6 | exact p2 | exact q2 | exact p5 | exact q5 | refine (gs_ne (by omega) _).trans ?_)) ag_40 (by first | exact rfl | exact x6 | exact y6 | exact p2 | exact q2 | exact p5 | exact q5) ⟨clash_rd rfl, ?_⟩)
    refine d_op rfl rfl .no (q := 12) rfl (s_mv rfl ⟨⟨rfl, rfl⟩, ?_⟩)
    refine d_op rfl rfl .no (q := 13) rfl (s_ia rfl rfl el_40 (by first | assumption | omega) ⟨⟨rfl, rfl⟩, ?_⟩)
    refine d_tc rfl rfl rfl .no (q := 14) rfl (s_lda rfl (by repeat (first | exact gs_same _ _ _ | exact x6 | exact y6 | exact p2 | exact q2 | exact p5 | exact q5 | refine (gs_ne (by omega) _).trans ?_)) ag_39 sz_39 (by first | exact Nat.le_of_ble_eq_true rfl | assumption | omega) (by first | exact x6 | exact y6 | exact p2 | exact q2 | exact p5 | exact q5 | exact rfl) ⟨clash_rd rfl, ?_⟩)
    refine d_al rfl rfl rfl .no (q := 15) rfl (s_al zl_39 ?_)
    refine d_al rfl rfl rfl .no (q := 16) rfl (s_al zl_39 ?_)
    refine d_tc rfl rfl rfl .no (q := 17) rfl (s_stw rfl rfl sz_39 rfl (by repeat (first | exact gs_same _ _ _ | exact x6 | exact y6 | exact p2 | exact q2 | exact p5 | exact q5 | refine (gs_ne (by omega) _).trans ?_)) (by exact rfl) rfl ⟨?_, ?_⟩)
    · (simp only [clashS, memN, cases2, neAll, ne1, if_true, if_false, Nat.reduceEqDiff, reduceIte, and_true, true_and]; omega)
    refine d_tc rfl rfl rfl .no (q := 18) rfl (s_stw rfl rfl sz_39 rfl (by repeat (first | exact gs_same _ _ _ | exact x6 | exact y6 | exact p2 | exact q2 | exact p5 | exact q5 | refine (gs_ne (by omega) _).trans ?_)) (by exact rfl) rfl ⟨clash_nil, ?_⟩)
    refine d_nil ?_
    by_cases b1 : x.ws[i].key = y.ws[i].key
    rotate_left
    · repeat (first | refine w_seq ?_ | refine w_blk ?_ | refine z_seq ?_ | refine z_blk ?_ | refine w_skip ?_)
      refine w_reg 20 rfl rfl (j' := 39) ?_
      first | refine n_op .no (q := 19) rfl (s_fa0 rfl fo_39_0 ?_) | refine n_op .no (q := 19) rfl (s_fa rfl fo_39_0 ?_)
      refine n_op .no (q := 20) rfl (s_ld rfl (by repeat (first | exact gs_same _ _ _ | refine (gs_ne (by omega) _).trans ?_)) ag_9 (by first | exact rfl) ?_)
      first | refine n_op .no (q := 21) rfl (s_fa0 rfl fo_39_0 ?_) | refine n_op .no (q := 21) rfl (s_fa rfl fo_39_0 ?_)
      refine n_op .no (q := 22) rfl (s_ld rfl (by repeat (first | exact gs_same _ _ _ | refine (gs_ne (by omega) _).trans ?_)) ag_9 (by first | exact rfl) ?_)
      refine n_op .no (q := 23) rfl (s_bin rfl rfl rfl ?_)
      refine n_op .no (q := 24) rfl (s_mv rfl ?_)
      refine n_sk rfl rfl (strn_t b1) ?_
      refine n_sk rfl rfl (strn_t b1) ?_
      refine n_sk rfl rfl (strn_t b1) ?_
      refine n_sk rfl rfl (strn_t b1) ?_
      refine n_sk rfl rfl (strn_t b1) ?_
      refine n_op .no (q := 30) rfl (s_pt rfl (strn_t b1) rfl ?_)
      refine n_op .no (q := 31) rfl (s_mv rfl ?_)
      refine n_sk rfl rfl (rfl) ?_
      refine n_sk rfl rfl (rfl) ?_
      refine n_sk rfl rfl (rfl) ?_
      refine n_sk rfl rfl (rfl) ?_
      refine n_sk rfl rfl (rfl) ?_
      refine n_sk rfl rfl (rfl) ?_
      refine n_op .no (q := 38) rfl (s_pt rfl (rfl) rfl ?_)
      refine n_nil ?_
      repeat (first | refine w_seq ?_ | refine w_blk ?_ | refine z_seq ?_ | refine z_blk ?_ | refine w_skip ?_)
      refine w_yes rfl (rfl) ?_
      repeat (first | refine w_seq ?_ | refine w_blk ?_ | refine z_seq ?_ | refine z_blk ?_ | refine w_skip ?_)
      refine w_reg 1 rfl rfl (j' := 40) ?_
      refine n_op .no (q := 39) rfl (s_as rfl ?_)
      refine n_nil ?_
      repeat (first | refine w_ret ?_ | refine w_seq ?_ | refine w_blk ?_ | refine z_seq ?_ | refine z_blk ?_ | refine w_skip ?_)
      refine z_r1 rfl rfl ?_
      exact ⟨⟨_, rfl, ⟨fun h => (by cases h), fun h => absurd (by simp only [h]) b1⟩⟩, Kp.trans0 (n' := n6) (k5.trans0 k6 (by omega)) (by repeat (first | exact Kp.refl _ _ _ | refine Kp.new ?_ (by omega) _)) (by omega)⟩
    by_cases b2 : x.ws[i].gone = y.ws[i].gone
    rotate_left
    · repeat (first | refine w_seq ?_ | refine w_blk ?_ | refine z_seq ?_ | refine z_blk ?_ | refine w_skip ?_)
      refine w_reg 20 rfl rfl (j' := 39) ?_
      first | refine n_op .no (q := 19) rfl (s_fa0 rfl fo_39_0 ?_) | refine n_op .no (q := 19) rfl (s_fa rfl fo_39_0 ?_)
      refine n_op .no (q := 20) rfl (s_ld rfl (by repeat (first | exact gs_same _ _ _ | refine (gs_ne (by omega) _).trans ?_)) ag_9 (by first | exact rfl) ?_)
      first | refine n_op .no (q := 21) rfl (s_fa0 rfl fo_39_0 ?_) | refine n_op .no (q := 21) rfl (s_fa rfl fo_39_0 ?_)
      refine n_op .no (q := 22) rfl (s_ld rfl (by repeat (first | exact gs_same _ _ _ | refine (gs_ne (by omega) _).trans ?_)) ag_9 (by first | exact rfl) ?_)
      refine n_op .no (q := 23) rfl (s_bin rfl rfl rfl ?_)
      refine n_op .no (q := 24) rfl (s_mv rfl ?_)
      first | refine n_op (.yes rfl rfl (strn_f b1)) (q := 25) rfl (s_fa0 rfl fo_39_2 ?_) | refine n_op (.yes rfl rfl (strn_f b1)) (q := 25) rfl (s_fa rfl fo_39_2 ?_)
      refine n_op (.yes rfl rfl (strn_f b1)) (q := 26) rfl (s_ld rfl (by repeat (first | exact gs_same _ _ _ | refine (gs_ne (by omega) _).trans ?_)) ag_4 (by first | exact rfl) ?_)
      first | refine n_op (.yes rfl rfl (strn_f b1)) (q := 27) rfl (s_fa0 rfl fo_39_2 ?_) | refine n_op (.yes rfl rfl (strn_f b1)) (q := 27) rfl (s_fa rfl fo_39_2 ?_)
      refine n_op (.yes rfl rfl (strn_f b1)) (q := 28) rfl (s_ld rfl (by repeat (first | exact gs_same _ _ _ | refine (gs_ne (by omega) _).trans ?_)) ag_4 (by first | exact rfl) ?_)
      refine n_op (.yes rfl rfl (strn_f b1)) (q := 29) rfl (s_bin rfl rfl (bi_d un_4 rfl) ?_)
      refine n_op .no (q := 30) rfl (s_pf rfl (strn_f b1) rfl ?_)
      refine n_op .no (q := 31) rfl (s_mv rfl ?_)
      refine n_sk rfl rfl (bne4 b2) ?_
      refine n_sk rfl rfl (bne4 b2) ?_
      refine n_sk rfl rfl (bne4 b2) ?_
      refine n_sk rfl rfl (bne4 b2) ?_
      refine n_sk rfl rfl (bne4 b2) ?_
      refine n_sk rfl rfl (bne4 b2) ?_
      refine n_op .no (q := 38) rfl (s_pt rfl (bne4 b2) rfl ?_)
      refine n_nil ?_
      repeat (first | refine w_seq ?_ | refine w_blk ?_ | refine z_seq ?_ | refine z_blk ?_ | refine w_skip ?_)
      refine w_yes rfl (rfl) ?_
      repeat (first | refine w_seq ?_ | refine w_blk ?_ | refine z_seq ?_ | refine z_blk ?_ | refine w_skip ?_)
      refine w_reg 1 rfl rfl (j' := 40) ?_
      refine n_op .no (q := 39) rfl (s_as rfl ?_)
      refine n_nil ?_
      repeat (first | refine w_ret ?_ | refine w_seq ?_ | refine w_blk ?_ | refine z_seq ?_ | refine z_blk ?_ | refine w_skip ?_)
      refine z_r1 rfl rfl ?_
      exact ⟨⟨_, rfl, ⟨fun h => (by cases h), fun h => absurd (by simp only [h]) b2⟩⟩, Kp.trans0 (n' := n6) (k5.trans0 k6 (by omega)) (by repeat (first | exact Kp.refl _ _ _ | refine Kp.new ?_ (by omega) _)) (by omega)⟩
    repeat (first | refine w_seq ?_ | refine w_blk ?_ | refine z_seq ?_ | refine z_blk ?_ | refine w_skip ?_)
    refine w_reg 20 rfl rfl (j' := 39) ?_
    first | refine n_op .no (q := 19) rfl (s_fa0 rfl fo_39_0 ?_) | refine n_op .no (q := 19) rfl (s_fa rfl fo_39_0 ?_)
    refine n_op .no (q := 20) rfl (s_ld rfl (by repeat (first | exact gs_same _ _ _ | refine (gs_ne (by omega) _).trans ?_)) ag_9 (by first | exact rfl) ?_)
    first | refine n_op .no (q := 21) rfl (s_fa0 rfl fo_39_0 ?_) | refine n_op .no (q := 21) rfl (s_fa rfl fo_39_0 ?_)
    refine n_op .no (q := 22) rfl (s_ld rfl (by repeat (first | exact gs_same _ _ _ | refine (gs_ne (by omega) _).trans ?_)) ag_9 (by first | exact rfl) ?_)
    refine n_op .no (q := 23) rfl (s_bin rfl rfl rfl ?_)
    refine n_op .no (q := 24) rfl (s_mv rfl ?_)
    first | refine n_op (.yes rfl rfl (strn_f b1)) (q := 25) rfl (s_fa0 rfl fo_39_2 ?_) | refine n_op (.yes rfl rfl (strn_f b1)) (q := 25) rfl (s_fa rfl fo_39_2 ?_)
    refine n_op (.yes rfl rfl (strn_f b1)) (q := 26) rfl (s_ld rfl (by repeat (first | exact gs_same _ _ _ | refine (gs_ne (by omega) _).trans ?_)) ag_4 (by first | exact rfl) ?_)
    first | refine n_op (.yes rfl rfl (strn_f b1)) (q := 27) rfl (s_fa0 rfl fo_39_2 ?_) | refine n_op (.yes rfl rfl (strn_f b1)) (q := 27) rfl (s_fa rfl fo_39_2 ?_)
    refine n_op (.yes rfl rfl (strn_f b1)) (q := 28) rfl (s_ld rfl (by repeat (first | exact gs_same _ _ _ | refine (gs_ne (by omega) _).trans ?_)) ag_4 (by first | exact rfl) ?_)
    refine n_op (.yes rfl rfl (strn_f b1)) (q := 29) rfl (s_bin rfl rfl (bi_d un_4 rfl) ?_)
    refine n_op .no (q := 30) rfl (s_pf rfl (strn_f b1) rfl ?_)
    refine n_op .no (q := 31) rfl (s_mv rfl ?_)
    first | refine n_op (.yes rfl rfl (beq4 b2)) (q := 32) rfl (s_fa0 rfl fo_39_1 ?_) | refine n_op (.yes rfl rfl (beq4 b2)) (q := 32) rfl (s_fa rfl fo_39_1 ?_)
    refine n_op (.yes rfl rfl (beq4 b2)) (q := 33) rfl (s_ld rfl (by repeat (first | exact gs_same _ _ _ | refine (gs_ne (by omega) _).trans ?_)) ag_26 (by first | exact rfl) ?_)
    first | refine n_op (.yes rfl rfl (beq4 b2)) (q := 34) rfl (s_fa0 rfl fo_39_1 ?_) | refine n_op (.yes rfl rfl (beq4 b2)) (q := 34) rfl (s_fa rfl fo_39_1 ?_)
    refine n_op (.yes rfl rfl (beq4 b2)) (q := 35) rfl (s_ld rfl (by repeat (first | exact gs_same _ _ _ | refine (gs_ne (by omega) _).trans ?_)) ag_26 (by first | exact rfl) ?_)
    refine n_call (.yes rfl rfl (beq4 b2)) rfl rfl rfl ?_
    refine C.use (bytes_c (BytesAt.kp0 p6 (by repeat (first | exact Kp.refl _ _ _ | refine Kp.new ?_ (by omega) _)) hw6) (BytesAt.kp0 q6 (by repeat (first | exact Kp.refl _ _ _ | refine Kp.new ?_ (by omega) _)) hw6)) fun v g7 n7 hw7 hn7 hq => ?_
    obtain ⟨rfl, k7⟩ := hq
    have k67 : K0 g6 n6 g7 := Kp.trans0 (n' := n6) (by repeat (first | exact Kp.refl _ _ _ | refine Kp.new ?_ (by omega) _)) (k7.dn (by omega)) (by omega)
    by_cases b3 : x.ws[i].val = y.ws[i].val
    · have hd : decide (x.ws[i].val = y.ws[i].val) = true := decide_eq_true b3
      rw [hd]
      refine n_op (.yes rfl rfl (beq4 b2)) (q := 37) rfl (s_not rfl ?_)
      refine n_op .no (q := 38) rfl (s_pf rfl (beq4 b2) rfl ?_)
      refine n_nil ?_
      repeat (first | refine w_seq ?_ | refine w_blk ?_ | refine z_seq ?_ | refine z_blk ?_ | refine w_skip ?_)
      refine w_no rfl (rfl) ?_
      repeat (first | refine w_seq ?_ | refine w_blk ?_ | refine z_seq ?_ | refine z_blk ?_ | refine w_skip ?_)
      repeat (first | refine w_seq ?_ | refine w_blk ?_ | refine z_seq ?_ | refine z_blk ?_ | refine w_skip ?_)
      refine w_reg 2 rfl rfl (j' := 2) ?_
      first | refine n_op .no (q := 0) rfl (s_bin rfl rfl (bi_inc (by omega)) ?_) | refine n_op .no (q := 0) rfl (s_bin rfl rfl (bi_add rfl (by omega) (by omega)) ?_)
      refine n_op .no (q := 1) rfl (s_mv rfl ?_)
      refine n_nil ?_
      have he : x.ws[i] = y.ws[i] := by
        have e : ∀ p q : Wr, p.key = q.key → p.gone = q.gone → p.val = q.val → p = q := fun p q h1 h2 h3 => by cases p; cases q; simp_all
        exact e _ _ b1 b2 b3
      exact z_round (i + 1) ⟨rfl, rfl, rfl, rfl, trivial⟩ ⟨hi, by omega, k6.trans0 k67 (by omega), by rw [List.take_succ_eq_append_getElem hi, List.take_succ_eq_append_getElem hi2, ht, he]⟩ (by omega)
    · have hd : decide (x.ws[i].val = y.ws[i].val) = false := decide_eq_false b3
      rw [hd]
      refine n_op (.yes rfl rfl (beq4 b2)) (q := 37) rfl (s_not rfl ?_)
      refine n_op .no (q := 38) rfl (s_pf rfl (beq4 b2) rfl ?_)
      refine n_nil ?_
      repeat (first | refine w_seq ?_ | refine w_blk ?_ | refine z_seq ?_ | refine z_blk ?_ | refine w_skip ?_)
      refine w_yes rfl (rfl) ?_
      repeat (first | refine w_seq ?_ | refine w_blk ?_ | refine z_seq ?_ | refine z_blk ?_ | refine w_skip ?_)
      refine w_reg 1 rfl rfl (j' := 1) ?_
      refine n_op .no (q := 0) rfl (s_as rfl ?_)
      refine n_nil ?_
      repeat (first | refine w_ret ?_ | refine w_seq ?_ | refine w_blk ?_ | refine z_seq ?_ | refine z_blk ?_ | refine w_skip ?_)
      refine z_r1 rfl rfl ?_
      exact ⟨⟨_, rfl, ⟨fun h => (by cases h), fun h => absurd (by simp only [h]) b3⟩⟩, (k5.trans0 k6 (by omega)).trans0 k67 (by omega)⟩
  · refine w_exit rfl ?_
    repeat (first | refine w_seq ?_ | refine w_blk ?_ | refine z_seq ?_ | refine z_blk ?_ | refine w_skip ?_)
    refine w_reg 1 rfl rfl (j' := 2) ?_
    refine n_op .no (q := 1) rfl (s_as rfl ?_)
    refine n_nil ?_
    repeat (first | refine w_ret ?_ | refine w_seq ?_ | refine w_blk ?_ | refine z_seq ?_ | refine z_blk ?_ | refine w_skip ?_)
    refine z_r1 rfl rfl ?_
    have : i = x.ws.length := by simp at hb; omega
    subst this
    rw [List.take_length, a7, List.take_length] at ht
    exact ⟨⟨_, rfl, ⟨fun _ => Cal.ext' a1 a2 a3 a4 a5 hgs ht, fun _ => rfl⟩⟩, k5.trans0 k6 (by omega)⟩

end Go.Proofs.YtehmailaabjdjaaGreat
end
