/-
  The reference's cache in memory: lay, by contract. No condition.
-/
import Derived.Test.YtehmailaabjdjaaGreatCaP
open Go.Proofs
namespace Go.Proofs.YtehmailaabjdjaaGreat
set_option linter.unusedSimpArgs false
set_option linter.unusedVariables false
set_option maxRecDepth 100000

/-- Entries in a row of one's own, their bytes anywhere. -/
def EntsW (g : Gm) (v : Value) (es : List SEnt) : Prop := ∃ cs, SlOwn g 3 v es.length cs ∧ Rows 3 (EnC (BytesAt g)) cs es
section
variable {F : Nat → AObj → Prop} {g g' : Gm} {n : Nat} {v : Value} {es : List SEnt}
theorem EntsW.nil (g : Gm) : EntsW g (.slice none 0 0) [] := ⟨[], SlOwn.nil _ _, rfl⟩
theorem EntsW.rd (h : EntsW g v es) : EntsRd g v es := by
  obtain ⟨cs, h1, h2⟩ := h
  exact ⟨cs, h1.slc, h2⟩
theorem EntsW.len (h : EntsW g v es) : ∃ a c, v = .slice a es.length c := h.rd.len
theorem EntsW.kp (h : EntsW g v es) (hk : Kp F g n g') (hw : WF g n) (hF : NoB F) (hv : Off F g v) : EntsW g' v es := by
  obtain ⟨cs, h1, h2⟩ := h
  exact ⟨cs, h1.kp hk hw hv, h2.mono fun c x _ hx => hx.mono fun _ _ k => k.kp hk hw hF⟩
theorem EntsW.kp0 (h : EntsW g v es) (hk : K0 g n g') (hw : WF g n) : EntsW g' v es := h.kp hk hw NoB.z (Off.z g v)
theorem EntsW.fn (h : EntsW g v es) {x : Nat} (hx : vname v = some x) : ∀ o, g x = some o → FN v x o := fun o ho => by
  obtain ⟨cs, ⟨_, ⟨rfl, _⟩ | ⟨l', o', c, cl, rfl, _, h4, _⟩⟩, _⟩ := h
  · cases hx
  · refine ⟨hx, ?_⟩
    simp only [vname, Option.some.injEq] at hx
    subst hx
    rw [h4] at ho; cases ho
    exact ⟨_, _, rfl⟩
theorem EntsW.app {g1 : Gm} {n1 : Nat} {w : Value} {cs c : List Value} {xs : List SEnt} {e : SEnt} (hR : Rows 3 (EnC (BytesAt g1)) cs xs) (hw1 : WF g1 n1) (hF : Kp F g1 n1 g') (hFb : NoB F) (hn : EnC (BytesAt g') c e) (hrow : SlOwn g' 3 w (xs.length + 1) (cs ++ c)) : EntsW g' w (xs ++ [e]) := by
  refine ⟨cs ++ c, by rw [List.length_append]; exact hrow, Rows.append (hR.mono fun c x _ hx => hx.mono fun _ _ k => k.kp hF hw1 hFb) (Rows.one ?_ hn)⟩
  obtain ⟨a, p, rfl, _⟩ := hn
  rfl
end
theorem lay_len (e : SEnt) : ∀ (L : List SEnt) (od : List SEnt × Bool), (L.foldl (layStep e) od).1.length ≤ od.1.length + 2 * L.length
  | [], od => by simp
  | x :: L, od => by
    rw [List.foldl_cons]
    have h1 := lay_len e L (layStep e od x)
    have h2 : (layStep e od x).1.length ≤ od.1.length + 2 := by
      unfold layStep
      split
      · omega
      · split <;> simp
    rw [List.length_cons]
    omega
theorem Gr.from_ {g g' : Gm} {b nm : Nat} {v v' : Value} (h : Gr g g' nm v v') (hv : ∀ y, vname v = some y → b ≤ y) (hb : b ≤ nm) : ∀ y, vname v' = some y → b ≤ y := fun y hy => by
  rcases h.name with e | e | e
  · rw [e] at hy; cases hy
  · rw [e] at hy; exact hv _ hy
  · rw [e] at hy; cases hy; exact hb

theorem str_lt {a b : List UInt8} : Op.bytesLess (str a).toList (str b).toList = decide (a < b) := by
  have e : ∀ l : List UInt8, (str l).toList = l := fun l => by
    rw [ByteArray.toList_eq] <;> simp [str]
  rw [e, e]
  exact bytesLess_eq a b

theorem str_gt {a b : List UInt8} : (!(Op.bytesLess (str a).toList (str b).toList || (str a).toList == (str b).toList)) = decide (b < a) := by
  rw [str_lt, str_eq]
  by_cases h1 : a < b
  · rw [decide_eq_true h1, decide_eq_false fun q => lt_irr _ (lt_tr h1 q)]; rfl
  · by_cases h2 : a = b
    · rw [decide_eq_true h2, decide_eq_false h1, decide_eq_false (fun q => by rw [h2] at q; exact lt_irr _ q)]; rfl
    · rw [decide_eq_false h1, decide_eq_false h2, decide_eq_true (lt_or h1 h2)]; rfl

theorem lay_c {g : Gm} {n : Nat} {v : Value} {L : List SEnt} {e : SEnt} {a : Option Addr} {p : Nat} {gone : Bool} (h : EntsRd g v L) (hs : Srtd L) (hB : BytesAt g (.slice a e.val.length p) e.val) (hle : e.val.length ≤ 4000) (hn40 : L.length ≤ 2 ^ 30) :
    C 92 #[v, .agg (entC e (.slice a e.val.length p)).toArray, .bool gone] g n fun u g' n' => EntsW g' u (layL L e gone) ∧ (∀ x, vname u = some x → n ≤ x) ∧ K0 g n g' := by
  obtain ⟨a0, c0, rfl⟩ := h.len
  refine c_in3 Tryz.func92 rfl Tryz.ntmps92 rfl fun hw => ?_
  repeat first | refine Na ?_ | refine Nb ?_ | refine Nc ?_ | refine Nd ?_ | refine Ne ?_
  refine w_reg 2 rfl rfl (j' := 2) (n_op .no (q := 0) rfl (s_boxa rfl (nA rfl (n_nil ?_))))
  repeat first | refine Na ?_ | refine Nb ?_ | refine Nc ?_ | refine Nd ?_ | refine Ne ?_
  refine w_reg 1 rfl rfl (j' := 3) (nA rfl (n_nil ?_))
  repeat first | refine Na ?_ | refine Nb ?_ | refine Nc ?_ | refine Nd ?_ | refine Ne ?_
  refine w_reg 2 rfl rfl (j' := 5) (nM rfl (nA rfl (n_nil ?_)))
  repeat first | refine Na ?_ | refine Nb ?_ | refine Nc ?_ | refine Nd ?_ | refine Ne ?_
  refine w_gen fun g1 n1 hg1 hn1 hwg1 => ?_
  have k1 : K0 g n g1 := by rw [hg1]; exact (by repeat (first | exact Kp.refl _ _ _ | refine Kp.new ?_ (by omega) _))
  have b1 : g1 n = some (.cells (entC e (.slice a e.val.length p)) 0 false) := by rw [hg1]; exact gs_same _ _ _
  have hnn := hwg1 _ _ b1
  clear hg1
  repeat first | refine Na ?_ | refine Nb ?_ | refine Nc ?_ | refine Nd ?_ | refine Ne ?_
  refine w_reg 3 rfl rfl (j' := 3) (nM rfl (nO (s_len rfl rfl un_48 rfl (nM rfl (n_nil ?_)))))
  refine z_seq ?_
  refine z_meet (β := Value × Bool) (fun x => [(4, .pointer (some ⟨n, 0, none⟩)), (7, x.1), (8, .bool x.2)])
    (fun x g' n' => n1 ≤ n' ∧ K0 g1 n1 g' ∧ EntsW g' x.1 (L.foldl (layStep e) ([], gone)).1 ∧ x.2 = (L.foldl (layStep e) ([], gone)).2 ∧ (∀ y, vname x.1 = some y → n1 ≤ y)) ?_ ?_
  · repeat first | refine Na ?_ | refine Nb ?_ | refine Nc ?_ | refine Nd ?_ | refine Ne ?_
    refine w_loop (β := Nat × Value × Bool) (fun x => [(0, .slice a0 L.length c0), (4, .pointer (some ⟨n, 0, none⟩)), (7, x.2.1), (8, .bool x.2.2), (12, .int .i64 L.length), (13, .int .i64 x.1)])
      (fun x g' n' => x.1 ≤ L.length ∧ n1 ≤ n' ∧ K0 g1 n1 g' ∧ EntsW g' x.2.1 ((L.take x.1).foldl (layStep e) ([], gone)).1 ∧ x.2.2 = ((L.take x.1).foldl (layStep e) ([], gone)).2 ∧ (∀ y, vname x.2.1 = some y → n1 ≤ y)) (fun x => L.length - x.1) (0, .slice none 0 0, gone) ⟨rfl, rfl, rfl, rfl, rfl, rfl, trivial⟩
      ⟨by simp, by omega, Kp.refl _ _ _, EntsW.nil _, rfl, (fun y hy => by cases hy)⟩ ?_
    rintro ⟨i, ve, d⟩ f gL nL hwL ⟨hi, hnL, kL, hE, hd, hve⟩
    simp only at hi hE hd hve
    repeat first | refine Na ?_ | refine Nb ?_ | refine Nc ?_ | refine Nd ?_ | refine Ne ?_
    refine w_reg 1 rfl rfl (j' := 1) (nO (s_bin rfl rfl rfl (n_nil ?_)))
    repeat first | refine Na ?_ | refine Nb ?_ | refine Nc ?_ | refine Nd ?_ | refine Ne ?_
    refine w_if rfl (fun hb => ?_) (fun hb => ?_)
    · have hi : i < L.length := by simpa using hb
      have kgL : K0 g n gL := k1.trans0 kL (by omega)
      obtain ⟨l3, o3, c3, cl3, ro3, a3, p3, x1, x2, x3, x4, x5, x6, x7, x8⟩ := (h.kp0 kgL hw).at hi
      cases x1
      have bL := kL.at0 hwg1 b1
      have hlenO := lay_len e (L.take i) ([], gone)
      rw [List.length_take_of_le (by omega)] at hlenO
      obtain ⟨O, hO⟩ : ∃ O, O = (L.take i).foldl (layStep e) ([], gone) := ⟨_, rfl⟩
      rw [← hO] at hE hd hlenO
      simp only [List.length_nil] at hlenO
      have hnext : (L.take (i + 1)).foldl (layStep e) ([], gone) = layStep e O L[i] := by rw [List.take_succ_eq_append_getElem hi, List.foldl_append, ← hO]; rfl
      repeat first | refine Na ?_ | refine Nb ?_ | refine Nc ?_ | refine Nd ?_ | refine Ne ?_
      refine w_reg 2 rfl rfl (j' := 3) (nM rfl (nA rfl (n_nil ?_)))
      repeat first | refine Na ?_ | refine Nb ?_ | refine Nc ?_ | refine Nd ?_ | refine Ne ?_
      refine w_drw (T6 92 6) [(0, []), (1, []), (2, []), (3, []), (4, []), (5, [4]), (6, [4]), (7, [])] 8 (by kernel_rfl) rfl rfl (j' := 11) (dM rfl rfl (dM rfl rfl (dO rfl rfl (s_ia rfl rfl el_48 (by first | assumption | omega) ⟨⟨rfl, rfl⟩, (dO rfl rfl (s_fa rfl fo_28_0 ⟨⟨rfl, rfl⟩, ?_⟩))⟩))))
      refine dT rfl rfl rfl (s_ld rfl (by repeat first | exact gS | exact x2 | exact x5 | exact bL | refine gN (by omega) ?_) ag_9 (by first | exact rfl | exact x2 | exact x5 | exact bL) ⟨clash_nil, ?_⟩)
      refine dO rfl rfl (s_fa0 rfl fo_28_0 ⟨⟨rfl, rfl⟩, ?_⟩)
      refine dT rfl rfl rfl (s_ld rfl (by repeat first | exact gS | exact x2 | exact x5 | exact bL | refine gN (by omega) ?_) ag_9 (by first | exact rfl | exact x2 | exact x5 | exact bL) ⟨clash_rd rfl, ?_⟩)
      refine dO rfl rfl (s_bin rfl rfl rfl ⟨⟨rfl, rfl⟩, (d_nil ?_)⟩)
      by_cases hk : L[i].key = e.key
      · repeat first | refine Na ?_ | refine Nb ?_ | refine Nc ?_ | refine Nd ?_ | refine Ne ?_
        refine w_yes rfl (str_t hk) ?_
        refine w_exit rfl ?_
        repeat first | refine Na ?_ | refine Nb ?_ | refine Nc ?_ | refine Nd ?_ | refine Ne ?_
        repeat first | refine Na ?_ | refine Nb ?_ | refine Nc ?_ | refine Nd ?_ | refine Ne ?_
        refine w_reg 2 rfl rfl (j' := 13) (nO (s_bin rfl rfl (by first | exact bi_inc (by omega) | exact bi_add rfl (by omega) (by omega)) ?_))
        refine nM rfl (n_nil ?_)
        have e1 : layStep e O L[i] = O := if_pos hk
        refine z_round (i + 1, ve, d) ⟨rfl, rfl, rfl, rfl, rfl, rfl, trivial⟩ ⟨hi, by omega, kL, ?_, ?_, hve⟩ (by simp only; omega)
        · simp only; rw [hnext, e1]; exact hE
        · simp only; rw [hnext, e1]; exact hd
      repeat first | refine Na ?_ | refine Nb ?_ | refine Nc ?_ | refine Nd ?_ | refine Ne ?_
      refine w_no rfl (str_f hk) ?_
      obtain ⟨cs, hs', hR⟩ := id hE
      by_cases hop : d = false ∧ e.key < L[i].key
      · obtain ⟨rfl, hlt⟩ := hop
        have e1 : layStep e O L[i] = (O.1 ++ [e] ++ [L[i]], true) := by unfold layStep; rw [if_neg hk, if_pos ⟨hd.symm, hlt⟩]
        repeat first | refine Na ?_ | refine Nb ?_ | refine Nc ?_ | refine Nd ?_ | refine Ne ?_
        refine w_drw (T6 92 7) [(0, []), (1, []), (2, []), (3, []), (4, []), (5, []), (6, []), (7, []), (8, [7]), (9, [7]), (10, []), (11, [])] 12 (by kernel_rfl) rfl rfl (j' := 23) (dM rfl rfl (dO rfl rfl (s_not rfl ⟨⟨rfl, rfl⟩, (dM rfl rfl (d_op rfl rfl (.yes rfl rfl (rfl)) (q := 14) rfl (s_mv rfl ⟨⟨rfl, rfl⟩, (d_op rfl rfl (.yes rfl rfl (rfl)) (q := 15) rfl (s_mv rfl ⟨⟨rfl, rfl⟩, (d_op rfl rfl (.yes rfl rfl (rfl)) (q := 16) rfl (s_ia rfl rfl el_48 (by first | assumption | omega) ⟨⟨rfl, rfl⟩, (d_op rfl rfl (.yes rfl rfl (rfl)) (q := 17) rfl (s_fa rfl fo_28_0 ⟨⟨rfl, rfl⟩, ?_⟩))⟩))⟩))⟩)))⟩)))
        refine d_tc rfl rfl rfl (.yes rfl rfl (rfl)) (q := 18) rfl (s_ld rfl (by repeat first | exact gS | exact x2 | exact x5 | exact bL | refine gN (by omega) ?_) ag_9 (by first | exact rfl | exact x2 | exact x5 | exact bL) ⟨clash_nil, ?_⟩)
        refine d_op rfl rfl (.yes rfl rfl (rfl)) (q := 19) rfl (s_fa0 rfl fo_28_0 ⟨⟨rfl, rfl⟩, ?_⟩)
        refine d_tc rfl rfl rfl (.yes rfl rfl (rfl)) (q := 20) rfl (s_ld rfl (by repeat first | exact gS | exact x2 | exact x5 | exact bL | refine gN (by omega) ?_) ag_9 (by first | exact rfl | exact x2 | exact x5 | exact bL) ⟨clash_rd rfl, ?_⟩)
        refine d_op rfl rfl (.yes rfl rfl (rfl)) (q := 21) rfl (s_bin rfl rfl rfl ⟨⟨rfl, rfl⟩, (dO rfl rfl (s_pt rfl (rfl) rfl ⟨⟨rfl, rfl⟩, (d_nil ?_)⟩))⟩)
        repeat first | refine Na ?_ | refine Nb ?_ | refine Nc ?_ | refine Nd ?_ | refine Ne ?_
        refine w_yes rfl (by rw [str_gt]; exact decide_eq_true hlt) ?_
        repeat first | refine Na ?_ | refine Nb ?_ | refine Nc ?_ | refine Nd ?_ | refine Ne ?_
        refine w_reg 6 rfl rfl (j' := 29) (nM rfl ?_)
        refine nO (s_ldf rfl (by repeat first | exact gS | exact bL | refine gN (by omega) ?_) ag_28 sz_28 (by exact rfl) ?_)
        refine n_op .no (q := 25) rfl (s_bs el_48 ez_48 rfl rfl rfl ?_)
        refine n_op .no (q := 26) rfl (s_app app48 rfl rfl (hs'.kp0 (n := nL) (by repeat (first | exact Kp.refl _ _ _ | refine Kp.new ?_ (by omega) _)) hwL) (src_one (gs_same _ _ _) rfl) rfl (by omega) fun a8 c8 g8 tc8 wr8 hrow hgr => ?_)
        refine nA rfl (nA rfl (n_nil ?_))
        have kA : Kp (FN ve) gL nL g8 := hgr.kp (by repeat (first | exact Kp.refl _ _ _ | refine Kp.new ?_ (by omega) _)) (by omega) fun y hy => .inr (hE.fn hy)
        have kB : K0 g1 n1 g8 := hgr.kp (Kp.trans0 (n' := nL) kL (by repeat (first | exact Kp.refl _ _ _ | refine Kp.new ?_ (by omega) _)) (by omega)) (by omega) fun y hy => .inl (hve y hy)
        have kgB : K0 g n g8 := k1.trans0 kB (by omega)
        have hE8 : EntsW g8 (.slice a8 (O.1.length + 1) c8) (O.1 ++ [e]) := EntsW.app hR hwL kA (FN.nob _) ⟨a, p, rfl, hB.kp0 kgB hw, hle⟩ hrow
        have hve8 := hgr.from_ hve (by omega)
        repeat first | refine Na ?_ | refine Nb ?_ | refine Nc ?_ | refine Nd ?_ | refine Ne ?_
        refine w_gen fun g9 n9 hg9 hn9 hwg9 => ?_
        rw [← hg9] at kB kgB hE8
        clear hg9
        obtain ⟨l4, o4, c4, cl4, ro4, a4, p4, y1, y2, y3, y4, y5, y6, y7, y8⟩ := (h.kp0 kgB hw).at hi
        cases y1
        obtain ⟨cs9, hs9, hR9⟩ := id hE8
        rw [List.length_append, List.length_singleton] at hs9
        repeat first | refine Na ?_ | refine Nb ?_ | refine Nc ?_ | refine Nd ?_ | refine Ne ?_
        refine w_reg 8 rfl rfl (j' := 8) (nM rfl (nM rfl (nM rfl (nO (s_ia rfl rfl el_48 (by first | assumption | omega) ?_)))))
        refine nO (s_lda rfl (by repeat first | exact gS | exact y2 | exact y4 | refine gN (by omega) ?_) ag_28 sz_28 (by first | exact Nat.le_of_ble_eq_true rfl | assumption | omega) (by first | exact y2 | exact y4 | exact rfl) ?_)
        refine n_op .no (q := 5) rfl (s_bs el_48 ez_48 rfl rfl rfl ?_)
        refine n_op .no (q := 6) rfl (s_app app48 rfl rfl (hs9.kp0 (n := n9) (by repeat (first | exact Kp.refl _ _ _ | refine Kp.new ?_ (by omega) _)) hwg9) (src_one (gs_same _ _ _) rfl) rfl (by omega) fun a10 c10 g10 tc10 wr10 hrow10 hgr10 => ?_)
        refine nA rfl (n_nil ?_)
        repeat first | refine Na ?_ | refine Nb ?_ | refine Nc ?_ | refine Nd ?_ | refine Ne ?_
        repeat first | refine Na ?_ | refine Nb ?_ | refine Nc ?_ | refine Nd ?_ | refine Ne ?_
        refine w_reg 2 rfl rfl (j' := 10) (nO (s_bin rfl rfl (by first | exact bi_inc (by omega) | exact bi_add rfl (by omega) (by omega)) ?_))
        refine nM rfl (n_nil ?_)
        have kC : Kp (FN (.slice a8 (O.1.length + 1) c8)) g9 n9 g10 := hgr10.kp (by repeat (first | exact Kp.refl _ _ _ | refine Kp.new ?_ (by omega) _)) (by omega) fun y hy => .inr (hE8.fn hy)
        have kD : K0 g1 n1 g10 := hgr10.kp (Kp.trans0 (n' := n9) kB (by repeat (first | exact Kp.refl _ _ _ | refine Kp.new ?_ (by omega) _)) (by omega)) (by omega) fun y hy => .inl (hve8 y hy)
        refine z_round (i + 1, .slice a10 (O.1.length + 1 + 1) c10, true) ⟨rfl, rfl, rfl, rfl, rfl, rfl, trivial⟩ ⟨hi, by omega, kD, ?_, ?_, hgr10.from_ hve8 (by omega)⟩ (by simp only; omega)
        · simp only; rw [hnext, e1]
          exact EntsW.app hR9 hwg9 kC (FN.nob _) ⟨a4, p4, rfl, y7.kp kC hwg9 (FN.nob _), y8⟩ (by rw [List.length_append, List.length_singleton]; exact hrow10)
        · simp only; rw [hnext, e1]
      · have e1 : layStep e O L[i] = (O.1 ++ [L[i]], O.2) := by
          unfold layStep
          rw [if_neg hk, if_neg (by rw [← hd]; exact hop)]
        rcases d with _ | _
        · have hlt : ¬ e.key < L[i].key := fun q => hop ⟨rfl, q⟩
          repeat first | refine Na ?_ | refine Nb ?_ | refine Nc ?_ | refine Nd ?_ | refine Ne ?_
          refine w_drw (T6 92 7) [(0, []), (1, []), (2, []), (3, []), (4, []), (5, []), (6, []), (7, []), (8, [7]), (9, [7]), (10, []), (11, [])] 12 (by kernel_rfl) rfl rfl (j' := 23) (dM rfl rfl (dO rfl rfl (s_not rfl ⟨⟨rfl, rfl⟩, (dM rfl rfl (d_op rfl rfl (.yes rfl rfl (rfl)) (q := 14) rfl (s_mv rfl ⟨⟨rfl, rfl⟩, (d_op rfl rfl (.yes rfl rfl (rfl)) (q := 15) rfl (s_mv rfl ⟨⟨rfl, rfl⟩, (d_op rfl rfl (.yes rfl rfl (rfl)) (q := 16) rfl (s_ia rfl rfl el_48 (by first | assumption | omega) ⟨⟨rfl, rfl⟩, (d_op rfl rfl (.yes rfl rfl (rfl)) (q := 17) rfl (s_fa rfl fo_28_0 ⟨⟨rfl, rfl⟩, ?_⟩))⟩))⟩))⟩)))⟩)))
          refine d_tc rfl rfl rfl (.yes rfl rfl (rfl)) (q := 18) rfl (s_ld rfl (by repeat first | exact gS | exact x2 | exact x5 | exact bL | refine gN (by omega) ?_) ag_9 (by first | exact rfl | exact x2 | exact x5 | exact bL) ⟨clash_nil, ?_⟩)
          refine d_op rfl rfl (.yes rfl rfl (rfl)) (q := 19) rfl (s_fa0 rfl fo_28_0 ⟨⟨rfl, rfl⟩, ?_⟩)
          refine d_tc rfl rfl rfl (.yes rfl rfl (rfl)) (q := 20) rfl (s_ld rfl (by repeat first | exact gS | exact x2 | exact x5 | exact bL | refine gN (by omega) ?_) ag_9 (by first | exact rfl | exact x2 | exact x5 | exact bL) ⟨clash_rd rfl, ?_⟩)
          refine d_op rfl rfl (.yes rfl rfl (rfl)) (q := 21) rfl (s_bin rfl rfl rfl ⟨⟨rfl, rfl⟩, (dO rfl rfl (s_pt rfl (rfl) rfl ⟨⟨rfl, rfl⟩, (d_nil ?_)⟩))⟩)
          repeat first | refine Na ?_ | refine Nb ?_ | refine Nc ?_ | refine Nd ?_ | refine Ne ?_
          refine w_no rfl (by rw [str_gt]; exact decide_eq_false hlt) ?_
          repeat first | refine Na ?_ | refine Nb ?_ | refine Nc ?_ | refine Nd ?_ | refine Ne ?_
          repeat first | refine Na ?_ | refine Nb ?_ | refine Nc ?_ | refine Nd ?_ | refine Ne ?_
          refine w_reg 8 rfl rfl (j' := 31) (nM rfl (nM rfl (nM rfl (nO (s_ia rfl rfl el_48 (by first | assumption | omega) ?_)))))
          refine nO (s_lda rfl (by repeat first | exact gS | exact x2 | exact x4 | refine gN (by omega) ?_) ag_28 sz_28 (by first | exact Nat.le_of_ble_eq_true rfl | assumption | omega) (by first | exact x2 | exact x4 | exact rfl) ?_)
          refine n_op .no (q := 28) rfl (s_bs el_48 ez_48 rfl rfl rfl ?_)
          refine n_op .no (q := 29) rfl (s_app app48 rfl rfl (hs'.kp0 (n := nL) (by repeat (first | exact Kp.refl _ _ _ | refine Kp.new ?_ (by omega) _)) hwL) (src_one (gs_same _ _ _) rfl) rfl (by omega) fun a8 c8 g8 tc8 wr8 hrow hgr => ?_)
          refine nA rfl (n_nil ?_)
          repeat first | refine Na ?_ | refine Nb ?_ | refine Nc ?_ | refine Nd ?_ | refine Ne ?_
          repeat first | refine Na ?_ | refine Nb ?_ | refine Nc ?_ | refine Nd ?_ | refine Ne ?_
          refine w_reg 2 rfl rfl (j' := 33) (nO (s_bin rfl rfl (by first | exact bi_inc (by omega) | exact bi_add rfl (by omega) (by omega)) ?_))
          refine nM rfl (n_nil ?_)
          have kA : Kp (FN ve) gL nL g8 := hgr.kp (by repeat (first | exact Kp.refl _ _ _ | refine Kp.new ?_ (by omega) _)) (by omega) fun y hy => .inr (hE.fn hy)
          have kB : K0 g1 n1 g8 := hgr.kp (Kp.trans0 (n' := nL) kL (by repeat (first | exact Kp.refl _ _ _ | refine Kp.new ?_ (by omega) _)) (by omega)) (by omega) fun y hy => .inl (hve y hy)
          refine z_round (i + 1, .slice a8 (O.1.length + 1) c8, false) ⟨rfl, rfl, rfl, rfl, rfl, rfl, trivial⟩ ⟨hi, by omega, kB, ?_, ?_, hgr.from_ hve (by omega)⟩ (by simp only; omega)
          · simp only; rw [hnext, e1]
            exact EntsW.app hR hwL kA (FN.nob _) ⟨a3, p3, rfl, x7.kp kA hwL (FN.nob _), x8⟩ hrow
          · simp only; rw [hnext, e1]; exact hd
        · repeat first | refine Na ?_ | refine Nb ?_ | refine Nc ?_ | refine Nd ?_ | refine Ne ?_
          refine w_drw (T6 92 7) [(0, []), (1, []), (2, []), (3, []), (4, []), (5, []), (6, []), (7, []), (8, [7]), (9, [7]), (10, []), (11, [])] 12 (by kernel_rfl) rfl rfl (j' := 23) (dM rfl rfl (dO rfl rfl (s_not rfl ⟨⟨rfl, rfl⟩, (dM rfl rfl (d_sk rfl rfl rfl (rfl) (d_sk rfl rfl rfl (rfl) (d_sk rfl rfl rfl (rfl) (d_sk rfl rfl rfl (rfl) (d_sk rfl rfl rfl (rfl) (d_sk rfl rfl rfl (rfl) (d_sk rfl rfl rfl (rfl) (d_sk rfl rfl rfl (rfl) (dO rfl rfl (s_pf rfl (rfl) rfl ⟨⟨rfl, rfl⟩, (d_nil ?_)⟩)))))))))))⟩)))
          repeat first | refine Na ?_ | refine Nb ?_ | refine Nc ?_ | refine Nd ?_ | refine Ne ?_
          refine w_no rfl (rfl) ?_
          repeat first | refine Na ?_ | refine Nb ?_ | refine Nc ?_ | refine Nd ?_ | refine Ne ?_
          repeat first | refine Na ?_ | refine Nb ?_ | refine Nc ?_ | refine Nd ?_ | refine Ne ?_
          refine w_reg 8 rfl rfl (j' := 31) (nM rfl (nM rfl (nM rfl (nO (s_ia rfl rfl el_48 (by first | assumption | omega) ?_)))))
          refine nO (s_lda rfl (by repeat first | exact gS | exact x2 | exact x4 | refine gN (by omega) ?_) ag_28 sz_28 (by first | exact Nat.le_of_ble_eq_true rfl | assumption | omega) (by first | exact x2 | exact x4 | exact rfl) ?_)
          refine n_op .no (q := 28) rfl (s_bs el_48 ez_48 rfl rfl rfl ?_)
          refine n_op .no (q := 29) rfl (s_app app48 rfl rfl (hs'.kp0 (n := nL) (by repeat (first | exact Kp.refl _ _ _ | refine Kp.new ?_ (by omega) _)) hwL) (src_one (gs_same _ _ _) rfl) rfl (by omega) fun a8 c8 g8 tc8 wr8 hrow hgr => ?_)
          refine nA rfl (n_nil ?_)
          repeat first | refine Na ?_ | refine Nb ?_ | refine Nc ?_ | refine Nd ?_ | refine Ne ?_
          repeat first | refine Na ?_ | refine Nb ?_ | refine Nc ?_ | refine Nd ?_ | refine Ne ?_
          refine w_reg 2 rfl rfl (j' := 33) (nO (s_bin rfl rfl (by first | exact bi_inc (by omega) | exact bi_add rfl (by omega) (by omega)) ?_))
          refine nM rfl (n_nil ?_)
          have kA : Kp (FN ve) gL nL g8 := hgr.kp (by repeat (first | exact Kp.refl _ _ _ | refine Kp.new ?_ (by omega) _)) (by omega) fun y hy => .inr (hE.fn hy)
          have kB : K0 g1 n1 g8 := hgr.kp (Kp.trans0 (n' := nL) kL (by repeat (first | exact Kp.refl _ _ _ | refine Kp.new ?_ (by omega) _)) (by omega)) (by omega) fun y hy => .inl (hve y hy)
          refine z_round (i + 1, .slice a8 (O.1.length + 1) c8, true) ⟨rfl, rfl, rfl, rfl, rfl, rfl, trivial⟩ ⟨hi, by omega, kB, ?_, ?_, hgr.from_ hve (by omega)⟩ (by simp only; omega)
          · simp only; rw [hnext, e1]
            exact EntsW.app hR hwL kA (FN.nob _) ⟨a3, p3, rfl, x7.kp kA hwL (FN.nob _), x8⟩ hrow
          · simp only; rw [hnext, e1]; exact hd
    · refine w_exit rfl ?_
      have hin : i = L.length := by simp at hb; omega
      subst hin
      rw [List.take_length] at hE hd
      exact z_met (ve, d) ⟨rfl, rfl, rfl, trivial⟩ ⟨by omega, kL, hE, hd, hve⟩
  rintro ⟨ve, d⟩ f g5 n5 hw5 ⟨hn5, k5, hE, hd, hve⟩
  simp only at hE hd hve
  have b5 := k5.at0 hwg1 b1
  have hfin := lay_all hs e gone
  have hlenO := lay_len e L ([], gone)
  simp only [List.length_nil] at hlenO
  obtain ⟨O, hO⟩ : ∃ O, O = L.foldl (layStep e) ([], gone) := ⟨_, rfl⟩
  rw [← hO] at hE hd hfin hlenO
  rw [← hfin]
  obtain ⟨cs, hs', hR⟩ := id hE
  repeat first | refine Na ?_ | refine Nb ?_ | refine Nc ?_ | refine Nd ?_ | refine Ne ?_
  refine w_reg 2 rfl rfl (j' := 2) (nM rfl (nO (s_not rfl (n_nil ?_))))
  rcases d with _ | _
  · repeat first | refine Na ?_ | refine Nb ?_ | refine Nc ?_ | refine Nd ?_ | refine Ne ?_
    refine w_yes rfl (rfl) ?_
    repeat first | refine Na ?_ | refine Nb ?_ | refine Nc ?_ | refine Nd ?_ | refine Ne ?_
    refine w_reg 5 rfl rfl (j' := 7) (nM rfl ?_)
    refine nO (s_ldf rfl (by repeat first | exact gS | exact b5 | refine gN (by omega) ?_) ag_28 sz_28 (by exact rfl) ?_)
    refine n_op .no (q := 4) rfl (s_bs el_48 ez_48 rfl rfl rfl ?_)
    refine n_op .no (q := 5) rfl (s_app app48 rfl rfl (hs'.kp0 (n := n5) (by repeat (first | exact Kp.refl _ _ _ | refine Kp.new ?_ (by omega) _)) hw5) (src_one (gs_same _ _ _) rfl) rfl (by omega) fun a8 c8 g8 tc8 wr8 hrow hgr => ?_)
    refine nA rfl (n_nil ?_)
    repeat first | refine Na ?_ | refine Nb ?_ | refine Nc ?_ | refine Nd ?_ | refine Ne ?_
    repeat first | refine Na ?_ | refine Nb ?_ | refine Nc ?_ | refine Nd ?_ | refine Ne ?_
    refine w_reg 2 rfl rfl (j' := 9) (nM rfl (nA rfl (n_nil ?_)))
    repeat first | refine Nf ?_ | refine Na ?_ | refine Nb ?_ | refine Nc ?_ | refine Nd ?_ | refine Ne ?_
    refine z_r1 rfl rfl ?_
    have kA : Kp (FN ve) g5 n5 g8 := hgr.kp (by repeat (first | exact Kp.refl _ _ _ | refine Kp.new ?_ (by omega) _)) (by omega) fun y hy => .inr (hE.fn hy)
    have kB : K0 g1 n1 g8 := hgr.kp (Kp.trans0 (n' := n5) k5 (by repeat (first | exact Kp.refl _ _ _ | refine Kp.new ?_ (by omega) _)) (by omega)) (by omega) fun y hy => .inl (hve y hy)
    have kgB : K0 g n g8 := k1.trans0 kB (by omega)
    refine ⟨?_, fun y hy => Nat.le_trans (by omega) (hgr.from_ hve (by omega) y hy), kgB⟩
    have e1 : layEnd e O = O.1 ++ [e] := by unfold layEnd; rw [if_neg (by rw [← hd]; decide)]
    rw [e1]
    exact EntsW.app hR hw5 kA (FN.nob _) ⟨a, p, rfl, hB.kp0 kgB hw, hle⟩ hrow
  · repeat first | refine Na ?_ | refine Nb ?_ | refine Nc ?_ | refine Nd ?_ | refine Ne ?_
    refine w_no rfl (rfl) ?_
    repeat first | refine Na ?_ | refine Nb ?_ | refine Nc ?_ | refine Nd ?_ | refine Ne ?_
    repeat first | refine Na ?_ | refine Nb ?_ | refine Nc ?_ | refine Nd ?_ | refine Ne ?_
    refine w_reg 2 rfl rfl (j' := 4) (nM rfl (nA rfl (n_nil ?_)))
    repeat first | refine Nf ?_ | refine Na ?_ | refine Nb ?_ | refine Nc ?_ | refine Nd ?_ | refine Ne ?_
    refine z_r1 rfl rfl ?_
    have e1 : layEnd e O = O.1 := by unfold layEnd; rw [if_pos hd.symm]
    rw [e1]
    exact ⟨hE, fun y hy => Nat.le_trans (by omega) (hve y hy), k1.trans0 k5 (by omega)⟩

end Go.Proofs.YtehmailaabjdjaaGreat
