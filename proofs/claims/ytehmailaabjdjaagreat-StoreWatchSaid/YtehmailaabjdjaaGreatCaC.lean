/-
  The reference's cache in memory: List, by contract. No condition.
-/
import Derived.Test.YtehmailaabjdjaaGreatCaB
open Go.Proofs
namespace Go.Proofs.YtehmailaabjdjaaGreat
set_option linter.unusedSimpArgs false
set_option linter.unusedVariables false
set_option maxRecDepth 100000

theorem take_srt {L : List SEnt} (h : Srtd L) {i : Nat} (hi : i < L.length) : ∀ x ∈ L.take i, x.key < L[i].key := fun x hx => by
  obtain ⟨j, hj, rfl⟩ := List.mem_iff_getElem.1 hx
  rw [List.length_take] at hj
  rw [List.getElem_take]
  exact (List.pairwise_iff_getElem.1 h) j i (by omega) hi (by omega)

section
variable {g g' : Gm} {n c : Nat}

theorem clist_c {rev r0 : Int} {v lv0 : Value} {es : List SEnt} (hc : g c = some (.cells [.int .i64 r0, lv0] 0 false)) (h : EntsRd g v es) (hs : Srtd es) (h0 : 0 ≤ rev) (hr : ∀ x ∈ es, x.key ≠ [] ∧ 1 ≤ x.rev ∧ x.rev ≤ rev) (hle : es.length ≤ 2 ^ 20) (hlv : oneCell lv0 = true) :
    C 57 #[.pointer (some ⟨c, 0, none⟩), .int .i64 rev, v] g n fun u g' n' => u = .bool true ∧ (∃ lv', CaAt g' c lv' rev es) ∧ Kp (FC c) g n g' := by
  obtain ⟨a0, c0, rfl⟩ := h.len
  refine c_in3 Tryz.func57 rfl Tryz.ntmps57 rfl fun hw => ?_
  have hcn := hw _ _ hc
  repeat first | refine Na ?_ | refine Nb ?_ | refine Nc ?_ | refine Nd ?_ | refine Ne ?_
  refine w_reg 1 rfl rfl (j' := 1) (nA rfl (n_nil ?_))
  repeat first | refine Na ?_ | refine Nb ?_ | refine Nc ?_ | refine Nd ?_ | refine Ne ?_
  refine w_reg 1 rfl rfl (j' := 2) (nA rfl (n_nil ?_))
  refine z_seq ?_
  refine w_seq ?_
  repeat first | refine Na ?_ | refine Nb ?_ | refine Nc ?_ | refine Nd ?_ | refine Ne ?_
  refine w_reg 3 rfl rfl (j' := 5) (nM rfl (nO (s_len rfl rfl un_48 rfl (nM rfl (n_nil ?_)))))
  refine z_seq ?_
  refine z_meet (β := Value) (fun x => [(0, .pointer (some ⟨c, 0, none⟩)), (1, .int .i64 rev), (7, x)])
    (fun x g' n' => n ≤ n' ∧ K0 g n g' ∧ EntsW g' x es) ?_ ?_
  · repeat first | refine Na ?_ | refine Nb ?_ | refine Nc ?_ | refine Nd ?_ | refine Ne ?_
    refine w_loop (β := Nat × Value) (fun x => [(0, .pointer (some ⟨c, 0, none⟩)), (1, .int .i64 rev), (2, .slice a0 es.length c0), (7, x.2), (11, .int .i64 es.length), (12, .int .i64 x.1)])
      (fun x g' n' => x.1 ≤ es.length ∧ n ≤ n' ∧ K0 g n g' ∧ EntsW g' x.2 (es.take x.1)) (fun x => es.length - x.1) (0, .slice none 0 0) ⟨rfl, rfl, rfl, rfl, rfl, rfl, trivial⟩ ⟨by simp, by omega, (by repeat (first | exact Kp.refl _ _ _ | refine Kp.new ?_ (by omega) _)), EntsW.nil _⟩ ?_
    rintro ⟨i, ve⟩ f gL nL hwL ⟨hi, hnL, kL, hE⟩
    simp only at hi hE
    repeat first | refine Na ?_ | refine Nb ?_ | refine Nc ?_ | refine Nd ?_ | refine Ne ?_
    refine w_reg 1 rfl rfl (j' := 1) (nO (s_bin rfl rfl rfl (n_nil ?_)))
    repeat first | refine Na ?_ | refine Nb ?_ | refine Nc ?_ | refine Nd ?_ | refine Ne ?_
    refine w_if rfl (fun hb1 => ?_) (fun hb1 => ?_)
    · have hi : i < es.length := by simpa using hb1
      obtain ⟨l3, o3, c3, cl3, ro3, a3, p3, x1, x2, x3, x4, x5, x6, x7, x8⟩ := (h.kp0 kL hw).at hi
      cases x1
      obtain ⟨e, he⟩ : ∃ e, e = es[i] := ⟨_, rfl⟩
      obtain ⟨q1, q2, q3⟩ := hr _ (List.getElem_mem hi)
      have hlt := take_srt hs hi
      rw [← he] at x4 x5 x6 x7 x8 q1 q2 q3 hlt
      have hk0 : ((str e.key).toList == ByteArray.empty.toList) = false := by
        have := str_f (a := e.key) (b := []) q1
        exact this
      repeat first | refine Na ?_ | refine Nb ?_ | refine Nc ?_ | refine Nd ?_ | refine Ne ?_
      refine w_reg 2 rfl rfl (j' := 3) (nM rfl (nA rfl (n_nil ?_)))
      repeat first | refine Na ?_ | refine Nb ?_ | refine Nc ?_ | refine Nd ?_ | refine Ne ?_
      refine w_reg 23 rfl rfl (j' := 26) (nM rfl (nM rfl (nO (s_ia rfl rfl el_48 (by first | assumption | omega) (nO (s_fa rfl fo_28_0 ?_))))))
      refine nO (s_ld rfl (by repeat first | exact gS | exact x2 | exact x5 | exact x6 | refine gN (by omega) ?_) ag_9 (by first | exact rfl | exact x2 | exact x5 | exact x6) ?_)
      refine nO (s_bin rfl rfl rfl (nM rfl (nG rfl rfl (hk0) rfl (nG rfl rfl (hk0) rfl (nY rfl rfl (hk0) (s_ia rfl rfl el_48 (by first | assumption | omega) (nY rfl rfl (hk0) (s_fa rfl fo_28_1 ?_))))))))
      refine nY rfl rfl (hk0) (s_ld rfl (by repeat first | exact gS | exact x2 | exact x5 | exact x6 | refine gN (by omega) ?_) ag_2 (by first | exact rfl | exact x2 | exact x5 | exact x6) ?_)
      refine nY rfl rfl (hk0) (s_bin rfl rfl rfl (nO (s_pf rfl (hk0) rfl (nM rfl (nG rfl rfl (decide_eq_false (by omega)) rfl (nG rfl rfl (decide_eq_false (by omega)) rfl (nY rfl rfl (decide_eq_false (by omega)) (s_ia rfl rfl el_48 (by first | assumption | omega) (nY rfl rfl (decide_eq_false (by omega)) (s_fa rfl fo_28_1 ?_))))))))))
      refine nY rfl rfl (decide_eq_false (by omega)) (s_ld rfl (by repeat first | exact gS | exact x2 | exact x5 | exact x6 | refine gN (by omega) ?_) ag_2 (by first | exact rfl | exact x2 | exact x5 | exact x6) ?_)
      refine nG rfl rfl (decide_eq_false (by omega)) rfl (nY rfl rfl (decide_eq_false (by omega)) (s_bin rfl rfl rfl (nO (s_pf rfl (decide_eq_false (by omega)) rfl (n_nil ?_)))))
      repeat first | refine Na ?_ | refine Nb ?_ | refine Nc ?_ | refine Nd ?_ | refine Ne ?_
      refine w_no rfl (decide_eq_false (by omega)) ?_
      repeat first | refine Na ?_ | refine Nb ?_ | refine Nc ?_ | refine Nd ?_ | refine Ne ?_
      refine w_reg 1 rfl rfl (j' := 27) (nA rfl (n_nil ?_))
      refine z_seq ?_
      refine z_meet (β := Unit) (fun _ => [(0, .pointer (some ⟨c, 0, none⟩)), (1, .int .i64 rev), (2, .slice (some ⟨l3, o3, none⟩) es.length c0), (7, ve), (8, .int .i64 i), (11, .int .i64 es.length), (12, .int .i64 i)])
        (fun _ g' n' => nL ≤ n' ∧ K0 gL nL g') ?_ ?_
      · repeat first | refine Na ?_ | refine Nb ?_ | refine Nc ?_ | refine Nd ?_ | refine Ne ?_
        refine w_loop (β := Nat) (fun j => [(0, .pointer (some ⟨c, 0, none⟩)), (1, .int .i64 rev), (2, .slice (some ⟨l3, o3, none⟩) es.length c0), (7, ve), (8, .int .i64 i), (9, .int .i64 (j : Int)), (11, .int .i64 es.length), (12, .int .i64 i)])
          (fun j g' n' => j ≤ i ∧ nL ≤ n' ∧ K0 gL nL g') (fun j => i - j) 0 ⟨rfl, rfl, rfl, rfl, rfl, rfl, rfl, rfl, trivial⟩ ⟨by omega, by omega, (by repeat (first | exact Kp.refl _ _ _ | refine Kp.new ?_ (by omega) _))⟩ ?_
        rintro j f g6 n6 hw6 ⟨hj, hn6, k6⟩
        have k06 : K0 g n g6 := kL.trans0 k6 (by omega)
        by_cases hji : j < i
        · obtain ⟨l4, o4, c4, cl4, ro4, a4, p4, y1, y2, y3, y4, y5, y6, y7, y8⟩ := (h.kp0 k06 hw).at (show j < es.length by omega)
          cases y1
          have x26 := k6.at0 hwL x2
          rw [x26] at y2
          cases y2
          have hne : es[j].key ≠ e.key := by
            rw [he]
            exact lt_ne ((List.pairwise_iff_getElem.1 hs) j i (by omega) hi hji)
          repeat first | refine Na ?_ | refine Nb ?_ | refine Nc ?_ | refine Nd ?_ | refine Ne ?_
          refine w_reg 3 rfl rfl (j' := 3) (nM rfl (nM rfl (nO (s_bin rfl rfl rfl (n_nil ?_)))))
          repeat first | refine Na ?_ | refine Nb ?_ | refine Nc ?_ | refine Nd ?_ | refine Ne ?_
          refine w_yes rfl (decide_eq_true (by omega)) ?_
          repeat first | refine Na ?_ | refine Nb ?_ | refine Nc ?_ | refine Nd ?_ | refine Ne ?_
          refine w_drw (T6 57 10) [(0, []), (1, []), (2, []), (3, []), (4, []), (5, [4]), (6, [4]), (7, [4]), (8, [4]), (9, [4]), (10, [])] 11 (by kernel_rfl) rfl rfl (j' := 14) (dM rfl rfl (dM rfl rfl (dO rfl rfl (s_ia rfl rfl el_48 (by first | assumption | omega) ⟨⟨rfl, rfl⟩, (dO rfl rfl (s_fa rfl fo_28_0 ⟨⟨rfl, rfl⟩, ?_⟩))⟩))))
          refine dT rfl rfl rfl (s_ld rfl (by repeat first | exact gS | exact x26 | exact x5 | exact y5 | refine gN (by omega) ?_) ag_9 (by first | exact rfl | exact x26 | exact x5 | exact y5) ⟨clash_nil, ?_⟩)
          refine dM rfl rfl (dM rfl rfl (dO rfl rfl (s_ia rfl rfl el_48 (by first | assumption | omega) ⟨⟨rfl, rfl⟩, (dO rfl rfl (s_fa rfl fo_28_0 ⟨⟨rfl, rfl⟩, ?_⟩))⟩)))
          refine dT rfl rfl rfl (s_ld rfl (by repeat first | exact gS | exact x26 | exact x5 | exact y5 | refine gN (by omega) ?_) ag_9 (by first | exact rfl | exact x26 | exact x5 | exact y5) ⟨clash_rd rfl, ?_⟩)
          refine dO rfl rfl (s_bin rfl rfl rfl ⟨⟨rfl, rfl⟩, (d_nil ?_)⟩)
          repeat first | refine Na ?_ | refine Nb ?_ | refine Nc ?_ | refine Nd ?_ | refine Ne ?_
          refine w_no rfl (str_f hne) ?_
          repeat first | refine Na ?_ | refine Nb ?_ | refine Nc ?_ | refine Nd ?_ | refine Ne ?_
          repeat first | refine Na ?_ | refine Nb ?_ | refine Nc ?_ | refine Nd ?_ | refine Ne ?_
          refine w_reg 3 rfl rfl (j' := 17) (nM rfl (nO (s_bin rfl rfl (by first | exact bi_inc (by omega) | exact bi_add rfl (by omega) (by omega)) ?_)))
          refine nA rfl (n_nil ?_)
          exact z_round (j + 1) ⟨rfl, rfl, rfl, rfl, rfl, rfl, rfl, rfl, trivial⟩ ⟨hji, by omega, k6⟩ (by omega)
        · repeat first | refine Na ?_ | refine Nb ?_ | refine Nc ?_ | refine Nd ?_ | refine Ne ?_
          refine w_reg 3 rfl rfl (j' := 3) (nM rfl (nM rfl (nO (s_bin rfl rfl rfl (n_nil ?_)))))
          repeat first | refine Na ?_ | refine Nb ?_ | refine Nc ?_ | refine Nd ?_ | refine Ne ?_
          refine w_no rfl (decide_eq_false (by omega)) ?_
          refine w_exit rfl ?_
          exact z_met () ⟨rfl, rfl, rfl, rfl, rfl, rfl, rfl, trivial⟩ ⟨by omega, k6⟩
      rintro _ f g7 n7 hw7 ⟨hn7, k7⟩
      have x27 := k7.at0 hwL x2
      have hE7 := hE.kp0 k7 hwL
      have x77 := x7.kp0 k7 hwL
      have k07 : K0 g n g7 := kL.trans0 k7 (by omega)
      repeat first | refine Na ?_ | refine Nb ?_ | refine Nc ?_ | refine Nd ?_ | refine Ne ?_
      refine w_reg 7 rfl rfl (j' := 7) (nM rfl (nM rfl (nM rfl (nO (s_ia rfl rfl el_48 (by first | assumption | omega) ?_)))))
      refine nO (s_lda rfl (by repeat first | exact gS | exact x27 | exact x4 | refine gN (by omega) ?_) ag_28 sz_28 (by first | exact Nat.le_of_ble_eq_true rfl | assumption | omega) (by first | exact x27 | exact x4 | exact rfl) ?_)
      refine n_call .no rfl rfl rfl ?_
      refine C.use (lay_c (e := e) (gone := false) hE7.rd (List.Pairwise.sublist (List.take_sublist i es) hs) x77 x8 (by rw [List.length_take]; omega)) fun v g8 n8 hw8 hn8 hq => ?_
      obtain ⟨hE8, hn8', k8⟩ := hq
      have e1 : layL (es.take i) e false = es.take (i + 1) := by rw [lay_last hlt, he, List.take_succ_eq_append_getElem hi]
      rw [e1] at hE8
      have k8' := k8.dn (m := n7) (by omega)
      refine nA rfl (n_nil ?_)
      repeat first | refine Na ?_ | refine Nb ?_ | refine Nc ?_ | refine Nd ?_ | refine Ne ?_
      repeat first | refine Na ?_ | refine Nb ?_ | refine Nc ?_ | refine Nd ?_ | refine Ne ?_
      refine w_reg 2 rfl rfl (j' := 2) (nO (s_bin rfl rfl (by first | exact bi_inc (by omega) | exact bi_add rfl (by omega) (by omega)) ?_))
      refine nM rfl (n_nil ?_)
      exact z_round (i + 1, v) ⟨rfl, rfl, rfl, rfl, rfl, rfl, trivial⟩ ⟨hi, by omega, k07.trans0 k8' (by omega), hE8⟩ (by simp only; omega)
    · refine w_exit rfl ?_
      have hin : i = es.length := by simp at hb1; omega
      subst hin
      rw [List.take_length] at hE
      exact z_met ve ⟨rfl, rfl, rfl, trivial⟩ ⟨by omega, kL, hE⟩
  rintro ve f g9 n9 hw9 ⟨hn9, k9, hE⟩
  have hc9 := k9.at0 hw hc
  obtain ⟨a9, c9, rfl⟩ := hE.len
  repeat first | refine Na ?_ | refine Nb ?_ | refine Nc ?_ | refine Nd ?_ | refine Ne ?_
  refine w_reg 2 rfl rfl (j' := 2) (nM rfl (nO (s_bin rfl rfl rfl (n_nil ?_))))
  repeat first | refine Na ?_ | refine Nb ?_ | refine Nc ?_ | refine Nd ?_ | refine Ne ?_
  refine w_no rfl (decide_eq_false (by omega)) ?_
  repeat first | refine Na ?_ | refine Nb ?_ | refine Nc ?_ | refine Nd ?_ | refine Ne ?_
  refine w_reg 10 rfl rfl (j' := 12) (nM rfl (nM rfl (nM rfl (nM rfl (nN rfl (nO (s_fa0 rfl fo_107_0 ?_)))))))
  refine nO (s_st rfl rfl sz_2 (by repeat first | exact gS | exact hc9 | refine gN (by omega) ?_) rfl rfl (by exact rfl) ?_)
  refine nN rfl (nO (s_fa0 rfl fo_107_1 ?_))
  refine nO (s_st rfl rfl sz_48 (by repeat first | exact gS | exact hc9 | refine gN (by omega) ?_) rfl rfl (by exact rfl) ?_)
  refine n_nil ?_
  repeat first | refine Na ?_ | refine Nb ?_ | refine Nc ?_ | refine Nd ?_ | refine Ne ?_
  refine w_reg 1 rfl rfl (j' := 13) (nA rfl (n_nil ?_))
  repeat first | refine Nf ?_ | refine Na ?_ | refine Nb ?_ | refine Nc ?_ | refine Nd ?_ | refine Ne ?_
  refine z_r1 rfl rfl ?_
  have k1 : ∀ o, Kp (FC c) g9 n9 (gset g9 c o) := fun o => Kp.set (Kp.refl _ _ _) (FC.of hc9) o
  exact ⟨rfl, ⟨_, gs_same _ _ _, hE.rd.kk (Kp.set (Kp.set (Kp.refl _ _ _) (FC.of hc9) _) (FC.of hc9) _) hw9 (FC.no3 _) (FC.nob _), hs⟩, Kp.set (Kp.set k9.z (FC.of hc) _) (FC.of hc) _⟩
end

end Go.Proofs.YtehmailaabjdjaaGreat
