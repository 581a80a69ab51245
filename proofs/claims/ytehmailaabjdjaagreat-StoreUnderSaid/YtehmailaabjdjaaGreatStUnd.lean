/-
  StoreUnder answers true. No condition but that begun does.
-/
import Derived.Test.YtehmailaabjdjaaGreatSt9
open Go.Proofs
namespace Go.Proofs.YtehmailaabjdjaaGreat
set_option linter.unusedSimpArgs false
set_option linter.unusedVariables false
set_option maxRecDepth 100000

section
variable {N : Nat} {f : Nat → Value} {s : Sls} {g : Gm} {n nm : Nat} {k : Sls → Gm → List Nat → List Nat → Prop} {d : Tmp} {ty : TypeId} {pos : String} {af : Array Edge} {gd : Option (Nat × Bool)}
/-- []byte of bytes: the row is marked, and stays as it is. -/
theorem s_mark {t e : TypeId} {x : Operand} {l o m c sz : Nat} {cl : List Value} (ht : E6.P.underlying t = some (.slice e)) (he : E6.P.underlying e = some (.int .u8)) (hx : ov N s x = some (.slice (some ⟨l, o, none⟩) m c)) (hg : g l = some (.cells cl sz false))
    (hk : k ((d, .slice (some ⟨l, o, none⟩) m c) :: s) (gset g l (.cells cl sz false)) [l] [l]) : ST N f s g n nm ⟨some d, .convert t t x, ty, pos, af, gd⟩ k := by
  refine ⟨⟨[l], fun _ objs => match objs with
          | [.cells cl sz false] => some ⟨.slice (some ⟨l, o, none⟩) m c, some (l, some (.cells cl sz false)), none⟩
          | _ => none⟩, ⟨.slice (some ⟨l, o, none⟩) m c, some (l, some (.cells cl sz false)), none⟩, ?_, ?_, by simp [wrOk], _, _, Fr_put _ _ _ _ _, rfl, hk⟩
  · simp only [aop, aConvert, ov_ok hx, Option.bind_some, ht, he, beq_self_eq_true, if_true, Option.map_some]
    rfl
  · simp only [Prim.run, getAll, hg, Option.bind_some, Option.map_some]
end

theorem wrs_two {g : Gm} {x y : Wr} {j : Nat} {ro : Bool} {a b : Option Addr} {p q : Nat} (h : g j = some (.cells (wrC x (.slice a x.val.length p) ++ wrC y (.slice b y.val.length q)) 3 ro)) (hv : BytesAt g (.slice a x.val.length p) x.val) (hw : BytesAt g (.slice b y.val.length q) y.val) : WrsRd g (.slice (some ⟨j, 0, none⟩) 2 2) [x, y] :=
  ⟨_, ⟨rfl, .inr (.inr ⟨j, 0, 2, rfl, Nat.le_refl _, .inr ⟨_, ro, h, Nat.le_refl _, rfl⟩⟩)⟩, ⟨wrC x (.slice a x.val.length p), wrC y (.slice b y.val.length q), rfl, rfl, ⟨a, p, rfl, hv⟩, Rows.one rfl ⟨b, q, rfl, hw⟩⟩⟩

/-- Something under k was written behind 1. -/
def undP (k : Bs) (r : List (Bs × Int)) : Prop := ∃ p ∈ r, 1 < p.2 ∧ k <+: p.1
theorem undP_set (k key : Bs) {r : Int} (hr : 1 < r) : ∀ x : List (Bs × Int), undP k (setK key r x) ↔ k <+: key ∨ undP k x
  | [] => by simp [undP, setK, hr]
  | y :: x => by
    unfold setK
    split
    · rename_i e
      constructor
      · rintro ⟨p, hp, h1, h2⟩
        rcases List.mem_cons.1 hp with rfl | hp
        · exact .inl h2
        · exact .inr ⟨p, List.mem_cons_of_mem _ hp, h1, h2⟩
      · rintro (h | ⟨p, hp, h1, h2⟩)
        · exact ⟨_, List.mem_cons_self .., hr, h⟩
        · rcases List.mem_cons.1 hp with rfl | hp
          · exact ⟨_, List.mem_cons_self .., hr, by show k <+: key; rw [← e]; exact h2⟩
          · exact ⟨p, List.mem_cons_of_mem _ hp, h1, h2⟩
    · have ih := undP_set k key hr x
      constructor
      · rintro ⟨p, hp, h1, h2⟩
        rcases List.mem_cons.1 hp with rfl | hp
        · exact .inr ⟨_, List.mem_cons_self .., h1, h2⟩
        · rcases ih.1 ⟨p, hp, h1, h2⟩ with h | ⟨q, hq, h3, h4⟩
          · exact .inl h
          · exact .inr ⟨q, List.mem_cons_of_mem _ hq, h3, h4⟩
      · intro h
        have : k <+: key ∨ undP k x ∨ (1 < y.2 ∧ k <+: y.1) := by
          rcases h with h | ⟨p, hp, h1, h2⟩
          · exact .inl h
          · rcases List.mem_cons.1 hp with rfl | hp
            · exact .inr (.inr ⟨h1, h2⟩)
            · exact .inr (.inl ⟨p, hp, h1, h2⟩)
        rcases this with h | h | ⟨h1, h2⟩
        · obtain ⟨q, hq, h3, h4⟩ := ih.2 (.inl h)
          exact ⟨q, List.mem_cons_of_mem _ hq, h3, h4⟩
        · obtain ⟨q, hq, h3, h4⟩ := ih.2 (.inr h)
          exact ⟨q, List.mem_cons_of_mem _ hq, h3, h4⟩
        · exact ⟨y, List.mem_cons_self .., h1, h2⟩

structure UndI (S : Sto) (k : Bs) (ch : Bool) : Prop where
  is : ch = true ↔ undP k S.last
  rev : 1 ≤ S.rev
  has : ∃ e, findK (k ++ [48]) S.now = some e

section
variable {S : Sto} {k key w : Bs} {ch : Bool}
theorem und_put (h : UndI S k ch) (hk : keyOk key) (hw : w.length ≤ 4000) : S.can [] [⟨key, w, false⟩] = 0 ∧ ∀ ch', (ch' = true ↔ ch = true ∨ k <+: key) → UndI (S.txn [] [⟨key, w, false⟩]).1 k ch' := by
  have hc : S.can [] [⟨key, w, false⟩] = 0 := can_ok (Sto.may_one (by simp) (fun x hx => by cases hx) ⟨hk, (fun q => (by cases q.1)), hw⟩) (fun x hx => by cases hx) (fun w hw q => by rw [List.mem_singleton.1 hw] at q; cases q)
  obtain ⟨h1, h2, h3, h4, _⟩ := Sto.txn_one hc
  have hr := h.rev
  refine ⟨hc, fun ch' hch => ⟨?_, by rw [h2]; omega, ?_⟩⟩
  · rw [hch, h4, undP_set k key (by omega), h.is]
    exact Or.comm
  · rw [h3]
    simp only [Bool.false_eq_true, if_false]
    rw [findK_set]
    split
    · exact ⟨_, rfl⟩
    · exact h.has
theorem und_del (h : UndI S k ch) (hk : keyOk (k ++ [48])) : S.can [] [⟨k ++ [48], [], true⟩] = 0 ∧ ((S.txn [] [⟨k ++ [48], [], true⟩]).1.last = setK (k ++ [48]) (S.rev + 1) S.last) := by
  have hc : S.can [] [⟨k ++ [48], [], true⟩] = 0 := can_ok (Sto.may_one (by simp) (fun x hx => by cases hx) ⟨hk, (fun q => absurd q.2 (by simp)), by simp⟩) (fun x hx => by cases hx) (fun w hw _ => by
    rw [List.mem_singleton.1 hw]
    obtain ⟨e, he⟩ := h.has
    rw [he]; simp)
  exact ⟨hc, (Sto.txn_one hc).2.2.2.1⟩
theorem und_end {ch : Bool} (h : ch = true ↔ undP k S.last) (hk : keyOk k) : S.can [⟨k, 1, true⟩] [⟨[113], [], false⟩] = if ch = true then 6 else 0 := by
  have hm : txnMay [⟨k, 1, true⟩] [⟨[113], [], false⟩] := Sto.may_one (by simp) (fun x hx => by rw [List.mem_singleton.1 hx]; exact ⟨hk, (by show (0 : Int) ≤ 1; decide)⟩) ⟨by simp [keyOk], (fun q => (by cases q.1)), by simp⟩
  have hh : S.holds ⟨k, 1, true⟩ ↔ ¬ undP k S.last := by
    unfold Sto.holds undP
    simp only [if_true]
    constructor
    · rintro q ⟨p, hp, h1, h2⟩; exact q p hp h1 h2
    · intro q p hp h1 h2; exact q ⟨p, hp, h1, h2⟩
  by_cases e : ch = true
  · rw [if_pos e]
    exact can_guard hm ⟨_, List.mem_singleton.2 rfl, fun q => hh.1 q (h.1 e)⟩
  · rw [if_neg e]
    exact can_ok hm (fun x hx => by rw [List.mem_singleton.1 hx]; exact hh.2 fun q => e (h.2 q)) (fun w hw q => by rw [List.mem_singleton.1 hw] at q; cases q)
theorem und_two (hk : keyOk (k ++ [48])) (hk2 : k ++ [48] ≠ [122, 122]) : (Sto.new.txn [] [⟨k ++ [48], [97], false⟩, ⟨[122, 122], [], false⟩]).2 = (1, 0) ∧ UndI (Sto.new.txn [] [⟨k ++ [48], [97], false⟩, ⟨[122, 122], [], false⟩]).1 k false ∧ (Sto.new.txn [] [⟨k ++ [48], [97], false⟩, ⟨[122, 122], [], false⟩]).1.rev = 1 := by
  have hc : Sto.new.can [] [⟨k ++ [48], [97], false⟩, ⟨[122, 122], [], false⟩] = 0 := by
    refine can_ok ⟨by simp, by simp, by simp, fun x hx => (by cases hx), fun w hw => ?_, ?_⟩ (fun x hx => by cases hx) (fun w hw q => ?_)
    · simp only [List.mem_cons, List.mem_nil_iff, or_false] at hw
      rcases hw with rfl | rfl
      · exact ⟨hk, (fun q => (by cases q.1)), by simp⟩
      · exact ⟨by simp [keyOk], (fun q => (by cases q.1)), by simp⟩
    · simp [hk2]
    · simp only [List.mem_cons, List.mem_nil_iff, or_false] at hw
      rcases hw with rfl | rfl <;> cases q
  unfold Sto.txn
  rw [if_pos hc]
  refine ⟨rfl, ⟨?_, Int.le_refl _, ?_⟩, rfl⟩
  · simp only [List.foldl, Sto.put1, Sto.new, setK]
    simp [hk2, undP]
  · simp only [List.foldl, Sto.put1, Sto.new, setK, Bool.false_eq_true, if_false]
    simp [hk2, findK]
end

theorem u8c_one0 (i : Nat) (hi : i < 100) : ([.int .u8 (IntKind.u8.wrap (i : Int))] : List Value) = u8c [UInt8.ofNat i] := by
  rw [u8_wrap (by omega) (by omega), Int.toNat_natCast]
  rfl
theorem str_nil_eq (k : Bs) : ((str k).toList == (⟨#[]⟩ : ByteArray).toList) = decide (k = []) := by
  rw [show (⟨#[]⟩ : ByteArray) = str [] from rfl, str_eq]

theorem storeUnder_c (hB : BegunOk) {g : Gm} {n : Nat} {v : Value} {kk : Bs} {xs : List Bs} {del : Bool} (h : StrsAt g v xs) : C 14 #[.string (str kk), v, .bool del] g n fun u g' n' => u = .bool true := by
  obtain ⟨a, c, rfl⟩ := h.len
  refine c_in3 Tryz.func14 rfl Tryz.ntmps14 rfl fun hw => ?_
  repeat (first | refine w_seq ?_ | refine w_blk ?_ | refine z_seq ?_ | refine z_blk ?_ | refine w_skip ?_)
  refine w_reg 1 rfl rfl (j' := 1) ?_
  refine n_op .no (q := 0) rfl (s_as rfl ?_)
  refine n_nil ?_
  repeat (first | refine w_seq ?_ | refine w_blk ?_ | refine z_seq ?_ | refine z_blk ?_ | refine w_skip ?_)
  refine w_reg 2 rfl rfl (j' := 3) ?_
  refine n_call .no rfl rfl rfl ?_
  refine C.use (hB _ _) fun v g1 n1 hw1 hn1 hq => ?_
  obtain ⟨rfl, rfl⟩ := hq
  refine n_op .no (q := 2) rfl (s_as rfl ?_)
  refine n_nil ?_
  repeat (first | refine w_seq ?_ | refine w_blk ?_ | refine z_seq ?_ | refine z_blk ?_ | refine w_skip ?_)
  refine w_reg 2 rfl rfl (j' := 2) ?_
  refine n_op .no (q := 0) rfl (s_mv rfl ?_)
  refine n_op .no (q := 1) rfl (s_not rfl ?_)
  refine n_nil ?_
  repeat (first | refine w_seq ?_ | refine w_blk ?_ | refine z_seq ?_ | refine z_blk ?_ | refine w_skip ?_)
  refine w_no rfl (rfl) ?_
  repeat (first | refine w_seq ?_ | refine w_blk ?_ | refine z_seq ?_ | refine z_blk ?_ | refine w_skip ?_)
  refine w_reg 4 rfl rfl (j' := 6) ?_
  refine n_op .no (q := 2) rfl (s_mv rfl ?_)
  refine n_call .no rfl rfl rfl ?_
  refine C.use (text23_c (j := 3) kk) fun v g2 n2 hw2 hn2 hq => ?_
  obtain ⟨rfl, rfl⟩ := hq
  have hct : ([112] : Bs).length + (kk.take 3).length ≤ 9223372036854775807 := by rw [List.length_take]; simp only [List.length_cons, List.length_nil]; omega
  refine n_op .no (q := 4) rfl (s_bin rfl rfl (bi_cat (hct)) ?_)
  refine n_op .no (q := 5) rfl (s_as rfl ?_)
  refine n_nil ?_
  have hk : keyOk ([112] ++ kk.take 3) := by
    simp only [keyOk, List.length_append, List.length_take, List.length_cons, List.length_nil]; omega
  have hk0 : keyOk (([112] ++ kk.take 3) ++ [48]) := by
    simp only [keyOk, List.length_append, List.length_take, List.length_cons, List.length_nil]; omega
  have hk2 : ([112] ++ kk.take 3) ++ [48] ≠ [122, 122] := by
    intro e
    simp at e
  have h1 : StrsAt _ (.slice a xs.length c) xs := h
  generalize ([112] ++ kk.take 3 : Bs) = k at *
  have hct2 : k.length + ([48] : Bs).length ≤ 9223372036854775807 := by have := hk.2; simp only [List.length_cons, List.length_nil]; omega
  repeat (first | refine w_seq ?_ | refine w_blk ?_ | refine z_seq ?_ | refine z_blk ?_ | refine w_skip ?_)
  refine w_reg 2 rfl rfl (j' := 2) ?_
  refine n_call .no rfl rfl rfl ?_
  refine C.use (st_newB _ _) fun v g3 n3 hw3 hn3 hq => ?_
  obtain ⟨s, m1, m2, l, rfl, hS3, hb3, k3⟩ := hq
  refine n_op .no (q := 1) rfl (s_as rfl ?_)
  refine n_nil ?_
  repeat (first | refine w_seq ?_ | refine w_blk ?_ | refine z_seq ?_ | refine z_blk ?_ | refine w_skip ?_)
  refine w_reg 15 rfl rfl (j' := 15) ?_
  refine n_op .no (q := 0) rfl (s_mv rfl ?_)
  refine n_op .no (q := 1) rfl (s_mv rfl ?_)
  refine n_op .no (q := 2) rfl (s_bin rfl rfl (bi_cat (hct2)) ?_)
  refine n_op .no (q := 3) rfl (s_bs el_26 ez_26 rfl rfl rfl ?_)
  refine n_op .no (q := 4) rfl (s_mark un_26 un_5 rfl (gs_same _ _ _) ?_)
  refine n_op .no (q := 5) rfl (s_bld pl_39 zl_39 rfl rfl rfl ?_)
  refine n_op .no (q := 6) rfl (s_bld pl_39 zl_39 rfl rfl rfl ?_)
  refine n_op .no (q := 7) rfl (s_bs el_40 ez_40 rfl rfl rfl ?_)
  refine n_op .no (q := 8) rfl (s_bld pl_42 zl_42 rfl rfl rfl ?_)
  refine n_call .no rfl rfl rfl ?_
  obtain ⟨e1, e2, e3⟩ := und_two hk0 hk2
  refine C.use (st_txn_i (hS3.kp0 (n := n3) (by repeat (first | exact Kp.refl _ _ _ | refine Kp.new ?_ (by omega) _)) hw3) Sto.Inv.new (by decide) (by omega) (GdsRd.nil _) (wrs_two (x := ⟨k ++ [48], [97], false⟩) (y := ⟨[122, 122], [], false⟩) (b := none) (q := 0) (gs_same _ _ _) (BytesNew.at (bytes_row (b := 0) (bs := [97]) ((gs_ne (by omega) _).trans (gs_same _ _ _)) rfl (by omega))) (SlC.nil _ _))) fun v g6 n6 hw6 hn6 hq => ?_
  obtain ⟨sl6, hu, hS6, hM6, k6⟩ := hq
  rw [e1] at hu
  subst hu
  have hi6 := Sto.Inv.new.txn (gs := []) (ws := [⟨k ++ [48], [97], false⟩, ⟨[122, 122], [], false⟩])
  generalize (Sto.new.txn [] [⟨k ++ [48], [97], false⟩, ⟨[122, 122], [], false⟩]).1 = S6 at *
  refine n_op .no (q := 10) rfl (s_mv rfl ?_)
  refine n_op .no (q := 11) rfl (s_ext rfl rfl ?_)
  refine n_op .no (q := 12) rfl (s_ext rfl rfl ?_)
  refine n_op .no (q := 13) rfl (s_as rfl ?_)
  refine n_op .no (q := 14) rfl (s_as rfl ?_)
  refine n_nil ?_
  repeat (first | refine w_seq ?_ | refine w_blk ?_ | refine z_seq ?_ | refine z_blk ?_ | refine w_skip ?_)
  refine w_reg 2 rfl rfl (j' := 2) ?_
  refine n_op .no (q := 0) rfl (s_mv rfl ?_)
  refine n_op .no (q := 1) rfl (s_bin rfl rfl rfl ?_)
  refine n_nil ?_
  repeat (first | refine w_seq ?_ | refine w_blk ?_ | refine z_seq ?_ | refine z_blk ?_ | refine w_skip ?_)
  refine w_no rfl (rfl) ?_
  have hq : n2 ≤ s ∧ n2 ≤ m1 ∧ n2 ≤ m2 ∧ n2 ≤ l := by omega
  have k6' : Kp (FS s m1 m2 l (.slice none 0 0)) g3 n3 g6 := (Kp.z (by exact (by repeat (first | exact Kp.refl _ _ _ | refine Kp.new ?_ (by omega) _)))).tr' k6 (by omega)
  have w3 : K0 g2 n2 g3 := k3.dn (by omega)
  have w6 : K0 g2 n2 g6 := w3.trans0 (hS3.low (q := n2) (by omega) (by omega) (by omega) k6') (Nat.le_refl _)
  have hS6 := hS6.up (b' := n2) (by omega)
  clear hS3 k6 k6' hM6 k3 w3
  repeat (first | refine w_seq ?_ | refine w_blk ?_ | refine z_seq ?_ | refine z_blk ?_ | refine w_skip ?_)
  refine w_reg 3 rfl rfl (j' := 5) ?_
  refine n_op .no (q := 2) rfl (s_mv rfl ?_)
  refine n_call .no rfl rfl rfl ?_
  refine C.use (st_rev hS6) fun v g7 n7 hw7 hn7 hq => ?_
  obtain ⟨hu, k7⟩ := hq
  rw [e3] at hu
  subst hu
  refine n_op .no (q := 4) rfl (s_as rfl ?_)
  refine n_nil ?_
  have hS7 := hS6.kp0 (k7.dn (m := n6) (by omega)) hw6
  have w7 : K0 g2 n2 g7 := w6.trans0 (k7.dn (m := n6) (by omega)) (by omega)
  clear hS6 w6 k7
  repeat (first | refine w_seq ?_ | refine w_blk ?_ | refine z_seq ?_ | refine z_blk ?_ | refine w_skip ?_)
  refine w_reg 1 rfl rfl (j' := 1) ?_
  refine n_op .no (q := 0) rfl (s_as rfl ?_)
  refine n_nil ?_
  repeat (first | refine w_seq ?_ | refine w_blk ?_ | refine z_seq ?_ | refine z_blk ?_ | refine w_skip ?_)
  refine w_reg 1 rfl rfl (j' := 2) ?_
  refine n_op .no (q := 1) rfl (s_as rfl ?_)
  refine n_nil ?_
  refine z_seq ?_
  refine z_meet (β := Bool) (fun ch => [(0, .string (str k)), (2, .bool del), (8, .pointer (some ⟨s, 0, none⟩)), (11, .int .i64 1), (12, .bool ch)])
    (fun ch g' n' => n7 ≤ n' ∧ ∃ sl S, StAt n2 g' s m1 m2 l sl S ∧ S.Inv 30 ∧ UndI S k ch) ?_ ?_
  · repeat (first | refine w_seq ?_ | refine w_blk ?_ | refine z_seq ?_ | refine z_blk ?_ | refine w_skip ?_)
    refine w_loop (β := Nat × Bool) (fun x => [(0, .string (str k)), (1, .slice a xs.length c), (2, .bool del), (8, .pointer (some ⟨s, 0, none⟩)), (11, .int .i64 1), (12, .bool x.2), (13, .int .i64 (x.1 : Int))])
      (fun x g' n' => x.1 ≤ xs.length ∧ x.1 ≤ 12 ∧ n7 ≤ n' ∧ K0 g2 n2 g' ∧ ∃ sl S, StAt n2 g' s m1 m2 l sl S ∧ S.Inv (10 + x.1) ∧ UndI S k x.2) (fun x => 12 - x.1) (0, false) ⟨rfl, rfl, rfl, rfl, rfl, rfl, rfl, trivial⟩
      ⟨by simp, by simp, by omega, w7, sl6, S6, hS7, hi6.up (by simp), e2⟩ ?_
    clear hS7 hi6 e2 e3
    rintro ⟨i, ch⟩ f gL nL hwL ⟨hi, hi12, hnL, wL, sl, S, hS, hinv, hU⟩
    simp only at hi hi12 hinv hU
    by_cases hlt : i < xs.length ∧ i < 12
    rotate_left
    · by_cases hlt1 : i < xs.length
      · repeat (first | refine w_seq ?_ | refine w_blk ?_ | refine z_seq ?_ | refine z_blk ?_ | refine w_skip ?_)
        refine w_reg 8 rfl rfl (j' := 8) ?_
        refine n_op .no (q := 0) rfl (s_mv rfl ?_)
        refine n_op .no (q := 1) rfl (s_mv rfl ?_)
        refine n_op .no (q := 2) rfl (s_len rfl rfl un_52 rfl ?_)
        refine n_op .no (q := 3) rfl (s_bin rfl rfl rfl ?_)
        refine n_op .no (q := 4) rfl (s_mv rfl ?_)
        refine n_op (.yes rfl rfl (decide_eq_true (by omega))) (q := 5) rfl (s_mv rfl ?_)
        refine n_op (.yes rfl rfl (decide_eq_true (by omega))) (q := 6) rfl (s_bin rfl rfl rfl ?_)
        refine n_op .no (q := 7) rfl (s_pt rfl (decide_eq_true (by omega)) rfl ?_)
        refine n_nil ?_
        repeat (first | refine w_seq ?_ | refine w_blk ?_ | refine z_seq ?_ | refine z_blk ?_ | refine w_skip ?_)
        refine w_no rfl (decide_eq_false (by omega)) ?_
        refine w_exit rfl ?_
        exact z_met ch ⟨rfl, rfl, rfl, rfl, rfl, trivial⟩ ⟨by omega, sl, S, hS, hinv.up (by omega), hU⟩
      · repeat (first | refine w_seq ?_ | refine w_blk ?_ | refine z_seq ?_ | refine z_blk ?_ | refine w_skip ?_)
        refine w_reg 8 rfl rfl (j' := 8) ?_
        refine n_op .no (q := 0) rfl (s_mv rfl ?_)
        refine n_op .no (q := 1) rfl (s_mv rfl ?_)
        refine n_op .no (q := 2) rfl (s_len rfl rfl un_52 rfl ?_)
        refine n_op .no (q := 3) rfl (s_bin rfl rfl rfl ?_)
        refine n_op .no (q := 4) rfl (s_mv rfl ?_)
        refine n_sk rfl rfl (decide_eq_false (by omega)) ?_
        refine n_sk rfl rfl (decide_eq_false (by omega)) ?_
        refine n_op .no (q := 7) rfl (s_pf rfl (decide_eq_false (by omega)) rfl ?_)
        refine n_nil ?_
        repeat (first | refine w_seq ?_ | refine w_blk ?_ | refine z_seq ?_ | refine z_blk ?_ | refine w_skip ?_)
        refine w_no rfl (rfl) ?_
        refine w_exit rfl ?_
        exact z_met ch ⟨rfl, rfl, rfl, rfl, rfl, trivial⟩ ⟨by omega, sl, S, hS, hinv.up (by omega), hU⟩
    repeat (first | refine w_seq ?_ | refine w_blk ?_ | refine z_seq ?_ | refine z_blk ?_ | refine w_skip ?_)
    refine w_reg 8 rfl rfl (j' := 8) ?_
    refine n_op .no (q := 0) rfl (s_mv rfl ?_)
    refine n_op .no (q := 1) rfl (s_mv rfl ?_)
    refine n_op .no (q := 2) rfl (s_len rfl rfl un_52 rfl ?_)
    refine n_op .no (q := 3) rfl (s_bin rfl rfl rfl ?_)
    refine n_op .no (q := 4) rfl (s_mv rfl ?_)
    refine n_op (.yes rfl rfl (decide_eq_true (by omega))) (q := 5) rfl (s_mv rfl ?_)
    refine n_op (.yes rfl rfl (decide_eq_true (by omega))) (q := 6) rfl (s_bin rfl rfl rfl ?_)
    refine n_op .no (q := 7) rfl (s_pt rfl (decide_eq_true (by omega)) rfl ?_)
    refine n_nil ?_
    repeat (first | refine w_seq ?_ | refine w_blk ?_ | refine z_seq ?_ | refine z_blk ?_ | refine w_skip ?_)
    refine w_yes rfl (decide_eq_true (by omega)) ?_
    obtain ⟨l3, o3, c3, cl3, ro3, x1, x2, x3⟩ := (h1.kp0 wL hw2).at hlt.1
    cases x1
    have hil := hlt.1
    generalize xs[i]'hil = key0 at *
    repeat (first | refine w_seq ?_ | refine w_blk ?_ | refine z_seq ?_ | refine z_blk ?_ | refine w_skip ?_)
    refine w_reg 6 rfl rfl (j' := 14) ?_
    refine n_op .no (q := 8) rfl (s_mv rfl ?_)
    refine n_op .no (q := 9) rfl (s_mv rfl ?_)
    refine n_op .no (q := 10) rfl (s_ia rfl rfl el_52 (by first | assumption | omega) ?_)
    refine n_op .no (q := 11) rfl (s_ld rfl (by repeat (first | exact gs_same _ _ _ | exact x2 | exact x3 | refine (gs_ne (by omega) _).trans ?_)) ag_9 (by first | exact rfl | exact x2 | exact x3) ?_)
    refine n_call .no rfl rfl rfl ?_
    refine C.use (text23_c (j := 8) key0) fun v g4 n4 hw4 hn4 hq => ?_
    obtain ⟨rfl, rfl⟩ := hq
    refine n_op .no (q := 13) rfl (s_as rfl ?_)
    refine n_nil ?_
    have hkl : (key0.take 8).length ≤ 8 := by rw [List.length_take]; omega
    generalize key0.take 8 = key at *
    clear x2 x3
    repeat (first | refine w_seq ?_ | refine w_blk ?_ | refine z_seq ?_ | refine z_blk ?_ | refine w_skip ?_)
    refine w_reg 2 rfl rfl (j' := 2) ?_
    refine n_op .no (q := 0) rfl (s_mv rfl ?_)
    refine n_op .no (q := 1) rfl (s_bin rfl rfl rfl ?_)
    refine n_nil ?_
    by_cases hke : key = []
    · repeat (first | refine w_seq ?_ | refine w_blk ?_ | refine z_seq ?_ | refine z_blk ?_ | refine w_skip ?_)
      refine w_yes rfl ((by rw [str_nil_eq]; exact decide_eq_true hke)) ?_
      refine w_exit rfl ?_
      repeat (first | refine w_seq ?_ | refine w_blk ?_ | refine z_seq ?_ | refine z_blk ?_ | refine w_skip ?_)
      refine w_reg 3 rfl rfl (j' := 5) ?_
      refine n_op .no (q := 2) rfl (s_mv rfl ?_)
      first | refine n_op .no (q := 3) rfl (s_bin rfl rfl (bi_inc (by omega)) ?_) | refine n_op .no (q := 3) rfl (s_bin rfl rfl (bi_add rfl (by omega) (by omega)) ?_)
      refine n_op .no (q := 4) rfl (s_as rfl ?_)
      refine n_nil ?_
      exact z_round (i + 1, ch) ⟨rfl, rfl, rfl, rfl, rfl, rfl, rfl, trivial⟩ ⟨by simp only; omega, by simp only; omega, by omega, wL, sl, S, hS, hinv.up (by simp only; omega), hU⟩ (by simp only; omega)
    repeat (first | refine w_seq ?_ | refine w_blk ?_ | refine z_seq ?_ | refine z_blk ?_ | refine w_skip ?_)
    refine w_no rfl ((by rw [str_nil_eq]; exact decide_eq_false hke)) ?_
    have hkk : keyOk key := ⟨by cases key with | nil => exact absurd rfl hke | cons _ _ => simp, by omega⟩
    have hsk : (str k).size = k.length := str_size k
    have hskey : (str key).size = key.length := str_size key
    obtain ⟨hc, hput⟩ := und_put (w := [UInt8.ofNat i]) hU hkk (by simp)
    obtain ⟨t1, t2, _⟩ := Sto.txn_one hc
    have hi9 := hinv.txn (gs := []) (ws := [⟨key, [UInt8.ofNat i], false⟩])
    repeat (first | refine w_seq ?_ | refine w_blk ?_ | refine z_seq ?_ | refine z_blk ?_ | refine w_skip ?_)
    refine w_reg 14 rfl rfl (j' := 16) ?_
    refine n_op .no (q := 2) rfl (s_mv rfl ?_)
    refine n_op .no (q := 3) rfl (s_mv rfl ?_)
    refine n_op .no (q := 4) rfl (s_mv rfl ?_)
    refine n_op .no (q := 5) rfl (s_i2b un_3 un_5 rfl ?_)
    refine n_op .no (q := 6) rfl (s_bs el_26 ez_26 rfl rfl rfl ?_)
    refine n_op .no (q := 7) rfl (s_bld pl_39 zl_39 rfl rfl rfl ?_)
    refine n_op .no (q := 8) rfl (s_bs el_40 ez_40 rfl rfl rfl ?_)
    refine n_op .no (q := 9) rfl (s_bld pl_42 zl_42 rfl rfl rfl ?_)
    refine n_call .no rfl rfl rfl ?_
    refine C.use (st_txn_i (hS.kp0 (n := nL) (by repeat (first | exact Kp.refl _ _ _ | refine Kp.new ?_ (by omega) _)) hwL) hinv (by omega) (by omega) (GdsRd.nil _) (wrs_one (x := ⟨key, [UInt8.ofNat i], false⟩) (gs_same _ _ _) (BytesNew.at (bytes_row (b := 0) (bs := [UInt8.ofNat i]) ((gs_ne (by omega) _).trans (gs_same _ _ _)) (u8c_one0 i (by omega)) (by omega))))) fun v g9 n9 hw9 hn9 hq => ?_
    obtain ⟨sl9, hu, hS9, hM9, k9⟩ := hq
    rw [t1] at hu
    subst hu
    refine n_op .no (q := 11) rfl (s_mv rfl ?_)
    refine n_op .no (q := 12) rfl (s_ext rfl rfl ?_)
    refine n_op .no (q := 13) rfl (s_ext rfl rfl ?_)
    refine n_op .no (q := 14) rfl (s_as rfl ?_)
    refine n_op .no (q := 15) rfl (s_as rfl ?_)
    refine n_nil ?_
    repeat (first | refine w_seq ?_ | refine w_blk ?_ | refine z_seq ?_ | refine z_blk ?_ | refine w_skip ?_)
    refine w_reg 2 rfl rfl (j' := 2) ?_
    refine n_op .no (q := 0) rfl (s_mv rfl ?_)
    refine n_op .no (q := 1) rfl (s_bin rfl rfl rfl ?_)
    refine n_nil ?_
    repeat (first | refine w_seq ?_ | refine w_blk ?_ | refine z_seq ?_ | refine z_blk ?_ | refine w_skip ?_)
    refine w_no rfl (rfl) ?_
    have k9' : Kp (FS s m1 m2 l sl) g4 nL g9 := (Kp.z (by exact (by repeat (first | exact Kp.refl _ _ _ | refine Kp.new ?_ (by omega) _)))).tr' k9 (by omega)
    have w9 : K0 g2 n2 g9 := wL.trans0 (hS.low hq (Nat.le_refl _) (by omega) k9') (Nat.le_refl _)
    rcases Bool.eq_false_or_eq_true ch with rfl | rfl
    · repeat (first | refine w_seq ?_ | refine w_blk ?_ | refine z_seq ?_ | refine z_blk ?_ | refine w_skip ?_)
      refine w_reg 17 rfl rfl (j' := 19) ?_
      refine n_op .no (q := 2) rfl (s_mv rfl ?_)
      refine n_op .no (q := 3) rfl (s_mv rfl ?_)
      refine n_sk rfl rfl (rfl) ?_
      refine n_sk rfl rfl (rfl) ?_
      refine n_sk rfl rfl (rfl) ?_
      refine n_sk rfl rfl (rfl) ?_
      refine n_sk rfl rfl (rfl) ?_
      refine n_sk rfl rfl (rfl) ?_
      refine n_skU rfl rfl ?_
      refine n_skU rfl rfl ?_
      refine n_skU rfl rfl ?_
      refine n_skU rfl rfl ?_
      refine n_skU rfl rfl ?_
      refine n_skU rfl rfl ?_
      refine n_sk rfl rfl (rfl) ?_
      refine n_op .no (q := 17) rfl (s_pt rfl (rfl) rfl ?_)
      refine n_op .no (q := 18) rfl (s_as rfl ?_)
      refine n_nil ?_
      repeat (first | refine w_seq ?_ | refine w_blk ?_ | refine z_seq ?_ | refine z_blk ?_ | refine w_skip ?_)
      repeat (first | refine w_seq ?_ | refine w_blk ?_ | refine z_seq ?_ | refine z_blk ?_ | refine w_skip ?_)
      refine w_reg 3 rfl rfl (j' := 22) ?_
      refine n_op .no (q := 19) rfl (s_mv rfl ?_)
      first | refine n_op .no (q := 20) rfl (s_bin rfl rfl (bi_inc (by omega)) ?_) | refine n_op .no (q := 20) rfl (s_bin rfl rfl (bi_add rfl (by omega) (by omega)) ?_)
      refine n_op .no (q := 21) rfl (s_as rfl ?_)
      refine n_nil ?_
      exact z_round (i + 1, true) ⟨rfl, rfl, rfl, rfl, rfl, rfl, rfl, trivial⟩ ⟨by simp only; omega, by simp only; omega, by omega, w9, sl9, _, hS9, hi9.up (by simp only; omega), hput true (by simp)⟩ (by simp only; omega)
    · by_cases hl : k.length ≤ key.length
      · repeat (first | refine w_seq ?_ | refine w_blk ?_ | refine z_seq ?_ | refine z_blk ?_ | refine w_skip ?_)
        refine w_reg 17 rfl rfl (j' := 19) ?_
        refine n_op .no (q := 2) rfl (s_mv rfl ?_)
        refine n_op .no (q := 3) rfl (s_mv rfl ?_)
        refine n_op (.yes rfl rfl (rfl)) (q := 4) rfl (s_mv rfl ?_)
        refine n_op (.yes rfl rfl (rfl)) (q := 5) rfl (s_len rfl rfl un_9 rfl ?_)
        refine n_op (.yes rfl rfl (rfl)) (q := 6) rfl (s_mv rfl ?_)
        refine n_op (.yes rfl rfl (rfl)) (q := 7) rfl (s_len rfl rfl un_9 rfl ?_)
        refine n_op (.yes rfl rfl (rfl)) (q := 8) rfl (s_bin rfl rfl rfl ?_)
        refine n_op (.yes rfl rfl (rfl)) (q := 9) rfl (s_mv rfl ?_)
        refine n_op (.yes rfl rfl (decide_eq_true (by omega))) (q := 10) rfl (s_mv rfl ?_)
        refine n_op (.yes rfl rfl (decide_eq_true (by omega))) (q := 11) rfl (s_mv rfl ?_)
        refine n_op (.yes rfl rfl (decide_eq_true (by omega))) (q := 12) rfl (s_len rfl rfl un_9 rfl ?_)
        refine n_op (.yes rfl rfl (decide_eq_true (by omega))) (q := 13) rfl (s_hiS rfl rfl (show (str k).size ≤ key.length by omega) ?_)
        refine n_op (.yes rfl rfl (decide_eq_true (by omega))) (q := 14) rfl (s_mv rfl ?_)
        refine n_op (.yes rfl rfl (decide_eq_true (by omega))) (q := 15) rfl (s_bin rfl rfl rfl ?_)
        refine n_op (.yes rfl rfl (rfl)) (q := 16) rfl (s_pt rfl (decide_eq_true (by omega)) rfl ?_)
        refine n_op .no (q := 17) rfl (s_pf rfl (rfl) rfl ?_)
        refine n_op .no (q := 18) rfl (s_as rfl ?_)
        refine n_nil ?_
        repeat (first | refine w_seq ?_ | refine w_blk ?_ | refine z_seq ?_ | refine z_blk ?_ | refine w_skip ?_)
        repeat (first | refine w_seq ?_ | refine w_blk ?_ | refine z_seq ?_ | refine z_blk ?_ | refine w_skip ?_)
        refine w_reg 3 rfl rfl (j' := 22) ?_
        refine n_op .no (q := 19) rfl (s_mv rfl ?_)
        first | refine n_op .no (q := 20) rfl (s_bin rfl rfl (bi_inc (by omega)) ?_) | refine n_op .no (q := 20) rfl (s_bin rfl rfl (bi_add rfl (by omega) (by omega)) ?_)
        refine n_op .no (q := 21) rfl (s_as rfl ?_)
        refine n_nil ?_
        exact z_round (i + 1, ((str (key.take (str k).size)).toList == (str k).toList)) ⟨rfl, rfl, rfl, rfl, rfl, rfl, rfl, trivial⟩ ⟨by simp only; omega, by simp only; omega, by omega, w9, sl9, _, hS9, hi9.up (by simp only; omega), hput _ (by
          rw [str_eq, hsk, decide_eq_true_iff, List.prefix_iff_eq_take]
          constructor
          · intro e; exact .inr e.symm
          · rintro (e | e)
            · cases e
            · exact e.symm)⟩ (by simp only; omega)
      · repeat (first | refine w_seq ?_ | refine w_blk ?_ | refine z_seq ?_ | refine z_blk ?_ | refine w_skip ?_)
        refine w_reg 17 rfl rfl (j' := 19) ?_
        refine n_op .no (q := 2) rfl (s_mv rfl ?_)
        refine n_op .no (q := 3) rfl (s_mv rfl ?_)
        refine n_op (.yes rfl rfl (rfl)) (q := 4) rfl (s_mv rfl ?_)
        refine n_op (.yes rfl rfl (rfl)) (q := 5) rfl (s_len rfl rfl un_9 rfl ?_)
        refine n_op (.yes rfl rfl (rfl)) (q := 6) rfl (s_mv rfl ?_)
        refine n_op (.yes rfl rfl (rfl)) (q := 7) rfl (s_len rfl rfl un_9 rfl ?_)
        refine n_op (.yes rfl rfl (rfl)) (q := 8) rfl (s_bin rfl rfl rfl ?_)
        refine n_op (.yes rfl rfl (rfl)) (q := 9) rfl (s_mv rfl ?_)
        refine n_sk rfl rfl (decide_eq_false (by omega)) ?_
        refine n_sk rfl rfl (decide_eq_false (by omega)) ?_
        refine n_sk rfl rfl (decide_eq_false (by omega)) ?_
        refine n_sk rfl rfl (decide_eq_false (by omega)) ?_
        refine n_sk rfl rfl (decide_eq_false (by omega)) ?_
        refine n_sk rfl rfl (decide_eq_false (by omega)) ?_
        refine n_op (.yes rfl rfl (rfl)) (q := 16) rfl (s_pf rfl (decide_eq_false (by omega)) rfl ?_)
        refine n_op .no (q := 17) rfl (s_pf rfl (rfl) rfl ?_)
        refine n_op .no (q := 18) rfl (s_as rfl ?_)
        refine n_nil ?_
        repeat (first | refine w_seq ?_ | refine w_blk ?_ | refine z_seq ?_ | refine z_blk ?_ | refine w_skip ?_)
        repeat (first | refine w_seq ?_ | refine w_blk ?_ | refine z_seq ?_ | refine z_blk ?_ | refine w_skip ?_)
        refine w_reg 3 rfl rfl (j' := 22) ?_
        refine n_op .no (q := 19) rfl (s_mv rfl ?_)
        first | refine n_op .no (q := 20) rfl (s_bin rfl rfl (bi_inc (by omega)) ?_) | refine n_op .no (q := 20) rfl (s_bin rfl rfl (bi_add rfl (by omega) (by omega)) ?_)
        refine n_op .no (q := 21) rfl (s_as rfl ?_)
        refine n_nil ?_
        exact z_round (i + 1, false) ⟨rfl, rfl, rfl, rfl, rfl, rfl, rfl, trivial⟩ ⟨by simp only; omega, by simp only; omega, by omega, w9, sl9, _, hS9, hi9.up (by simp only; omega), hput false (by
          constructor
          · intro e; cases e
          · rintro (e | e)
            · cases e
            · exact absurd e.length_le hl)⟩ (by simp only; omega)
  rintro ch f g8 n8 hw8 ⟨hn8, sl, S, hS, hinv, hU⟩
  clear hS7 w7 hi6 e2 e3
  repeat (first | refine w_seq ?_ | refine w_blk ?_ | refine z_seq ?_ | refine z_blk ?_ | refine w_skip ?_)
  refine w_reg 1 rfl rfl (j' := 1) ?_
  refine n_op .no (q := 0) rfl (s_mv rfl ?_)
  refine n_nil ?_
  refine z_seq ?_
  refine z_meet (β := Bool) (fun ch => [(0, .string (str k)), (8, .pointer (some ⟨s, 0, none⟩)), (11, .int .i64 1), (12, .bool ch)])
    (fun ch g' n' => n8 ≤ n' ∧ ∃ sl S, StAt n2 g' s m1 m2 l sl S ∧ S.Inv 31 ∧ (ch = true ↔ undP k S.last)) ?_ ?_
  · cases del with
    | false =>
      repeat (first | refine w_seq ?_ | refine w_blk ?_ | refine z_seq ?_ | refine z_blk ?_ | refine w_skip ?_)
      refine w_no rfl (rfl) ?_
      repeat (first | refine w_seq ?_ | refine w_blk ?_ | refine z_seq ?_ | refine z_blk ?_ | refine w_skip ?_)
      exact z_met ch ⟨rfl, rfl, rfl, rfl, trivial⟩ ⟨by omega, sl, S, hS, hinv.up (by omega), hU.is⟩
    | true =>
      repeat (first | refine w_seq ?_ | refine w_blk ?_ | refine z_seq ?_ | refine z_blk ?_ | refine w_skip ?_)
      refine w_yes rfl (rfl) ?_
      repeat (first | refine w_seq ?_ | refine w_blk ?_ | refine z_seq ?_ | refine z_blk ?_ | refine w_skip ?_)
      refine w_reg 12 rfl rfl (j' := 13) ?_
      refine n_op .no (q := 1) rfl (s_mv rfl ?_)
      refine n_op .no (q := 2) rfl (s_mv rfl ?_)
      refine n_op .no (q := 3) rfl (s_bin rfl rfl (bi_cat (hct2)) ?_)
      refine n_op .no (q := 4) rfl (s_bld pl_39 zl_39 rfl rfl rfl ?_)
      refine n_op .no (q := 5) rfl (s_bs el_40 ez_40 rfl rfl rfl ?_)
      refine n_op .no (q := 6) rfl (s_bld pl_42 zl_42 rfl rfl rfl ?_)
      refine n_call .no rfl rfl rfl ?_
      obtain ⟨hc, hlast⟩ := und_del hU hk0
      obtain ⟨t1, t2, _⟩ := Sto.txn_one hc
      have hi9 := hinv.txn (gs := []) (ws := [⟨k ++ [48], [], true⟩])
      refine C.use (st_txn_i (hS.kp0 (n := n8) (by repeat (first | exact Kp.refl _ _ _ | refine Kp.new ?_ (by omega) _)) hw8) hinv (by omega) (by omega) (GdsRd.nil _) (wrs_one (x := ⟨k ++ [48], [], true⟩) (a := none) (p := 0) (gs_same _ _ _) (SlC.nil _ _))) fun v g9 n9 hw9 hn9 hq => ?_
      obtain ⟨sl9, hu, hS9, hM9, k9⟩ := hq
      rw [t1] at hu
      subst hu
      refine n_op .no (q := 8) rfl (s_mv rfl ?_)
      refine n_op .no (q := 9) rfl (s_ext rfl rfl ?_)
      refine n_op .no (q := 10) rfl (s_ext rfl rfl ?_)
      refine n_op .no (q := 11) rfl (s_as rfl ?_)
      refine n_op .no (q := 12) rfl (s_as rfl ?_)
      refine n_nil ?_
      repeat (first | refine w_seq ?_ | refine w_blk ?_ | refine z_seq ?_ | refine z_blk ?_ | refine w_skip ?_)
      refine w_reg 2 rfl rfl (j' := 2) ?_
      refine n_op .no (q := 0) rfl (s_mv rfl ?_)
      refine n_op .no (q := 1) rfl (s_bin rfl rfl rfl ?_)
      refine n_nil ?_
      repeat (first | refine w_seq ?_ | refine w_blk ?_ | refine z_seq ?_ | refine z_blk ?_ | refine w_skip ?_)
      refine w_no rfl (rfl) ?_
      repeat (first | refine w_seq ?_ | refine w_blk ?_ | refine z_seq ?_ | refine z_blk ?_ | refine w_skip ?_)
      refine w_reg 1 rfl rfl (j' := 3) ?_
      refine n_op .no (q := 2) rfl (s_as rfl ?_)
      refine n_nil ?_
      have hrv := hU.rev
      exact z_met true ⟨rfl, rfl, rfl, rfl, trivial⟩ ⟨by omega, sl9, _, hS9, hi9, by
        rw [hlast, undP_set k _ (by omega)]
        exact ⟨fun _ => .inl (List.prefix_append _ _), fun _ => rfl⟩⟩
  clear hS hinv hU
  clear sl S
  rintro ch f g9 n9 hw9 ⟨hn9, sl, S, hS, hinv, hU⟩
  repeat (first | refine w_seq ?_ | refine w_blk ?_ | refine z_seq ?_ | refine z_blk ?_ | refine w_skip ?_)
  refine w_reg 4 rfl rfl (j' := 4) ?_
  refine n_op .no (q := 0) rfl (s_mv rfl ?_)
  refine n_op .no (q := 1) rfl (s_mv rfl ?_)
  refine n_call .no rfl rfl rfl ?_
  refine C.use (st_rev hS) fun v g10 n10 hw10 hn10 hq => ?_
  obtain ⟨rfl, k10⟩ := hq
  refine n_call .no rfl rfl rfl ?_
  have hS10 := hS.kp0 (k10.dn (m := n9) (by omega)) hw9
  refine C.use (st_compact hS10 (by have := hinv.len; omega)) fun v g11 n11 hw11 hn11 hq => ?_
  obtain ⟨sl11, hS11, _, k11⟩ := hq
  refine n_nil ?_
  have hi11 := hinv.cut S.rev
  have hU11 : ch = true ↔ undP k ({ S with log := S.log.cut S.rev } : Sto).last := hU
  generalize ({ S with log := S.log.cut S.rev } : Sto) = Q at *
  repeat (first | refine w_seq ?_ | refine w_blk ?_ | refine z_seq ?_ | refine z_blk ?_ | refine w_skip ?_)
  refine w_reg 14 rfl rfl (j' := 14) ?_
  refine n_op .no (q := 0) rfl (s_mv rfl ?_)
  refine n_op .no (q := 1) rfl (s_mv rfl ?_)
  refine n_op .no (q := 2) rfl (s_mv rfl ?_)
  refine n_op .no (q := 3) rfl (s_bld pl_36 zl_36 rfl rfl rfl ?_)
  refine n_op .no (q := 4) rfl (s_bs el_37 ez_37 rfl rfl rfl ?_)
  refine n_op .no (q := 5) rfl (s_bld pl_39 zl_39 rfl rfl rfl ?_)
  refine n_op .no (q := 6) rfl (s_bs el_40 ez_40 rfl rfl rfl ?_)
  refine n_op .no (q := 7) rfl (s_bld pl_42 zl_42 rfl rfl rfl ?_)
  refine n_call .no rfl rfl rfl ?_
  have hend := und_end hU11 hk
  refine C.use (st_txn_i (hS11.kp0 (n := n11) (by repeat (first | exact Kp.refl _ _ _ | refine Kp.new ?_ (by omega) _)) hw11) hi11 (by omega) (by omega) (gds_one (x := ⟨k, 1, true⟩) ((gs_ne (by omega) _).trans (gs_same _ _ _))) (wrs_one (x := ⟨[113], [], false⟩) (a := none) (p := 0) (gs_same _ _ _) (SlC.nil _ _))) fun v g12 n12 hw12 hn12 hq => ?_
  obtain ⟨sl12, hu, _, _, _⟩ := hq
  rcases Bool.eq_false_or_eq_true ch with rfl | rfl
  · rw [if_pos rfl] at hend
    rw [Sto.txn_no (by rw [hend]; decide), hend] at hu
    subst hu
    refine n_op .no (q := 9) rfl (s_mv rfl ?_)
    refine n_op .no (q := 10) rfl (s_ext rfl rfl ?_)
    refine n_op .no (q := 11) rfl (s_ext rfl rfl ?_)
    refine n_op .no (q := 12) rfl (s_as rfl ?_)
    refine n_op .no (q := 13) rfl (s_as rfl ?_)
    refine n_nil ?_
    repeat (first | refine w_seq ?_ | refine w_blk ?_ | refine z_seq ?_ | refine z_blk ?_ | refine w_skip ?_)
    refine w_reg 12 rfl rfl (j' := 12) ?_
    refine n_op .no (q := 0) rfl (s_mv rfl ?_)
    refine n_op .no (q := 1) rfl (s_bin rfl rfl rfl ?_)
    refine n_op .no (q := 2) rfl (s_mv rfl ?_)
    refine n_op .no (q := 3) rfl (s_bin rfl rfl (bi_d un_4 rfl) ?_)
    refine n_op .no (q := 4) rfl (s_mv rfl ?_)
    refine n_op (.yes rfl rfl (rfl)) (q := 5) rfl (s_mv rfl ?_)
    refine n_op (.yes rfl rfl (rfl)) (q := 6) rfl (s_bin rfl rfl rfl ?_)
    refine n_op (.yes rfl rfl (rfl)) (q := 7) rfl (s_mv rfl ?_)
    refine n_op (.yes rfl rfl (rfl)) (q := 8) rfl (s_not rfl ?_)
    refine n_op (.yes rfl rfl (rfl)) (q := 9) rfl (s_bin rfl rfl (bi_d un_4 rfl) ?_)
    refine n_op .no (q := 10) rfl (s_pt rfl (rfl) rfl ?_)
    refine n_op .no (q := 11) rfl (s_as rfl ?_)
    refine n_nil ?_
    repeat (first | refine w_ret ?_ | refine w_seq ?_ | refine w_blk ?_ | refine z_seq ?_ | refine z_blk ?_ | refine w_skip ?_)
    refine z_r1 rfl rfl ?_
    rfl
  · rw [if_neg (by simp)] at hend
    rw [(Sto.txn_one hend).1] at hu
    subst hu
    refine n_op .no (q := 9) rfl (s_mv rfl ?_)
    refine n_op .no (q := 10) rfl (s_ext rfl rfl ?_)
    refine n_op .no (q := 11) rfl (s_ext rfl rfl ?_)
    refine n_op .no (q := 12) rfl (s_as rfl ?_)
    refine n_op .no (q := 13) rfl (s_as rfl ?_)
    refine n_nil ?_
    repeat (first | refine w_seq ?_ | refine w_blk ?_ | refine z_seq ?_ | refine z_blk ?_ | refine w_skip ?_)
    refine w_reg 12 rfl rfl (j' := 12) ?_
    refine n_op .no (q := 0) rfl (s_mv rfl ?_)
    refine n_op .no (q := 1) rfl (s_bin rfl rfl rfl ?_)
    refine n_op .no (q := 2) rfl (s_mv rfl ?_)
    refine n_op .no (q := 3) rfl (s_bin rfl rfl (bi_d un_4 rfl) ?_)
    refine n_op .no (q := 4) rfl (s_mv rfl ?_)
    refine n_op (.yes rfl rfl (rfl)) (q := 5) rfl (s_mv rfl ?_)
    refine n_op (.yes rfl rfl (rfl)) (q := 6) rfl (s_bin rfl rfl rfl ?_)
    refine n_op (.yes rfl rfl (rfl)) (q := 7) rfl (s_mv rfl ?_)
    refine n_op (.yes rfl rfl (rfl)) (q := 8) rfl (s_not rfl ?_)
    refine n_op (.yes rfl rfl (rfl)) (q := 9) rfl (s_bin rfl rfl (bi_d un_4 rfl) ?_)
    refine n_op .no (q := 10) rfl (s_pt rfl (rfl) rfl ?_)
    refine n_op .no (q := 11) rfl (s_as rfl ?_)
    refine n_nil ?_
    repeat (first | refine w_ret ?_ | refine w_seq ?_ | refine w_blk ?_ | refine z_seq ?_ | refine z_blk ?_ | refine w_skip ?_)
    refine z_r1 rfl rfl ?_
    rfl

end Go.Proofs.YtehmailaabjdjaaGreat
