/-
  Calls of the readers of pods, nodes and leases that come again and again (printed by a program). No condition.
-/
import Derived.Test.YtfchjhfccnodpaaGreatPk6
import Derived.Test.YtfchjhfccnodpaaGreatPk2
namespace Go.Proofs.YtfchjhfccnodpaaGreat
set_option linter.unusedVariables false
set_option linter.unusedSimpArgs false
set_option maxRecDepth 100000

abbrev I (n : Nat) : Value := .int .i64 (.ofNat n)
abbrev Vs (a n c : Nat) : Value := .slice (some ⟨a, 0, none⟩) n c
abbrev Pq (a : Nat) : Value := .pointer (some ⟨a, 0, none⟩)
abbrev Sn : Value := .slice none 0 0
abbrev Un : Value := .tuple #[]
abbrev Fa : Value := .bool false
abbrev Tr : Value := .bool true
abbrev Sg (l : List UInt8) : Value := .string ⟨l.toArray⟩
abbrev NO := Nat × AObj

noncomputable def rel0 : Memo := ⟨65, #[Vs 2568 23 23], [(2568, B [2, 46, 90, 24, 56, 40, 194, 208, 0, 0, 0, 0, 5, 0, 0, 0, 5, 0, 0, 0, 5, 0, 0])], 5489, .tuple #[.agg #[Sg [110], I 5, I 5, I 5, Sn, Sn], Tr], [(2568, B [2, 46, 90, 24, 56, 40, 194, 208, 0, 0, 0, 0, 5, 0, 0, 0, 5, 0, 0, 0, 5, 0, 0])], 9320⟩
theorem rel0_ok : rel0.Ok E6 := Memo.fast_sound envOk6 all6 mixed6 (noI_ok _) (by kernel_rfl)
theorem rel0_st : statB rel0 [2568] = true := by kernel_rfl

noncomputable def rel1 : Memo := ⟨63, #[Vs 13420 62 62], [(13420, B [1, 52, 249, 64, 64, 46, 149, 128, 0, 0, 0, 0, 0, 0, 0, 0, 1, 0, 0, 0, 0, 0, 1, 0, 0, 0, 1, 0, 0, 0, 1, 0, 0, 0, 0, 0, 0, 0, 0, 0, 0, 0, 0, 0, 0, 0, 0, 0, 0, 0, 0, 0, 0, 0, 0, 0, 0, 0, 0, 0, 0, 0])], 13876, .tuple #[.agg #[Sg [112], I 1, I 0, I 1, I 1, I 1, Sn, Sn, Sn, Sn, Sg [], Sn, I 0, Sn, Sg [], I 0], Tr], [(13420, B [1, 52, 249, 64, 64, 46, 149, 128, 0, 0, 0, 0, 0, 0, 0, 0, 1, 0, 0, 0, 0, 0, 1, 0, 0, 0, 1, 0, 0, 0, 1, 0, 0, 0, 0, 0, 0, 0, 0, 0, 0, 0, 0, 0, 0, 0, 0, 0, 0, 0, 0, 0, 0, 0, 0, 0, 0, 0, 0, 0, 0, 0])], 20471⟩
theorem rel1_ok : rel1.Ok E6 := Memo.fast_sound envOk6 all6 mixed6 (noI_ok _) (by kernel_rfl)
theorem rel1_st : statB rel1 [13420] = true := by kernel_rfl

noncomputable def rel2 : Memo := ⟨151, #[Sn], [], 33580, .tuple #[.agg #[I 0, I 0], Fa], [], 33688⟩
theorem rel2_ok : rel2.Ok E6 := Memo.fast_sound envOk6 all6 mixed6 (noI_ok _) (by kernel_rfl)
theorem rel2_st : statB rel2 [] = true := by kernel_rfl

noncomputable def rel3 : Memo := ⟨63, #[Vs 41277 10 10], [(41277, B [3, 0, 0, 0, 0, 0, 0, 0, 3, 232])], 43759, .tuple #[.agg #[Sg [], I 0, I 0, I 0, I 0, I 0, Sn, Sn, Sn, Sn, Sg [], Sn, I 0, Sn, Sg [], I 0], Fa], [(41277, B [3, 0, 0, 0, 0, 0, 0, 0, 3, 232])], 46008⟩
theorem rel3_ok : rel3.Ok E6 := Memo.fast_sound envOk6 all6 mixed6 (noI_ok _) (by kernel_rfl)
theorem rel3_st : statB rel3 [41277] = true := by kernel_rfl

noncomputable def rel4 : Memo := ⟨65, #[Vs 41277 10 10], [(41277, B [3, 0, 0, 0, 0, 0, 0, 0, 3, 232])], 46017, .tuple #[.agg #[Sg [], I 0, I 0, I 0, Sn, Sn], Fa], [(41277, B [3, 0, 0, 0, 0, 0, 0, 0, 3, 232])], 47638⟩
theorem rel4_ok : rel4.Ok E6 := Memo.fast_sound envOk6 all6 mixed6 (noI_ok _) (by kernel_rfl)
theorem rel4_st : statB rel4 [41277] = true := by kernel_rfl

noncomputable def rel5 : Memo := ⟨151, #[Vs 59809 10 10], [(59809, B [3, 0, 0, 0, 0, 0, 0, 0, 3, 232])], 59822, .tuple #[.agg #[I 0, I 1000], Tr], [(59809, B [3, 0, 0, 0, 0, 0, 0, 0, 3, 232])], 60382⟩
theorem rel5_ok : rel5.Ok E6 := Memo.fast_sound envOk6 all6 mixed6 (noI_ok _) (by kernel_rfl)
theorem rel5_st : statB rel5 [59809] = true := by kernel_rfl

noncomputable def rel6 : Memo := ⟨63, #[Vs 94887 62 62], [(94887, B [1, 52, 249, 64, 64, 46, 149, 128, 0, 0, 0, 0, 0, 0, 0, 0, 1, 0, 0, 0, 0, 0, 1, 0, 0, 0, 1, 0, 0, 0, 1, 0, 0, 0, 0, 0, 0, 0, 0, 0, 0, 0, 0, 0, 0, 0, 46, 90, 24, 56, 40, 194, 208, 0, 0, 0, 0, 0, 0, 0, 0, 3])], 99133, .tuple #[.agg #[Sg [112], I 1, I 0, I 1, I 1, I 1, Sn, Sn, Sn, Sn, Sg [], Sn, I 0, Sn, Sg [110], I 3], Tr], [(94887, B [1, 52, 249, 64, 64, 46, 149, 128, 0, 0, 0, 0, 0, 0, 0, 0, 1, 0, 0, 0, 0, 0, 1, 0, 0, 0, 1, 0, 0, 0, 1, 0, 0, 0, 0, 0, 0, 0, 0, 0, 0, 0, 0, 0, 0, 0, 46, 90, 24, 56, 40, 194, 208, 0, 0, 0, 0, 0, 0, 0, 0, 3])], 105785⟩
theorem rel6_ok : rel6.Ok E6 := Memo.fast_sound envOk6 all6 mixed6 (noI_ok _) (by kernel_rfl)
theorem rel6_st : statB rel6 [94887] = true := by kernel_rfl

noncomputable def rel7 : Memo := ⟨63, #[Vs 2595689 135 135], [(2595689, B [1, 3, 79, 148, 4, 2, 233, 88, 0, 0, 0, 0, 0, 0, 0, 0, 7, 0, 3, 0, 0, 0, 2, 0, 0, 0, 3, 0, 0, 0, 0, 2, 0, 80, 1, 187, 1, 4, 189, 216, 59, 163, 185, 248, 0, 79, 117, 224, 96, 69, 224, 64, 0, 1, 87, 107, 229, 222, 146, 119, 69, 0, 1, 2, 3, 79, 148, 4, 2, 233, 88, 0, 6, 159, 40, 8, 5, 210, 176, 0, 1, 0, 0, 0, 0, 0, 0, 0, 0, 0, 0, 0, 0, 0, 0, 0, 0, 1, 87, 107, 229, 222, 146, 119, 69, 0, 1, 4, 189, 216, 59, 163, 185, 248, 0, 3, 0, 2, 0, 0, 0, 0, 0, 0, 0, 0, 0, 0, 0, 0, 0, 0, 0, 0, 0])], 2595780, .tuple #[.agg #[Sg [97], I 7, I 3, I 2, I 3, I 0, Vs 2597779 2 2, Vs 2598588 1 1, Vs 2599819 1 1, Vs 2599896 1 1, Sg [122, 111, 110, 101], Vs 2601487 1 1, I 2, Sn, Sg [], I 0], Tr], [(2595689, B [1, 3, 79, 148, 4, 2, 233, 88, 0, 0, 0, 0, 0, 0, 0, 0, 7, 0, 3, 0, 0, 0, 2, 0, 0, 0, 3, 0, 0, 0, 0, 2, 0, 80, 1, 187, 1, 4, 189, 216, 59, 163, 185, 248, 0, 79, 117, 224, 96, 69, 224, 64, 0, 1, 87, 107, 229, 222, 146, 119, 69, 0, 1, 2, 3, 79, 148, 4, 2, 233, 88, 0, 6, 159, 40, 8, 5, 210, 176, 0, 1, 0, 0, 0, 0, 0, 0, 0, 0, 0, 0, 0, 0, 0, 0, 0, 0, 1, 87, 107, 229, 222, 146, 119, 69, 0, 1, 4, 189, 216, 59, 163, 185, 248, 0, 3, 0, 2, 0, 0, 0, 0, 0, 0, 0, 0, 0, 0, 0, 0, 0, 0, 0, 0, 0]), (2597779, .cells [I 80, I 443] 1 false), (2598588, .cells [Sg [97, 112, 112], Sg [120]] 2 false), (2599498, .cells [Sg [97], Sg [98]] 1 false), (2599819, .cells [Sg [122, 111, 110, 101], I 1, Vs 2599498 2 2] 3 false), (2599896, .cells [Sg [], Sg [], Tr] 3 false), (2601487, .cells [Sg [97, 112, 112], I 3, Sn] 3 false)], 2609919⟩
theorem rel7_ok : rel7.Ok E6 := Memo.fast_sound envOk6 all6 mixed6 (noI_ok _) (by kernel_rfl)
theorem rel7_st : statB rel7 [2595689] = true := by kernel_rfl

noncomputable def rels : List (Memo × List Nat) := [(rel0, [2568]), (rel1, [13420]), (rel2, []), (rel3, [41277]), (rel4, [41277]), (rel5, [59809]), (rel6, [94887]), (rel7, [2595689])]
theorem rels_ok : ∀ m ∈ rels, m.1.Ok E6 ∧ statB m.1 m.2 = true := by
  simp only [rels, List.mem_cons, List.not_mem_nil, or_false, forall_eq_or_imp, forall_eq]
  exact ⟨⟨rel0_ok, rel0_st⟩, ⟨rel1_ok, rel1_st⟩, ⟨rel2_ok, rel2_st⟩, ⟨rel3_ok, rel3_st⟩, ⟨rel4_ok, rel4_st⟩, ⟨rel5_ok, rel5_st⟩, ⟨rel6_ok, rel6_st⟩, ⟨rel7_ok, rel7_st⟩⟩

end Go.Proofs.YtfchjhfccnodpaaGreat
