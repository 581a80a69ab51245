/-
  Two guards that hold over all that begin with a key. No condition. / begun of chapter 25 answers true from any heap; WorldNone. No condition. / ReplicaCalls answers true, whatever comes in. No condition.
-/
import Derived.Test.YtfchjhfccnodpaaGreatPk6
import Derived.Test.YtfchjhfccnodpaaGreatSt
import Derived.Test.YtfchjhfccnodpaaGreatBg
import Derived.Test.YtfchjhfccnodpaaGreatPk5
section
namespace Go.Proofs.YtfchjhfccnodpaaGreat
open Go.MapKept
set_option linter.unusedSimpArgs false
set_option linter.unusedVariables false
set_option maxRecDepth 100000

theorem memo_still {m : Memo} (hv : plainV m.val = true) (hp : m.post = m.pre) (hn : m.n1 = m.n0) (h : C m.f m.args (lk m.pre) m.n0 fun u g' n' => u = m.val ∧ K0 (lk m.pre) m.n0 g') (hw : WF (lk m.pre) m.n0) : m.Ok E6 := by
  unfold Memo.Ok
  rw [hp, hn]
  have h2 : ACall E6.P m.f m.args ⟨lk m.pre, m.n0⟩ fun v τ => v = m.val ∧ ∀ l o, lk m.pre l = some o → τ.get l = some o :=
    ACall.mono h.out fun v τ ⟨h1, h2⟩ => ⟨h1, fun l o hl => h2 l o (hw l o hl) hl fun h => h⟩
  refine (acall_still hv h2).mono ?_
  rintro v τ ⟨h3, rfl⟩
  exact ⟨h3, rfl, fun l o hl => hl⟩

theorem wf_of {m : Memo} (h : (m.pre.all fun x => Nat.blt x.1 m.n0) = true) : WF (lk m.pre) m.n0 := by
  intro l o hl
  rw [List.all_eq_true] at h
  have := h (l, o) (lk_mem hl)
  simpa [Nat.blt_eq] using this

theorem three {es : List MapEntry} (he : es = [⟨.string ⟨#[110, 47, 110]⟩, .int .i64 1, 0⟩, ⟨.string ⟨#[112, 47, 112]⟩, .int .i64 2, 1⟩, ⟨.string ⟨#[108]⟩, .int .i64 3, 2⟩]) :
    Stamped es.toArray 3 ∧ ∀ e ∈ es, ∃ (q : List UInt8) (v : Int), e.key = .string (str q) ∧ e.val = .int .i64 v ∧ v ≤ 3 := by
  subst he
  refine ⟨⟨by simp, by simp, by simp⟩, fun e he => ?_⟩
  simp only [List.mem_cons, List.not_mem_nil, or_false] at he
  rcases he with rfl | rfl | rfl
  · exact ⟨[110, 47, 110], 1, rfl, rfl, by decide⟩
  · exact ⟨[112, 47, 112], 2, rfl, rfl, by decide⟩
  · exact ⟨[108], 3, rfl, rfl, by decide⟩

theorem mem0_ok : mem0.Ok E6 :=
  memo_still rfl rfl rfl (C.use (holdsAll_c (k := [112, 47]) (rev := 3) (g := lk mem0.pre) (s := 26) (m2 := 23) (n := mem0.n0) rfl rfl (three rfl).1 (three rfl).2) fun v g' n' _ _ h => h) (wf_of (by kernel_rfl))

theorem mem1_ok : mem1.Ok E6 :=
  memo_still rfl rfl rfl (C.use (holdsAll_c (k := [110, 47]) (rev := 3) (g := lk mem1.pre) (s := 26) (m2 := 23) (n := mem1.n0) rfl rfl (three rfl).1 (three rfl).2) fun v g' n' _ _ h => h) (wf_of (by kernel_rfl))

end Go.Proofs.YtfchjhfccnodpaaGreat
end

section
namespace Go.Proofs.YtfchjhfccnodpaaGreat
set_option linter.unusedVariables false
set_option maxRecDepth 100000

theorem IR_here : CkOk E6 IR := IR_ok mem0_ok mem1_ok sorted_ok

theorem begun_any (σ : Heap) : ACall E6.P 6 #[] σ fun v τ => v = .bool true ∧ τ = σ := by
  have h := mem9_ok IR_here
  have h1 : ACall E6.P 6 #[] ⟨lk mem9.pre, mem9.n0⟩ fun v _ => v = .bool true := ACall.mono h fun v τ hv => hv.1
  exact acall_closed (fun l => rfl) rfl h1 σ

noncomputable def begunK : CK := fun f vs t n k z => Bool.rec z (match vs with | [] => k (.bool true) t n | _ => z) (Nat.beq f 6)

theorem begunK_ok : CkOk E6 begunK := by
  intro f vs t n k z h
  unfold begunK at h
  rcases brec_true h with ⟨hf, h⟩ | ⟨_, h⟩
  case inr => exact .inr h
  have hf : f = 6 := Nat.eq_of_beq_eq_true hf
  subst hf
  split at h
  · exact .inl ⟨_, t, n, h, begun_any _⟩
  · exact .inr h

def memW : Memo := ⟨5, #[], [], 0, .bool true, [], 1272⟩
theorem memW_fast : memW.fast E6 T6 (orK begunK IR) = true := by kernel_rfl

theorem worldNone_c : C 5 #[] (fun _ => none) 0 fun v _ _ => v = .bool true :=
  ⟨ACall.mono (Memo.fast_sound envOk6 all6 mixed6 (orK_ok begunK_ok IR_here) memW_fast) fun v τ h => h.1⟩

end Go.Proofs.YtfchjhfccnodpaaGreat
end

section
open Go.Proofs
namespace Go.Proofs.YtfchjhfccnodpaaGreat
set_option linter.unusedSimpArgs false
set_option linter.unusedVariables false
set_option maxRecDepth 100000

theorem begunOk : BegunOk := fun g n => ⟨ACall.mono (begun_any ⟨g, n⟩) fun v τ h => by
  obtain ⟨h1, h2⟩ := h
  subst h2
  exact ⟨h1, rfl⟩⟩

theorem repCalls_c (hB : BegunOk) {g : Gm} {n : Nat} {me life : Int} {pack : Bool} {tv : Value} {ts : List Int} (ht : SlC g 1 tv ts.length (ts.map fun z => .int .i64 z)) :
    C 4 #[.int .i64 me, .int .i64 life, tv, .bool pack] g n fun u g' n' => u = .bool true := by
  obtain ⟨a, c, rfl, _⟩ := SlC.len ht
  by_cases hb : 0 ≤ me ∧ me ≤ 7 ∧ 0 ≤ life ∧ life ≤ 1000000
  · exact ⟨ACall.mono (repCallsGood_c hB ht hb.1 hb.2.1 hb.2.2.1 hb.2.2.2).out fun _ _ h => h.1⟩
  · exact ⟨ACall.mono (repCallsBad_c hB hb).out fun _ _ h => h.1⟩

end Go.Proofs.YtfchjhfccnodpaaGreat
end
