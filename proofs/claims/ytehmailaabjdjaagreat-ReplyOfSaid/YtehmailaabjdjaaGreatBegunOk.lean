/-
  begun() answers true in any heap, and leaves all as it was. No condition.
-/
import Derived.Test.YtehmailaabjdjaaGreatBegun
import Derived.Test.YtehmailaabjdjaaGreatClosed
import Derived.Test.YtehmailaabjdjaaGreatSrt
import Derived.Test.YtehmailaabjdjaaGreatLogX
namespace Go.Proofs.YtehmailaabjdjaaGreat
set_option linter.unusedVariables false
set_option maxRecDepth 100000

theorem mem2_ok : mem2.Ok E6 := by
 refine (sorted_acall (σ := ⟨lk mem2.pre, mem2.n0⟩) (r := 3119) (m := 13) (ro := false) (ks := [[97]]) rfl rfl rfl (fun k hk => ?_) ?_ (by decide)).mono ?_
 ·rw [List.mem_singleton.1 hk]; decide
 ·refine ⟨?_, ?_, ?_⟩ <;> simp
 ·rintro v τ (⟨h, _, _⟩ | ⟨_, h2, rfl⟩)
  ·cases h
  ·refine ⟨h2, rfl, fun l o h => ?_⟩
   have hs : (sortK [[97]]).map strV1 = [.string ⟨#[97]⟩] := by simp [sortK, strV1, str]
   rw [hs]
   show gset (lk mem2.pre) 3123 _ l = some o
   simp only [mem2, lk] at h
   unfold gset
   by_cases e : l = 3123
   ·subst e
    simpa using h
   ·rw [if_neg e]
    simp only [e, if_false] at h
    exact h

theorem begunOk : BegunOk := fun g n => by
 have h := mem22_ok mem2_ok
 have h1 : ACall E6.P 22 #[] ⟨lk mem22.pre, mem22.n0⟩ fun v _ => v = .bool true := ACall.mono h fun v τ hv => hv.1
 exact ⟨(acall_closed (fun l => rfl) rfl h1 ⟨g, n⟩).mono fun v τ ⟨h1, h2⟩ => by subst h2; exact ⟨h1, rfl⟩⟩

end Go.Proofs.YtehmailaabjdjaaGreat
