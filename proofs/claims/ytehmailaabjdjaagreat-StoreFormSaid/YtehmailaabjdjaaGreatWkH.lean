/-
  Making a row of bytes, a number's other sign, by rule. No condition.
-/
import Derived.Test.YtehmailaabjdjaaGreatWkC
open Go.Proofs
namespace Go.Proofs.YtehmailaabjdjaaGreat
set_option linter.unusedSimpArgs false
set_option linter.unusedVariables false

theorem z_gen {X : Cx} {k : List Fm} {f : Nat → Value} {s : Sls} {g : Gm} {m j : Nat} (h : ∀ g', g' = g → Z X k f s g' m j) : Z X k f s g m j := h g rfl
theorem Gr.wf {g g' : Gm} {nm n : Nat} {v v' : Value} (h : Gr g g' nm v v') (hw : WF g n) (hn : n ≤ nm) (hv : ∀ x, vname v = some x → x < n) : WF g' (nm + 1) := fun l o hl => by
 by_cases e : l = nm
 ·omega
 ·by_cases e2 : vname v = some l
  ·have := hv l e2; omega
  ·rw [h.same l e e2] at hl
   have := hw l o hl
   omega

section
variable {N : Nat} {f : Nat → Value} {s : Sls} {g : Gm} {n nm : Nat} {k : Sls → Gm → List Nat → List Nat → Prop} {d : Tmp} {ty : TypeId} {pos : String} {af : Array Edge} {gd : Option (Nat × Bool)}
theorem zeros_row (m : Nat) : (List.range m).map (fun i => (Value.int .u8 0).cells[i % (Value.int .u8 0).cells.size]!) = u8c (List.replicate m 0) := by
 have e : ∀ i : Nat, (Value.int .u8 0).cells[i % (Value.int .u8 0).cells.size]! = Value.int .u8 0 := fun i => by
  show (#[Value.int .u8 0])[i % 1]! = _
  rw [Nat.mod_one]; rfl
 simp only [e]
 rw [List.map_const', u8c, List.map_replicate]
 simp
theorem s_msB {t e : TypeId} {x y : Operand} {m : Nat} (ht : E6.P.underlying t = some (.slice e)) (hs : szO E6.P e = some 1) (hb : bytesO E6.P e = some 1) (hz : zeroP E6.P e = some (.int .u8 0)) (hx : ov N s x = some (.int .i64 (m : Int))) (hy : ov N s y = some (.int .i64 (m : Int))) (hm : m ≤ 1000000)
  (hk : k ((d, .slice (some ⟨nm, 0, none⟩) m m) :: s) (gset g nm (.cells (u8c (List.replicate m 0)) 1 false)) [nm] [nm]) : ST N f s g n nm ⟨some d, .makeSlice t x y, ty, pos, af, gd⟩ k := by
 refine ⟨⟨[], fun nm _ => some ⟨.slice (some ⟨nm, 0, none⟩) m m, none, some (.cells (u8c (List.replicate m 0)) 1 false)⟩⟩, ⟨.slice (some ⟨nm, 0, none⟩) m m, none, some (.cells (u8c (List.replicate m 0)) 1 false)⟩, ?_, rfl, rfl, _, _, Fr_put _ _ _ _ _, rfl, hk⟩
 simp only [aop, aMakeSlice, ht, ov_ok hx, ov_ok hy, Option.bind_some, hs, hb, hz]
 simp
 refine ⟨⟨⟨⟨by omega, by omega⟩, rfl⟩, rfl⟩, ?_⟩
 funext nm x
 rw [zeros_row]
theorem s_neg {t : TypeId} {x : Operand} {a b : Int} (hx : ov N s x = some (.int .i64 a)) (hb : -a = b) (h1 : -9223372036854775808 ≤ b) (h2 : b ≤ 9223372036854775807) (hk : k ((d, .int .i64 b) :: s) g [] []) :
  ST N f s g n nm ⟨some d, .unOp .neg t x, ty, pos, af, gd⟩ k := by
 subst hb
 refine st_val (v := .int .i64 (-a)) rfl ?_ hk
 simp only [aop, plainEv, ov_ok hx, Option.bind_some]
 rw [if_pos (show plainV (.int .i64 a) = true from rfl)]
 show Option.map AOp.prim (pureVal E6.P (Op.unary .neg (.int .i64 a))) = _
 have e : Op.unary .neg (.int .i64 a) = pure (.int .i64 (IntKind.i64.wrap (0 - a))) := rfl
 rw [e, show (0 : Int) - a = -a by omega, wrap_id h1 h2]
 rfl
end

end Go.Proofs.YtehmailaabjdjaaGreat
