/-
  THE PROGRAM AS AN ENVIRONMENT: which functions are entered, which the model does by itself; the regions' texts checked. No condition.
-/
import Derived.Test.YtehmailaabjdjaaGreatTab
import Derived.Test.YtehmailaabjdjaaGreatEvalRun
import Derived.Test.YtehmailaabjdjaaGreatProg
import Derived.KernelRfl
namespace Go.Proofs.YtehmailaabjdjaaGreat
set_option linter.unusedSimpArgs false
set_option linter.unusedVariables false

def X6 (f : FuncId) : Option XKind :=
 if f < 209 then (if f = 100 then some (.add .i64) else if f = 113 then some (.load .i64) else none)
 else if f = 209 then some (.load .u32) else if f = 215 then some (.store .u32) else if f = 217 then some .nop else if f = 218 then some (.cas .i32)
 else if f = 219 then some .nop else if f = 220 then some .mark else if f = 222 then some .mark else if f = 223 then some (.add .i32) else none

def B6 (f : FuncId) : Bool := decide (f < 217) && decide (2 < f) && (X6 f).isNone

noncomputable def E6 : Env := { P := Go.Proofs.Tryz.prog, X := X6, B := B6 }

def entersB (P : Program) (f : FuncId) : Bool :=
 match P.funcs[f]? with
 | some fn => fn.body.isSome && !(fn.name == "runtime.NumGoroutine")
 | none => false

theorem entersB_sound {P : Program} {f : FuncId} (h : entersB P f = true) (args : Array Value) (w : World) : (callFunc f args).run P w = .ok (.enter f args) w := by
 unfold entersB at h
 split at h
 case h_2 => cases h
 rename_i fn hf
 simp only [Bool.and_eq_true, Bool.not_eq_true'] at h
 obtain ⟨hb, hn⟩ := h
 obtain ⟨c, hc⟩ := Option.isSome_iff_exists.1 hb
 have h1 : fn.name ≠ "runtime.NumGoroutine" := by simpa using hn
 simp [callFunc, hf, h1, hc]

theorem enters6 : ((List.range 217).all fun f => !(B6 f) || entersB Go.Proofs.Tryz.prog f) = true := by kernel_rfl

theorem ext_of {P : Program} {f : FuncId} {fn : Func} {k : XKind} {e : Array Value → Sem Value} (hf : P.funcs[f]? = some fn) (hname : (fn.name == "runtime.NumGoroutine") = false) (hb : fn.body.isNone = true)
  (hn : Extern.findNext fn = none) (he : Extern.find fn = some e) (hr : ∀ args w, (e args).run P w = (extSem k args).run P w) (args : Array Value) (w : World) :
  (callFunc f args).run P w = (do pure (Next.value (← extSem k args)) : Sem Next).run P w := by
 rw [run_callFunc_extern hf hname hb hn he args w, hr]
 simp [Sem.run_bind]

theorem mark_run (P : Program) (m : Addr → Mark) (args : Array Value) (w : World) : (Extern.Race.marked m args).run P w = (extSem .mark args).run P w := by
 simp only [extSem, Extern.Race.marked, Sem.run_bind]
 cases (Extern.Race.at_ args).run P w with
 | ok a w' => rfl
 | halt h w' => rfl

theorem x100 (args : Array Value) (w : World) : (callFunc 100 args).run Go.Proofs.Tryz.prog w = (do pure (Next.value (← extSem (.add .i64) args)) : Sem Next).run Go.Proofs.Tryz.prog w :=
 ext_of Go.Proofs.Tryz.func100 (by kernel_rfl) (by kernel_rfl) (by kernel_rfl) (by kernel_rfl : Extern.find Go.Proofs.Tryz.f100 = some (Extern.Atomic.update (Op.intArith .add) .i64 true)) (fun _ _ => rfl) args w

theorem x113 (args : Array Value) (w : World) : (callFunc 113 args).run Go.Proofs.Tryz.prog w = (do pure (Next.value (← extSem (.load .i64) args)) : Sem Next).run Go.Proofs.Tryz.prog w :=
 ext_of Go.Proofs.Tryz.func113 (by kernel_rfl) (by kernel_rfl) (by kernel_rfl) (by kernel_rfl : Extern.find Go.Proofs.Tryz.f113 = some (Extern.Atomic.loadT (.int .i64))) (fun _ _ => rfl) args w

theorem x209 (args : Array Value) (w : World) : (callFunc 209 args).run Go.Proofs.Tryz.prog w = (do pure (Next.value (← extSem (.load .u32) args)) : Sem Next).run Go.Proofs.Tryz.prog w :=
 ext_of Go.Proofs.Tryz.func209 (by kernel_rfl) (by kernel_rfl) (by kernel_rfl) (by kernel_rfl : Extern.find Go.Proofs.Tryz.f209 = some (Extern.Atomic.loadT (.int .u32))) (fun _ _ => rfl) args w

theorem x215 (args : Array Value) (w : World) : (callFunc 215 args).run Go.Proofs.Tryz.prog w = (do pure (Next.value (← extSem (.store .u32) args)) : Sem Next).run Go.Proofs.Tryz.prog w :=
 ext_of Go.Proofs.Tryz.func215 (by kernel_rfl) (by kernel_rfl) (by kernel_rfl) (by kernel_rfl : Extern.find Go.Proofs.Tryz.f215 = some (Extern.Atomic.storeT)) (fun _ _ => rfl) args w

theorem x217 (args : Array Value) (w : World) : (callFunc 217 args).run Go.Proofs.Tryz.prog w = (do pure (Next.value (← extSem (.nop) args)) : Sem Next).run Go.Proofs.Tryz.prog w :=
 ext_of Go.Proofs.Tryz.func217 (by kernel_rfl) (by kernel_rfl) (by kernel_rfl) (by kernel_rfl : Extern.find Go.Proofs.Tryz.f217 = some (fun _ => do mark .disable; pure Extern.Race.none_)) (fun _ _ => rfl) args w

theorem x218 (args : Array Value) (w : World) : (callFunc 218 args).run Go.Proofs.Tryz.prog w = (do pure (Next.value (← extSem (.cas .i32) args)) : Sem Next).run Go.Proofs.Tryz.prog w :=
 ext_of Go.Proofs.Tryz.func218 (by kernel_rfl) (by kernel_rfl) (by kernel_rfl) (by kernel_rfl : Extern.find Go.Proofs.Tryz.f218 = some (Extern.Atomic.casT (.int .i32))) (fun _ _ => rfl) args w

theorem x219 (args : Array Value) (w : World) : (callFunc 219 args).run Go.Proofs.Tryz.prog w = (do pure (Next.value (← extSem (.nop) args)) : Sem Next).run Go.Proofs.Tryz.prog w :=
 ext_of Go.Proofs.Tryz.func219 (by kernel_rfl) (by kernel_rfl) (by kernel_rfl) (by kernel_rfl : Extern.find Go.Proofs.Tryz.f219 = some (fun _ => do mark .enable; pure Extern.Race.none_)) (fun _ _ => rfl) args w

theorem x220 (args : Array Value) (w : World) : (callFunc 220 args).run Go.Proofs.Tryz.prog w = (do pure (Next.value (← extSem (.mark) args)) : Sem Next).run Go.Proofs.Tryz.prog w :=
 ext_of Go.Proofs.Tryz.func220 (by kernel_rfl) (by kernel_rfl) (by kernel_rfl) (by kernel_rfl : Extern.find Go.Proofs.Tryz.f220 = some (Extern.Race.marked .acquire)) (mark_run _ _) args w

theorem x222 (args : Array Value) (w : World) : (callFunc 222 args).run Go.Proofs.Tryz.prog w = (do pure (Next.value (← extSem (.mark) args)) : Sem Next).run Go.Proofs.Tryz.prog w :=
 ext_of Go.Proofs.Tryz.func222 (by kernel_rfl) (by kernel_rfl) (by kernel_rfl) (by kernel_rfl : Extern.find Go.Proofs.Tryz.f222 = some (Extern.Race.marked .releaseMerge)) (mark_run _ _) args w

theorem x223 (args : Array Value) (w : World) : (callFunc 223 args).run Go.Proofs.Tryz.prog w = (do pure (Next.value (← extSem (.add .i32) args)) : Sem Next).run Go.Proofs.Tryz.prog w :=
 ext_of Go.Proofs.Tryz.func223 (by kernel_rfl) (by kernel_rfl) (by kernel_rfl) (by kernel_rfl : Extern.find Go.Proofs.Tryz.f223 = some (Extern.Atomic.update (Op.intArith .add) .i32 true)) (fun _ _ => rfl) args w

theorem X6_cases {f : FuncId} {k : XKind} (h : X6 f = some k) : (f = 100 ∧ k = .add .i64) ∨ (f = 113 ∧ k = .load .i64) ∨ (f = 209 ∧ k = .load .u32) ∨ (f = 215 ∧ k = .store .u32) ∨ (f = 217 ∧ k = .nop) ∨ (f = 218 ∧ k = .cas .i32) ∨ (f = 219 ∧ k = .nop) ∨ (f = 220 ∧ k = .mark) ∨ (f = 222 ∧ k = .mark) ∨ (f = 223 ∧ k = .add .i32) := by
 unfold X6 at h
 repeat' split at h
 all_goals first
  | (cases h; done)
  | (cases h; simp_all; done)

theorem envOk6 : EnvOk E6 where
 c := ⟨Go.Proofs.Tryz.underlying9, Go.Proofs.Tryz.underlying26, Go.Proofs.Tryz.underlying5⟩
 x := by
  intro f k h args w
  have h' : X6 f = some k := h
  rcases X6_cases h' with ⟨rfl, rfl⟩ | ⟨rfl, rfl⟩ | ⟨rfl, rfl⟩ | ⟨rfl, rfl⟩ | ⟨rfl, rfl⟩ | ⟨rfl, rfl⟩ | ⟨rfl, rfl⟩ | ⟨rfl, rfl⟩ | ⟨rfl, rfl⟩ | ⟨rfl, rfl⟩
  ·exact x100 args w
  ·exact x113 args w
  ·exact x209 args w
  ·exact x215 args w
  ·exact x217 args w
  ·exact x218 args w
  ·exact x219 args w
  ·exact x220 args w
  ·exact x222 args w
  ·exact x223 args w
 b := by
  intro f h args w
  have h' : B6 f = true := h
  have hlt : f < 217 := by
   simp only [B6, Bool.and_eq_true, decide_eq_true_eq] at h'
   exact h'.1.1
  have := enters6
  simp only [List.all_eq_true] at this
  have := this f (List.mem_range.2 hlt)
  rw [h'] at this
  have h2 : entersB Go.Proofs.Tryz.prog f = true := by simpa using this
  exact entersB_sound h2 args w

theorem all6 : AllOk E6 T6 := allOk (by kernel_rfl)

theorem mixed6 : E6.P.follows .mixedOrders = true := by kernel_rfl

end Go.Proofs.YtehmailaabjdjaaGreat
