/-
  THE WALK, BY RULES: what is left to show stands behind structures, so that nothing of it is unfolded by chance. Frames are rows of slots, heaps are maps of names. No condition.
-/
import Derived.Test.YtehmailaabjdjaaGreatKit2
namespace Go.Proofs.YtehmailaabjdjaaGreat
set_option linter.unusedSimpArgs false
set_option linter.unusedVariables false
set_option maxRecDepth 100000

abbrev Sls := List (Nat × Value)

def look : Sls → Nat → Option Value
 | [], _ => none
 | (u, v) :: r, t => match Nat.beq u t with
  | true => some v
  | false => look r t

def lkf (f : Nat → Value) (s : Sls) (t : Nat) : Value := match look s t with
 | some v => v
 | none => f t

def U0 : Nat → Value := fun _ => undef

def Fr (N : Nat) (f : Nat → Value) (s : Sls) : Act := AA N (lkf f s) []

theorem look_some {f : Nat → Value} {s : Sls} {t : Nat} {v : Value} (h : look s t = some v) : lkf f s t = v := by unfold lkf; rw [h]

theorem lkf_cons (f : Nat → Value) (s : Sls) (d : Nat) (v : Value) : lkf f ((d, v) :: s) = fset (lkf f s) d v := by
 funext t
 simp only [lkf, look, fset_apply]
 by_cases h : t = d
 ·subst h
  rw [show Nat.beq t t = true from Nat.beq_refl t, if_pos rfl]
 ·rw [show Nat.beq d t = false from by
   cases hb : Nat.beq d t with
   | false => rfl
   | true => exact absurd (Nat.eq_of_beq_eq_true hb).symm h, if_neg h]

theorem Fr_put (N : Nat) (f : Nat → Value) (s : Sls) (d : Nat) (v : Value) : (Fr N f s).put (some d) v = Fr N f ((d, v) :: s) := by
 unfold Fr
 rw [AA_put, lkf_cons]
theorem Fr_put0 (N : Nat) (f : Nat → Value) (s : Sls) (v : Value) : (Fr N f s).put none v = Fr N f s := rfl

def ov (N : Nat) (s : Sls) : Operand → Option Value
 | .tmp t => match Nat.blt t N with
  | true => look s t
  | false => none
 | .const v => match plainV v with
  | true => some v
  | false => none
 | .func g => some (.func (.func g) #[] #[])
 | .global _ => none

theorem ov_ok {N : Nat} {f : Nat → Value} {s : Sls} {x : Operand} {v : Value} (h : ov N s x = some v) : aeval (Fr N f s) x = some v := by
 cases x with
 | tmp t =>
  simp only [ov] at h
  split at h
  ·rename_i ht
   have ht : t < N := by simpa [Nat.blt_eq] using ht
   unfold Fr
   rw [aeval_tmp ht, look_some h]
  ·cases h
 | const c =>
  simp only [ov] at h
  split at h
  ·rename_i hp
   simp only [aeval, hp, if_true]; exact h
  ·cases h
 | func g => exact h
 | global g => cases h

def ovL (N : Nat) (s : Sls) : List Operand → Option (List Value)
 | [] => some []
 | x :: r => match ov N s x with
  | some v => match ovL N s r with
   | some vs => some (v :: vs)
   | none => none
  | none => none

theorem ovL_ok {N : Nat} {f : Nat → Value} {s : Sls} : ∀ {xs : List Operand} {vs : List Value}, ovL N s xs = some vs → evList (aeval (Fr N f s)) xs = some vs
 | [], vs, h => by simpa [ovL, evList] using h
 | x :: r, vs, h => by
  simp only [ovL] at h
  split at h
  ·rename_i v hv
   split at h
   ·rename_i ws hw
    cases h
    simp only [evList, ov_ok hv, Option.bind_some, ovL_ok hw, Option.map_some]
   ·cases h
  ·cases h

def Agr (f : Nat → Value) (s : Sls) : Sls → Prop
 | [] => True
 | (t, v) :: r => lkf f s t = v ∧ Agr f s r

theorem Agr.look {f : Nat → Value} {s : Sls} : ∀ {s' : Sls}, Agr f s s' → ∀ {t v}, look s' t = some v → lkf f s t = v
 | [], _, t, v, h => by cases h
 | (u, w) :: r, ha, t, v, h => by
  simp only [Go.Proofs.YtehmailaabjdjaaGreat.look] at h
  split at h
  ·rename_i hb
   cases h
   have := Nat.eq_of_beq_eq_true hb
   subst this
   exact ha.1
  ·exact Agr.look ha.2 h

theorem Agr.frame {N : Nat} {f : Nat → Value} {s s' : Sls} (h : Agr f s s') : Fr N f s = Fr N (lkf f s) s' := by
 unfold Fr
 congr 1
 funext t
 show _ = lkf (lkf f s) s' t
 generalize hx : Go.Proofs.YtehmailaabjdjaaGreat.look s' t = x
 cases x with
 | none => unfold lkf; rw [hx]
 | some v => rw [look_some hx]; exact h.look hx

def gset (g : Gm) (n : Nat) (o : AObj) : Gm := fun x => if x = n then some o else g x
theorem gs_same (g : Gm) (n : Nat) (o : AObj) : gset g n o n = some o := if_pos rfl
theorem gs_ne {g : Gm} {l n : Nat} (h : l ≠ n) (o : AObj) : gset g n o l = g l := if_neg h

def WF (g : Gm) (n : Nat) : Prop := ∀ l o, g l = some o → l < n

structure Cx where
 fn : Func
 N : Nat
 R : Value → Gm → Nat → Prop

inductive Fm where
 | sq (c : Code)
 | bl (id : Nat)
 | iv (I : Act → Heap → Prop)

def post (X : Cx) : List Fm → AQ
 | [] => aBody E6.P X.fn fun v σ => X.R v σ.get σ.nxt
 | .sq c :: k => aThen (AWP E6.P c (post X k)) (post X k)
 | .bl id :: k => aBlock id (post X k)
 | .iv I :: k => aThen I (post X k)

structure W (X : Cx) (k : List Fm) (c : Code) (f : Nat → Value) (s : Sls) (g : Gm) (m j : Nat) : Prop where
 out : AWP E6.P c (post X k) (Fr X.N f s) ⟨g, m + j⟩

structure Z (X : Cx) (k : List Fm) (f : Nat → Value) (s : Sls) (g : Gm) (m j : Nat) : Prop where
 out : post X k .normal (Fr X.N f s) ⟨g, m + j⟩

structure C (f : FuncId) (args : Array Value) (g : Gm) (n : Nat) (R : Value → Gm → Nat → Prop) : Prop where
 out : ACall E6.P f args ⟨g, n⟩ fun v σ => R v σ.get σ.nxt

theorem C.wf {f : FuncId} {args : Array Value} {g : Gm} {n : Nat} {R : Value → Gm → Nat → Prop} (h : WF g n → C f args g n R) : C f args g n R :=
 ⟨ACall.wf fun hw => (h hw).out⟩
theorem C.use {f : FuncId} {args : Array Value} {g : Gm} {n : Nat} {R R' : Value → Gm → Nat → Prop} (h : C f args g n R) (k : ∀ v g' n', WF g' n' → n ≤ n' → R v g' n' → R' v g' n') : C f args g n R' :=
 ⟨h.out.strong.mono fun v τ ⟨h1, h2, h3, _⟩ => k v τ.get τ.nxt h2 h3 h1⟩
theorem C.of {f : FuncId} {args : Array Value} {g : Gm} {n : Nat} {R : Value → Heap → Prop} {R' : Value → Gm → Nat → Prop} (h : ACall E6.P f args ⟨g, n⟩ R) (k : ∀ v τ, R v τ → R' v τ.get τ.nxt) : C f args g n R' := ⟨h.mono k⟩

section
variable {X : Cx} {k : List Fm} {f : Nat → Value} {s : Sls} {g : Gm} {m j : Nat}

theorem w_wf {c : Code} (h : WF g (m + j) → W X k c f s g m j) : W X k c f s g m j := ⟨awp_wf fun hw => (h hw).out⟩
theorem w_seq {x y : Code} (h : W X (.sq y :: k) x f s g m j) : W X k (.seq x y) f s g m j := ⟨awp_seq h.out⟩
theorem w_skip (h : Z X k f s g m j) : W X k .skip f s g m j := ⟨awp_skip h.out⟩
theorem w_blk {id : Nat} {c : Code} (h : W X (.bl id :: k) c f s g m j) : W X k (.block id c) f s g m j := ⟨awp_block h.out⟩
theorem w_if {c : Operand} {x y : Code} {b : Bool} (hc : ov X.N s c = some (.bool b)) (h1 : b = true → W X k x f s g m j) (h2 : b = false → W X k y f s g m j) : W X k (.cond c x y) f s g m j :=
 ⟨awp_if b (ov_ok hc) (fun h => (h1 h).out) (fun h => (h2 h).out)⟩
theorem w_yes {c : Operand} {x y : Code} {b : Bool} (hc : ov X.N s c = some (.bool b)) (hb : b = true) (h : W X k x f s g m j) : W X k (.cond c x y) f s g m j := by
 subst hb; exact ⟨awp_yes (ov_ok hc) h.out⟩
theorem w_no {c : Operand} {x y : Code} {b : Bool} (hc : ov X.N s c = some (.bool b)) (hb : b = false) (h : W X k y f s g m j) : W X k (.cond c x y) f s g m j := by
 subst hb; exact ⟨awp_no (ov_ok hc) h.out⟩

theorem z_seq {c : Code} (h : W X k c f s g m j) : Z X (.sq c :: k) f s g m j := ⟨h.out⟩
theorem z_blk {id : Nat} (h : Z X k f s g m j) : Z X (.bl id :: k) f s g m j := ⟨h.out⟩

theorem post_ret (a : Act) (σ : Heap) (h : post X [] .normal a σ) : ∀ k, post X k .ret a σ
 | [] => h
 | .sq c :: k => post_ret a σ h k
 | .bl id :: k => post_ret a σ h k
 | .iv I :: k => post_ret a σ h k
theorem w_ret (h : Z X [] f s g m j) : W X k .ret f s g m j := ⟨awp_ret (post_ret _ _ h.out k)⟩

def popTo (id : Nat) : List Fm → Option (List Fm)
 | [] => none
 | .sq _ :: k => popTo id k
 | .iv _ :: k => popTo id k
 | .bl i :: k => match Nat.beq id i with
  | true => some k
  | false => popTo id k

theorem post_exit {id : Nat} (a : Act) (σ : Heap) {k' : List Fm} (h : post X k' .normal a σ) : ∀ k, popTo id k = some k' → post X k (.exit id) a σ
 | [], hp => by cases hp
 | .sq c :: k, hp => post_exit a σ h k hp
 | .iv I :: k, hp => post_exit a σ h k hp
 | .bl i :: k, hp => by
  simp only [popTo] at hp
  split at hp
  ·rename_i hb
   have := Nat.eq_of_beq_eq_true hb
   subst this
   cases hp
   simp only [post, aBlock, if_true]; exact h
  ·rename_i hb
   have hne : id ≠ i := fun e => by subst e; rw [Nat.beq_refl] at hb; cases hb
   simp only [post, aBlock, if_neg hne]
   exact post_exit a σ h k hp
theorem w_exit {id : Nat} {k' : List Fm} (hp : popTo id k = some k') (h : Z X k' f s g m j) : W X k (.exit id) f s g m j := ⟨awp_exit (post_exit _ _ h.out k hp)⟩

def LI {β : Type} (N : Nat) (st : β → Sls) (I : β → Gm → Nat → Prop) (μ : β → Nat) (b : β) (a : Act) (σ : Heap) : Prop :=
 ∃ b' f', a = Fr N f' (st b') ∧ I b' σ.get σ.nxt ∧ μ b' < μ b

theorem w_loop {c : Code} {β : Type} (st : β → Sls) (I : β → Gm → Nat → Prop) (μ : β → Nat) (b₀ : β) (hs : Agr f s (st b₀)) (hI : I b₀ g (m + j))
  (round : ∀ b f g n, WF g n → I b g n → W X (.iv (LI X.N st I μ b) :: k) c f (st b) g n 0) : W X k (.loop c) f s g m j := by
 refine ⟨awp_loop (β := β) (fun b a σ => ∃ f', a = Fr X.N f' (st b) ∧ I b σ.get σ.nxt) μ b₀ ⟨_, hs.frame, hI⟩ ?_⟩
 rintro b a σ ⟨f', rfl, h2⟩
 refine awp_wf fun hw => ((round b f' σ.get σ.nxt hw h2).out).mono fun e a σ h => ?_
 cases e with
 | normal => obtain ⟨b', f'', h3, h4, h5⟩ := h; exact ⟨b', ⟨f'', h3, h4⟩, h5⟩
 | exit id => exact h
 | goto l => exact h
 | ret => exact h
 | panic ch => exact h
 | outgrown => exact h

theorem z_round {β : Type} {st : β → Sls} {I : β → Gm → Nat → Prop} {μ : β → Nat} {b : β} (b' : β) (hs : Agr f s (st b')) (hI : I b' g (m + j)) (hm : μ b' < μ b) : Z X (.iv (LI X.N st I μ b) :: k) f s g m j :=
 ⟨⟨b', _, hs.frame, hI, hm⟩⟩

def MT {β : Type} (N : Nat) (st : β → Sls) (I : β → Gm → Nat → Prop) (a : Act) (σ : Heap) : Prop := ∃ b f', a = Fr N f' (st b) ∧ I b σ.get σ.nxt

theorem z_meet {β : Type} (st : β → Sls) (I : β → Gm → Nat → Prop) {c y : Code} (h1 : W X (.iv (MT X.N st I) :: k) c f s g m j) (h2 : ∀ b f g n, WF g n → I b g n → W X k y f (st b) g n 0) : W X (.sq y :: k) c f s g m j := by
 refine ⟨h1.out.mono fun e a σ h => ?_⟩
 cases e with
 | normal =>
  obtain ⟨b, f', rfl, h4⟩ := h
  exact awp_wf fun hw => (h2 b f' σ.get σ.nxt hw h4).out
 | exit id => exact h
 | goto l => exact h
 | ret => exact h
 | panic ch => exact h
 | outgrown => exact h
theorem z_met {β : Type} {st : β → Sls} {I : β → Gm → Nat → Prop} (b : β) (hs : Agr f s (st b)) (hI : I b g (m + j)) : Z X (.iv (MT X.N st I) :: k) f s g m j := ⟨⟨b, _, hs.frame, hI⟩⟩

theorem z_r0 (hr : X.fn.results = #[]) (h : X.R (.tuple #[]) g (m + j)) : Z X [] f s g m j :=
 ⟨⟨rfl, _, by unfold aRes; rw [hr]; rfl, h⟩⟩
theorem look_get {N t : Nat} {v : Value} (ht : ov N s (.tmp t) = some v) : (Fr N f s).tmps.getD t undef = v := by
 have := ov_ok (f := f) ht
 simpa [aeval] using this
theorem z_r1 {t : Nat} {v : Value} (hr : X.fn.results = #[.tmp t]) (ht : ov X.N s (.tmp t) = some v) (h : X.R v g (m + j)) : Z X [] f s g m j :=
 ⟨⟨rfl, v, by unfold aRes; rw [hr]; simp only [aResL, aRes1, look_get ht, Option.bind_some, Option.map_some, aOne], h⟩⟩
theorem z_r2 {t u : Nat} {v w : Value} (hr : X.fn.results = #[.tmp t, .tmp u]) (ht : ov X.N s (.tmp t) = some v) (hu : ov X.N s (.tmp u) = some w) (h : X.R (.tuple #[v, w]) g (m + j)) : Z X [] f s g m j :=
 ⟨⟨rfl, _, by unfold aRes; rw [hr]; simp only [aResL, aRes1, look_get ht, look_get hu, Option.bind_some, Option.map_some, aOne], h⟩⟩
theorem z_rc {t T z o l : Nat} {c : List Value} {sz : Nat} {ro : Bool} {c' : List Value} (hr : X.fn.results = #[.cell t T]) (ht : ov X.N s (.tmp t) = some (.pointer (some ⟨l, o, none⟩))) (hg : g l = some (.cells c sz ro))
  (ha : aggO E6.P T = some true) (hz : szO E6.P T = some z) (hc : (c.drop o).take z = c') (hl : o + z ≤ c.length) (h : X.R (.agg c'.toArray) g (m + j)) : Z X [] f s g m j := by
 subst hc
 exact ⟨⟨rfl, _, by unfold aRes; rw [hr]; simp only [aResL, aRes1, look_get ht, hg, partO, ha, hz, Option.bind_some, if_pos hl, Option.map_some, aOne], h⟩⟩
theorem z_rc1 {t T z o l u : Nat} {c : List Value} {sz : Nat} {ro : Bool} {c' : List Value} {w : Value} (hr : X.fn.results = #[.cell t T, .tmp u]) (ht : ov X.N s (.tmp t) = some (.pointer (some ⟨l, o, none⟩))) (hu : ov X.N s (.tmp u) = some w) (hg : g l = some (.cells c sz ro))
  (ha : aggO E6.P T = some true) (hz : szO E6.P T = some z) (hc : (c.drop o).take z = c') (hl : o + z ≤ c.length) (h : X.R (.tuple #[.agg c'.toArray, w]) g (m + j)) : Z X [] f s g m j := by
 subst hc
 exact ⟨⟨rfl, _, by unfold aRes; rw [hr]; simp only [aResL, aRes1, look_get ht, look_get hu, hg, partO, ha, hz, Option.bind_some, if_pos hl, Option.map_some, aOne], h⟩⟩

end

section
variable {f : FuncId} {fn : Func} {c : Code} {N : Nat} {g : Gm} {n : Nat} {R : Value → Gm → Nat → Prop}

theorem lkf_nil (f : Nat → Value) : lkf f [] = f := rfl

theorem c_in0 (hf : E6.P.funcs[f]? = some fn) (hb : fn.body = some c) (hn : fn.ntmps = N) (h : WF g n → W ⟨fn, N, R⟩ [] c U0 [] g n 0) : C f #[] g n R := by
 refine C.wf fun hw => ⟨acall hf hb ?_⟩
 have := (h hw).out
 rw [show aEntry fn #[] = Fr N U0 [] from by rw [aEntry_AA hn (by simp)]; unfold Fr; congr 1]
 exact this
theorem c_in1 (hf : E6.P.funcs[f]? = some fn) (hb : fn.body = some c) (hn : fn.ntmps = N) (hN : Nat.ble 1 N = true) {a : Value} (h : WF g n → W ⟨fn, N, R⟩ [] c U0 [(0, a)] g n 0) : C f #[a] g n R := by
 refine C.wf fun hw => ⟨acall hf hb ?_⟩
 have := (h hw).out
 rw [show aEntry fn #[a] = Fr N U0 [(0, a)] from by
  rw [aEntry_AA hn (by simpa using Nat.le_of_ble_eq_true hN)]; unfold Fr; congr 1; funext t
  rw [lkf_cons, lkf_nil]; rcases t with _ | t <;> simp [fset, U0]]
 exact this
theorem c_in2 (hf : E6.P.funcs[f]? = some fn) (hb : fn.body = some c) (hn : fn.ntmps = N) (hN : Nat.ble 2 N = true) {a b : Value} (h : WF g n → W ⟨fn, N, R⟩ [] c U0 [(0, a), (1, b)] g n 0) : C f #[a, b] g n R := by
 refine C.wf fun hw => ⟨acall hf hb ?_⟩
 have := (h hw).out
 rw [show aEntry fn #[a, b] = Fr N U0 [(0, a), (1, b)] from by
  rw [aEntry_AA hn (by simpa using Nat.le_of_ble_eq_true hN)]; unfold Fr; congr 1; funext t
  rw [lkf_cons, lkf_cons, lkf_nil]; rcases t with _ | _ | t <;> simp [fset, U0]]
 exact this
theorem c_in3 (hf : E6.P.funcs[f]? = some fn) (hb : fn.body = some c) (hn : fn.ntmps = N) (hN : Nat.ble 3 N = true) {a b d : Value} (h : WF g n → W ⟨fn, N, R⟩ [] c U0 [(0, a), (1, b), (2, d)] g n 0) : C f #[a, b, d] g n R := by
 refine C.wf fun hw => ⟨acall hf hb ?_⟩
 have := (h hw).out
 rw [show aEntry fn #[a, b, d] = Fr N U0 [(0, a), (1, b), (2, d)] from by
  rw [aEntry_AA hn (by simpa using Nat.le_of_ble_eq_true hN)]; unfold Fr; congr 1; funext t
  rw [lkf_cons, lkf_cons, lkf_cons, lkf_nil]; rcases t with _ | _ | _ | t <;> simp [fset, U0]]
 exact this
end

end Go.Proofs.YtehmailaabjdjaaGreat
