/-
  slices.Sorted(maps.Keys(m)), said of abstract heaps: the keys in order, in a row of their own. No condition.
-/
import Derived.Test.YtehmailaabjdjaaGreatLayP
import Derived.Test.YtehmailaabjdjaaGreatWkC
import Derived.Sort.KeysCollected
import Derived.StringKeys
open Go.Proofs
namespace Go.Proofs.YtehmailaabjdjaaGreat
open Go.RowKit Go.Maps Go.Sort Go.Shelf Go.ChangeMaps Go.MapKept
set_option linter.unusedSimpArgs false
set_option linter.unusedVariables false
set_option maxRecDepth 100000

theorem sorts67 (m : Nat) : AnyZ.SortsIn Tryz.prog Tryz.sorted67_ren Fence.wide m :=
  ⟨fun blk off cap ss W hH hblk hsz => callsIn_wide.2 (AnyM.slices_Sort_string Tryz.sort105 blk off cap ss W hH hblk hsz),
   fun p cap W => callsIn_wide.2 (AnyM.slices_Sort_string_none Tryz.sort105 p cap W)⟩

theorem sorted_keys {H : Type} (q b nn : Nat) (D0 : DataW H) (R : Value → Option (DataW H × List MemPlace)) (w : World) (hq : w.cell? ⟨q, 0, none⟩ = some (.map (some b))) (hqs : q < w.heap.size) (hown : w.ownsMap Tryz.prog 9 R b nn D0) (hmax : Maps.size D0 ≤ maxLen) (hbytes : Maps.size D0 * 16 ≤ 140737488355328) :
  Calls Tryz.prog 67 #[.func (.func 106) #[] #[.pointer (some ⟨q, 0, none⟩)]] w fun e w' => ∃ (v : Value) (ss : List (List UInt8)), e = .returned v ∧ ss.Perm (strKeys D0) ∧
   w'.ownsRow w.heap.size 9 1 v ss.length ((ss.mergeSort (fun x y => decide (x ≤ y))).map encStr) ∧ (v = .slice none 0 0 ↔ ss = []) ∧ Below w.heap.size w w' := by
 have hseq : SeqGives Fence.wide 2 Tryz.prog 106 #[.pointer (some ⟨q, 0, none⟩)] encStr (fun ss => ss.Perm (strKeys D0)) (Maps.size D0) w :=
  AnyZ.keys_gives (ρ := Tryz.keys68_ren) { Tryz.keys68 with } Fence.wide _ trivial rfl (by omega) q b nn D0 w hqs hq hown
 exact (callsIn_wide (n := 5)).1 (AnyZ.sorted_in Tryz.sorted67 Fence.wide 5 trivial trivial trivial trivial rfl (by omega) (sorts67 _) (enters_of Tryz.func105 (by kernel_rfl) rfl) 106 #[.pointer (some ⟨q, 0, none⟩)] trivial (enters_of Tryz.func106 (by kernel_rfl) rfl) _ _ hmax hbytes _ hseq)

def sortK (ks : List (List UInt8)) : List (List UInt8) := ks.mergeSort leB
def strV1 (k : List UInt8) : Value := .string (str k)

def SrtRes (ks : List (List UInt8)) (σ : Heap) (u : Value) (τ : Heap) : Prop :=
 (ks = [] ∧ u = .slice none 0 0 ∧ τ = σ) ∨
 (ks ≠ [] ∧ u = .slice (some ⟨σ.nxt, 0, none⟩) ks.length ks.length ∧ τ = ⟨gset σ.get σ.nxt (.cells ((sortK ks).map strV1) 1 false), σ.nxt + 1⟩)

theorem same_below {ρ : LMap} {σ : Heap} {w w' : World} (h : Rel ρ σ w) (hb : Below w.heap.size w w') : Rel ρ σ w' ∧ Frm ρ σ w ρ σ w' :=
  ⟨⟨fun l o hl => let ⟨p, hp, hr⟩ := h.dom l o hl; ⟨p, hp, hr.mono ρ.le_refl (hb.block _ (h.bnd l p hp).2)⟩, h.excl, fun l p hl => let ⟨a, b⟩ := h.bnd l p hl; ⟨a, Nat.lt_of_lt_of_le b hb.size⟩⟩,
   ⟨ρ.le_refl, hb.os, hb.tape, hb.output, hb.size, Nat.le_refl _, fun b hb' _ => hb.block b hb', fun _ _ _ x => x⟩⟩

theorem claim_new {ρ : LMap} {σ : Heap} {w w' : World} (h : Rel ρ σ w) (hb : Below w.heap.size w w') (o : AObj) (p : Pl) (hp : w.heap.size ≤ p.blk) (hp2 : p.blk < w'.heap.size) (hre : Real (ρ.set σ.nxt p) p w' o) :
  Rel (ρ.set σ.nxt p) ⟨gset σ.get σ.nxt o, σ.nxt + 1⟩ w' ∧ Frm ρ σ w (ρ.set σ.nxt p) ⟨gset σ.get σ.nxt o, σ.nxt + 1⟩ w' ∧ Fin ρ σ (ρ.set σ.nxt p) ⟨gset σ.get σ.nxt o, σ.nxt + 1⟩ := by
 have hn : ρ σ.nxt = none := by
  cases hq : ρ σ.nxt with
  | none => rfl
  | some q => exact absurd (h.bnd _ _ hq).1 (Nat.lt_irrefl _)
 have hle := LMap.le_set (l := σ.nxt) p hn
 refine ⟨⟨?_, ?_, ?_⟩, ⟨hle, hb.os, hb.tape, hb.output, hb.size, Nat.le_succ _, fun b hb' _ => hb.block b hb', ?_⟩, ⟨fun l hl => LMap.set_ne _ _ (by omega), fun l hl hg => by show gset σ.get σ.nxt o l = none; rw [gs_ne (by omega)]; exact hg⟩⟩
 ·intro l x hl
  by_cases e : l = σ.nxt
  ·subst e
   have hl : gset σ.get σ.nxt o σ.nxt = some x := hl
   rw [gs_same] at hl; cases hl
   exact ⟨p, LMap.set_same _ _ _, hre⟩
  ·have hl : gset σ.get σ.nxt o l = some x := hl
   rw [gs_ne e] at hl
   obtain ⟨q, hq, hr⟩ := h.dom l x hl
   exact ⟨q, hle _ _ hq, hr.mono hle (hb.block _ (h.bnd _ _ hq).2)⟩
 ·intro l l' x x' q q' hne h1 h2 hx hq hq'
  have h1 : gset σ.get σ.nxt o l = some x := h1
  have h2 : gset σ.get σ.nxt o l' = some x' := h2
  by_cases e : l = σ.nxt
  ·subst e
   rw [LMap.set_same] at hq; cases hq
   rw [LMap.set_ne _ _ (Ne.symm hne)] at hq'
   have := (h.bnd _ _ hq').2
   omega
  ·rw [LMap.set_ne _ _ e] at hq
   by_cases e' : l' = σ.nxt
   ·subst e'
    rw [LMap.set_same] at hq'; cases hq'
    have := (h.bnd _ _ hq).2
    omega
   ·rw [LMap.set_ne _ _ e'] at hq'
    rw [gs_ne e] at h1
    rw [gs_ne e'] at h2
    exact h.excl l l' x x' q q' hne h1 h2 hx hq hq'
 ·intro l q hq
  by_cases e : l = σ.nxt
  ·subst e
   rw [LMap.set_same] at hq; cases hq
   exact ⟨Nat.lt_succ_self _, hp2⟩
  ·rw [LMap.set_ne _ _ e] at hq
   obtain ⟨a, b⟩ := h.bnd _ _ hq
   exact ⟨Nat.lt_succ_of_lt a, Nat.lt_of_lt_of_le b hb.size⟩
 ·rintro qq b hb' ⟨l, x, r, h1, h2, h3, h4⟩
  have h1 : gset σ.get σ.nxt o l = some x := h1
  by_cases e : l = σ.nxt
  ·subst e
   rw [LMap.set_same] at h3; cases h3
   omega
  ·rw [LMap.set_ne _ _ e] at h3
   rw [gs_ne e] at h1
   exact ⟨l, x, r, h1, h2, h3, h4⟩

theorem sorted_acall {σ : Heap} {r m : Nat} {es : List MapEntry} {clock : Nat} {ks : List (List UInt8)} {ro : Bool} (hr : σ.get r = some (.cells [.map (some m)] 0 ro)) (hm : σ.get m = some (.map es clock)) (hks : es.map (·.key) = ks.map strV1) (hsz : ∀ k ∈ ks, k.length ≤ maxLen)
  (hst : Stamped es.toArray clock) (hlen : ks.length ≤ 2 ^ 40) : ACall E6.P 67 #[.func (.func 106) #[] #[.pointer (some ⟨r, 0, none⟩)]] σ (SrtRes ks σ) := by
 intro ρ w args' hrel hargs
 obtain ⟨pr, hpr, hr1, hszd, C, T, fz, hh, hc, _⟩ := hrel.dom r _ hr
 obtain ⟨pm, hpm, es', hh', hes⟩ := hrel.dom m _ hm
 have hoff := hszd.2 rfl
 have ha : args' = #[.func (.func 106) #[] #[.pointer (some ⟨pr.blk, 0, none⟩)]] := by
  obtain ⟨h1, h2⟩ := hargs
  apply Array.ext (by rw [← h1]; rfl)
  intro i hi1 hi2
  have hi0 : i = 0 := by simp at hi2; omega
  subst hi0
  have hv := h2 0 _ (args'[0]) rfl (Array.getElem?_eq_getElem hi1)
  generalize args'[0] = x at hv
  cases hv with
  | func s1 s2 e1 e2 =>
   rename_i a' b'
   have ea : a' = #[] := Array.eq_empty_of_size_eq_zero (by simpa using s1.symm)
   subst ea
   have eb : b' = #[.pointer (some ⟨pr.blk, 0, none⟩)] := by
    apply Array.ext (by rw [← s2]; rfl)
    intro j hj1 hj2
    have hj0 : j = 0 := by simp at hj2; omega
    subst hj0
    have hv := e2 0 _ (b'[0]) rfl (Array.getElem?_eq_getElem hj1)
    generalize b'[0] = y at hv
    cases hv with
    | ptr hl =>
     rw [hpr] at hl; cases hl
     simp [hoff]
   subst eb
   rfl
 subst ha
 have hcell : w.cell? ⟨pr.blk, 0, none⟩ = some (.map (some pm.blk)) := by
  obtain ⟨v', h1, h2⟩ := hc 0 _ rfl
  rw [hoff] at h1
  generalize v' = x at h1 h2
  cases h2 with
  | map hl =>
   rw [hpm] at hl; cases hl
   simp [World.cell?, hh, h1]
 have hkey : es'.toList.map (·.key) = ks.map strV1 := by
  rw [← hks]
  apply List.ext_getElem?
  intro i
  simp only [List.getElem?_map]
  rcases Nat.lt_or_ge i es.length with hi | hi
  ·have h1 : es[i]? = some es[i] := List.getElem?_eq_getElem hi
   have h2 : es'[i]? = some (es'[i]'(by rw [← hes.1]; exact hi)) := Array.getElem?_eq_getElem _
   have h3 := hes.2 i _ _ h1 h2
   rw [Array.getElem?_toList, h1, h2]
   simp [h3.1]
  ·rw [List.getElem?_eq_none hi, List.getElem?_eq_none (by rw [Array.length_toList, ← hes.1]; exact hi)]
 have hborn : es'.toList.map (·.born) = es.map (·.born) := by
  apply List.ext_getElem?
  intro i
  simp only [List.getElem?_map]
  rcases Nat.lt_or_ge i es.length with hi | hi
  ·have h1 : es[i]? = some es[i] := List.getElem?_eq_getElem hi
   have h2 : es'[i]? = some (es'[i]'(by rw [← hes.1]; exact hi)) := Array.getElem?_eq_getElem _
   have h3 := hes.2 i _ _ h1 h2
   rw [Array.getElem?_toList, h1, h2]
   simp [h3.2.2.2]
  ·rw [List.getElem?_eq_none hi, List.getElem?_eq_none (by rw [Array.length_toList, ← hes.1]; exact hi)]
 have hst' : Stamped es' clock := by
  obtain ⟨s1, s2, s3⟩ := hst
  refine ⟨fun x hx => ?_, by rw [hborn]; simpa using s2, by rw [hkey, ← hks]; simpa using s3⟩
  have : x.born ∈ es'.toList.map (·.born) := List.mem_map_of_mem hx
  rw [hborn] at this
  obtain ⟨y, hy, e⟩ := List.mem_map.1 this
  rw [← e]; exact s1 y (by simpa using hy)
 let R : Value → Option (DataW Unit × List MemPlace) := fun _ => some (.nil, [])
 have hel : es'.size = ks.length := by have := congrArg List.length hkey; simpa using this
 have hrd : ∀ x ∈ es'.toList, ∃ k ∈ ks, x.key = strV1 k ∧ WideElems.rd Tryz.prog 9 R x = some (.string k, .nil) := by
  intro x hx
  have : x.key ∈ es'.toList.map (·.key) := List.mem_map_of_mem hx
  rw [hkey] at this
  obtain ⟨k, hk, e⟩ := List.mem_map.1 this
  refine ⟨k, hk, e.symm, ?_⟩
  have h1 : keyOf Tryz.prog 9 x.key = some (.string k) := by
   rw [← e]
   have := WideMaps.keyOf_string_mk (P := Tryz.prog) (k := 9) Tryz.underlying9 (s := str k) (by rw [str_size]; exact hsz k hk)
   rw [str_list] at this
   exact this
  simp only [WideElems.rd, h1, Option.bind_some, R, Option.map_some]
 have hfit : WideElems.Fit Tryz.prog 9 R es' clock := ⟨by rw [hel]; unfold maxLen; omega, hst', fun x hx => let ⟨k, _, _, h⟩ := hrd x hx; ⟨_, h⟩⟩
 have hkeys : strKeys (DataW.map ((es'.toList.map (WideElems.rg Tryz.prog 9 R)).foldr DataW.insert [])) |>.Perm ks := by
  have h1 : (es'.toList.map (WideElems.rg Tryz.prog 9 R)).map (fun p => Go.strOf p.1) = ks := by
   have e1 : (es'.toList.map (WideElems.rg Tryz.prog 9 R)).map (fun p => Go.strOf p.1) = es'.toList.map fun x => match x.key with | .string s => s.data.toList | _ => [] := by
    rw [List.map_map]
    refine List.map_congr_left fun x hx => ?_
    obtain ⟨k, _, e, h⟩ := hrd x hx
    simp only [Function.comp, WideElems.rg_of h, e, strV1, Go.strOf, str_list]
   rw [e1]
   have e2 : (es'.toList.map fun x => match x.key with | .string s => s.data.toList | _ => []) = (es'.toList.map (·.key)).map fun v => match v with | .string s => s.data.toList | _ => [] := by rw [List.map_map]; rfl
   rw [e2, hkey, List.map_map]
   conv => rhs; rw [← List.map_id ks]
   refine List.map_congr_left fun k _ => ?_
   simp only [Function.comp, strV1, str_list, id]
  have := (WideShapes.sorted_perm (es'.toList.map (WideElems.rg Tryz.prog 9 R))).map (fun p => Go.strOf p.1)
  rw [h1] at this
  exact this
 have hsize : Maps.size (DataW.map ((es'.toList.map (WideElems.rg Tryz.prog 9 R)).foldr DataW.insert [])) = ks.length := by
  have := hkeys.length_eq
  simpa [Go.strKeys, Maps.size] using this
 refine (sorted_keys pr.blk pm.blk es'.size _ R w hcell (hrel.bnd _ _ hpr).2 ⟨es', clock, hh', hfit, Nat.le_refl _, rfl⟩ (by rw [hsize]; unfold maxLen; omega) (by rw [hsize]; omega)).mono ?_
 rintro e w' ⟨v, ss, rfl, hperm, hrow, hnil, hbel⟩
 have hperm := hperm.trans hkeys
 have hsort : ss.mergeSort (fun x y => decide (x ≤ y)) = sortK ks := mergeSort_of_perm hperm
 rw [hsort] at hrow
 have hslen := hperm.length_eq
 obtain ⟨hb1, hb2⟩ := same_below hrel hbel
 obtain ⟨hx, ⟨rfl, h0⟩ | ⟨gb, cap, cur, rfl, hbase, hgb, r1, r2, r3, r4⟩⟩ := hrow
 ·have : ks = [] := List.eq_nil_of_length_eq_zero (by omega)
  exact ⟨.slice none 0 0, _, ρ, σ, rfl, hb1, hb2, Fin.refl _ _, .sliceNil 0 0, .inl ⟨this, rfl, rfl⟩⟩
 ·have hne : ks ≠ [] := by
   rintro rfl
   have : ss = [] := List.eq_nil_of_length_eq_zero (by simpa using hslen)
   have := hnil.2 this
   cases this
  have hgl : gb < w'.heap.size := by
   rcases Nat.lt_or_ge gb w'.heap.size with h | h
   ·exact h
   ·rw [Array.getElem?_eq_none h] at hgb; cases hgb
  have hskl : (sortK ks).length = ks.length := List.length_mergeSort ks
  let p : Pl := ⟨gb, 0, cap - ks.length, 1, ks.length⟩
  have hcs : ∀ (i : Nat) (v : Value), ((sortK ks).map strV1)[i]? = some v → ∃ v', cur[p.off + i]? = some v' ∧ VRel (ρ.set σ.nxt p) v v' := by
   intro i v hi
   have hi2 : i < ks.length := by
    rcases Nat.lt_or_ge i ks.length with h | h
    ·exact h
    ·rw [List.getElem?_eq_none (by rw [List.length_map, hskl]; exact h)] at hi; cases hi
   have e1 : (cur.toList.take (ss.length * 1))[i]? = ((sortK ks).map encStr)[i]? := by rw [r4]
   rw [List.getElem?_take, if_pos (by omega), Array.getElem?_toList] at e1
   simp only [p, Nat.zero_add]
   have e2 : ((sortK ks).map encStr)[i]? = some v := by
    rw [← hi]; rfl
   exact ⟨v, e1.trans e2, by
    rw [List.getElem?_map] at hi
    obtain ⟨k, _, rfl⟩ := Option.map_eq_some_iff.1 hi
    exact .string _⟩
  obtain ⟨c1, c2, c3⟩ := claim_new hrel hbel (.cells ((sortK ks).map strV1) 1 false) p hbase hgl ⟨by simp [p, hskl], ⟨rfl, fun h => by cases h⟩, cur, 9, (0, 0), hgb, hcs, fun _ => ⟨by simp only [p]; omega, .inl rfl⟩⟩
  refine ⟨_, _, _, _, rfl, c1, c2, c3, ?_, .inr ⟨hne, rfl, rfl⟩⟩
  rw [hslen]
  have := VRel.slice (ρ := ρ.set σ.nxt p) (l := σ.nxt) (o := 0) (n := ks.length) (c := ks.length) (c' := cap) (p := p) (LMap.set_same _ _ _) (.inr ⟨by simp [p], by simp only [p]; omega⟩)
  simpa [p] using this

end Go.Proofs.YtehmailaabjdjaaGreat
