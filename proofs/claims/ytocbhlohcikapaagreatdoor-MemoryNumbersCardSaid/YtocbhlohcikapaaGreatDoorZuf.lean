/-
  Words, plain lemmas and walks, merged: Dv, Mc, Dw.
-/
import Derived.Test.YtocbhlohcikapaaGreatDoorZue
import Derived.Test.YtocbhlohcikapaaGreatDoorZua
import Derived.OrdersIn
import Derived.TacticsIn
import Derived.RangeFuncCalls
set_option linter.unusedVariables false
set_option linter.unusedSimpArgs false
namespace Go.Proofs.YtocbhlohcikapaaGreatDoor
section
open Go
section
variable {P : Program} {ops : Array Oper} {Q : Exit → Act → World → Prop}
def depB (ops : Array Oper) : Nat → Nat → Nat → Bool
 | 0, i, j => decide (i = j)
 | fuel + 1, i, j => decide (i = j) || ((ops[j]?).map (fun o => o.after.any fun e => Region.binds .any e && depB ops fuel i e.on)).getD false
theorem dep_done {l : Array Bool} (cl : ∀ i o, ops[i]? = some o → l.getD i false = true → ∀ e ∈ o.after, Region.binds .any e = true → l.getD e.on false = true) : ∀ (fuel i j : Nat), depB ops fuel i j = true → l.getD j false = true → l.getD i false = true
 | 0, i, j, h, k => by
  obtain rfl := of_decide_eq_true h
  exact k
 | fuel + 1, i, j, h, k => by
  unfold depB at h
  rw [Bool.or_eq_true] at h
  rcases h with h | h
  ·obtain rfl := of_decide_eq_true h
   exact k
  ·cases ho : ops[j]? with
   | none => rw [ho] at h; cases h
   | some o =>
    rw [ho] at h
    simp only [Option.map_some, Option.getD_some, Array.any_eq_true] at h
    obtain ⟨m, hm, h1⟩ := h
    rw [Bool.and_eq_true] at h1
    exact dep_done cl fuel i _ h1.2 (cl j o ho k _ (Array.getElem_mem hm) h1.1)
theorem getD_setN {l : Array Bool} {i j : Nat} (hij : j ≠ i) : (l.setIfInBounds i true).getD j false = l.getD j false := by
 by_cases hj : j < l.size
 ·simp [Array.getD, hj, Ne.symm hij]
 ·simp [Array.getD, hj]
theorem getD_setI {l : Array Bool} {i : Nat} (hi : i < l.size) : (l.setIfInBounds i true).getD i false = true := by simp [Array.getD, hi]
theorem getD_ff {l : Array Bool} {i : Nat} (h : l.getD i true = false) : l.getD i false = false := by
 obtain ⟨hi, he⟩ := getD_falseD h
 simp [Array.getD, hi, he]
end
def updZ (f : Nat → Option Value) (d : Option Nat) (v : Value) : Nat → Option Value := match d with
 | some t => fun k => if k = t then some v else f k
 | none => f
section
variable {P : Program} {ops : Array Oper} {Q : Exit → Act → World → Prop}
end
def knW (L : List (Option Nat × Option Value)) (i : Nat) : Option Value := (L[i]?).bind (·.2)
def updB (d : Nat → Bool) (i : Nat) : Nat → Bool := fun k => if k = i then true else d k
section
variable {P : Program} {ops : Array Oper} {Q : Exit → Act → World → Prop}
structure InvW (ops : Array Oper) (L : List (Option Nat × Option Value)) (S : (Nat → Bool) → (Nat → Option Value) → World → Prop) (l : Array Bool) (f : Nat → Option Value) (W : World) : Prop where
 sz : l.size = ops.size
 st : S (fun k => l.getD k false) f W
 dom : ∀ t, t ∉ dstsD ops → f t = none
 val : ∀ i o t, ops[i]? = some o → o.dst = some t → l.getD i false = true → ∃ v, f t = some v ∧ ∀ u, knW L i = some u → v = u
 old : ∀ i o t, ops[i]? = some o → o.dst = some t → l.getD i false = false → f t = none
 cl : ∀ i o, ops[i]? = some o → l.getD i false = true → ∀ e ∈ o.after, Region.binds .any e = true → l.getD e.on false = true
theorem region_detW0 {id : Nat} {A : Act} {w : World} (hm : P.follows .mixedOrders = true) (L : List (Option Nat × Option Value)) (fuel : Nat) (S : (Nat → Bool) → (Nat → Option Value) → World → Prop)
  (hd : ((List.range ops.size).all fun i => ((ops[i]?).map (·.after.all fun e => !Region.binds .any e || decide (e.on < i))).getD true) = true)
  (hn : (dstsD ops).Nodup) (hlt : (dstsD ops).all (fun t => decide (t < A.tmps.size)) = true)
  (h0 : S (fun _ => false) (fun _ => none) { w with drawn := w.drawn + 1 })
  (hstep : ∀ (i : Nat) (o : Oper), ops[i]? = some o → ∀ (a : Act) (d : Nat → Bool) (f : Nat → Option Value) (W : World), S d f W → d i = false → (∀ e ∈ o.after, Region.binds .any e = true → d e.on = true) → (∀ j, depB ops fuel i j = true → d j = false) → a.tmps.size = A.tmps.size →
   (∀ e ∈ o.after, Region.binds .any e = true → ∀ o', ops[e.on]? = some o' → ∀ t, o'.dst = some t → ∃ v, f t = some v ∧ a.tmps[t]? = some v ∧ ∀ u, knW L e.on = some u → v = u) →
   (∀ t, t ∉ dstsD ops → a.tmps[t]? = A.tmps[t]?) →
   (∀ j o', depB ops fuel i j = true → ops[j]? = some o' → ∀ t, o'.dst = some t → f t = none ∧ a.tmps[t]? = A.tmps[t]?) →
   ∀ K : Act → World → Prop, (∀ v W', (∀ u, knW L i = some u → v = u) → S (updB d i) (updZ f o.dst v) W' → K (a.put o.dst v) W') → if Region.wanted o (yielded ops a.tmps) = true then Oper.wp P o a W K Q else K (a.put o.dst undef) W)
  (hend : ∀ d f W, S d f W → (∀ i, i < ops.size → d i = true) → (∀ t, t ∉ dstsD ops → f t = none) → (∀ i o t, ops[i]? = some o → o.dst = some t → ∃ v, f t = some v ∧ ∀ u, knW L i = some u → v = u) → Q .normal (frD A f) W) :
  (Code.region id ops true).wp P Q A w := by
 refine wp_region_any hm (wpAny_invD (fun l a W => ∃ f, a = frD A f ∧ InvW ops L S l f W) ?_ ?_ _ _ _ _ ?_ ?_)
 ·rintro l a W i ⟨f, rfl, hI⟩ hi
  obtain ⟨h1, h2, h3⟩ := mem_readyD.1 hi
  obtain ⟨hl, he⟩ := getD_falseD h2
  have hff := getD_ff h2
  have ho : ops[i]? = some ops[i] := Array.getElem?_eq_getElem h1
  have hrdy : ∀ e ∈ ops[i].after, Region.binds .any e = true → l.getD e.on false = true := by
   intro e he' hb
   unfold rdyAtD at h3
   rw [ho] at h3
   simp only [Option.map_some, Option.getD_some, Array.all_eq_true] at h3
   obtain ⟨k, hk, rfl⟩ := Array.mem_iff_getElem.1 he'
   have := h3 k hk
   rw [Bool.or_eq_true] at this
   rcases this with h5 | h5
   ·rw [hb] at h5; cases h5
   ·exact h5
  refine wpOp_step ho (fun K hK => ?_)
  refine hstep i ops[i] ho (frD A f) (fun k => l.getD k false) f W hI.st hff hrdy ?_ (by simp [frD]) ?_ ?_ ?_ K ?_
  ·intro j hj
   show l.getD j false = false
   cases hx : l.getD j false with
   | false => rfl
   | true =>
    have := dep_done hI.cl fuel i j hj hx
    rw [hff] at this; cases this
  ·intro e he' hb o' hoe t hdt
   obtain ⟨v, hv, hu⟩ := hI.val e.on o' t hoe hdt (hrdy e he' hb)
   have ht : t < A.tmps.size := by
    have := List.all_eq_true.1 hlt t (by unfold dstsD; exact List.mem_filterMap.2 ⟨o', by have := Array.mem_of_getElem? hoe; simpa using this, hdt⟩)
    exact of_decide_eq_true this
   refine ⟨v, hv, ?_, hu⟩
   simp only [frD, Array.getElem?_mapIdx, hv, Option.getD_some]
   rw [Array.getElem?_eq_getElem ht]; rfl
  ·intro t ht
   simp only [frD, Array.getElem?_mapIdx, hI.dom t ht, Option.getD_none]
   cases A.tmps[t]? <;> rfl
  ·intro j o' hdep hj t hdt
   have hnj : l.getD j false = false := by
    cases hx : l.getD j false with
    | false => rfl
    | true =>
     have := dep_done hI.cl fuel i j hdep hx
     rw [hff] at this; cases this
   have hN := hI.old j o' t hj hdt hnj
   refine ⟨hN, ?_⟩
   simp only [frD, Array.getElem?_mapIdx, hN, Option.getD_none]
   cases A.tmps[t]? <;> rfl
  ·intro v W' hu hS
   refine hK _ _ ⟨updZ f ops[i].dst v, ?_, ?_⟩
   ·cases hx : ops[i].dst with
    | none => exact fr_put0D _
    | some t => exact fr_putD t _
   ·have hfun : updB (fun k => l.getD k false) i = fun k => (l.setIfInBounds i true).getD k false := by
     funext k
     unfold updB
     by_cases hk : k = i
     ·rw [if_pos hk, hk, getD_setI hl]
     ·rw [if_neg hk, getD_setN hk]
    refine ⟨by simpa using hI.sz, by rw [← hfun]; exact hS, ?_, ?_, ?_, ?_⟩
    ·intro t ht
     cases hx : ops[i].dst with
     | none => exact hI.dom t ht
     | some t' =>
      have : t ≠ t' := by
       rintro rfl
       exact ht (by unfold dstsD; exact List.mem_filterMap.2 ⟨ops[i], by simp, hx⟩)
      show (if t = t' then _ else f t) = none
      rw [if_neg this]; exact hI.dom t ht
    ·intro j o t hoj hdt hdone
     by_cases hij : j = i
     ·subst hij
      rw [ho] at hoj
      cases hoj
      rw [hdt]
      exact ⟨v, by show (if t = t then some v else f t) = _; rw [if_pos rfl], hu⟩
     ·rw [getD_setN hij] at hdone
      have hv := hI.val j o t hoj hdt hdone
      cases hx : ops[i].dst with
      | none => exact hv
      | some t' =>
       have : t ≠ t' := by
        rintro rfl
        exact hij (dst_uniqD hn hoj ho hdt hx)
       show ∃ v', (if t = t' then some v else f t) = some v' ∧ _
       rw [if_neg this]; exact hv
    ·intro j o t hoj hdt hnd
     by_cases hij : j = i
     ·subst hij
      rw [getD_setI hl] at hnd; cases hnd
     ·rw [getD_setN hij] at hnd
      have hv := hI.old j o t hoj hdt hnd
      cases hx : ops[i].dst with
      | none => exact hv
      | some t' =>
       show (if t = t' then some v else f t) = _
       have : t ≠ t' := by
        rintro rfl
        exact hij (dst_uniqD hn hoj ho hdt hx)
       rw [if_neg this]; exact hv
    ·intro j o hoj hdone e he' hb
     by_cases hij : j = i
     ·subst hij
      rw [ho] at hoj
      cases hoj
      exact getD_setD (hrdy e he' hb)
     ·rw [getD_setN hij] at hdone
      exact getD_setD (hI.cl j o hoj hdone e he' hb)
 ·rintro l a W ⟨f, rfl, hI⟩ hr
  have hall := ready_nilD hI.sz hd hr
  refine hend _ f W hI.st hall hI.dom (fun i o t ho ht => hI.val i o t ho ht (hall i ?_))
  exact (Array.getElem?_eq_some_iff.1 ho).1
 ·rw [Array.toList_replicate]
  exact Nat.le_trans List.count_le_length (by simp)
 ·have hff : ∀ i, (Array.replicate ops.size false).getD i false = false := fun i => by
   by_cases hjl : i < ops.size <;> simp [Array.getD, hjl]
  exact ⟨_, (fr_noneD A).symm, by simp, (by rw [show (fun k => (Array.replicate ops.size false).getD k false) = fun _ => false from funext hff]; exact h0), fun _ _ => rfl, (fun i o t ho ht hx => by rw [hff] at hx; cases hx), fun _ _ _ _ _ _ => rfl, (fun i o ho hx => by rw [hff] at hx; cases hx)⟩
theorem region_detW {id : Nat} {A : Act} {w : World} (hm : P.follows .mixedOrders = true) (fuel : Nat) (L : List (Option Nat × Option Value)) (S : (Nat → Bool) → (Nat → Option Value) → World → Prop)
  (hL : L.map (·.1) = ops.toList.map (·.dst))
  (hd : ((List.range ops.size).all fun i => ((ops[i]?).map (·.after.all fun e => !Region.binds .any e || decide (e.on < i))).getD true) = true)
  (hnb : decide (L.filterMap (·.1)).Nodup = true) (hlt : (L.filterMap (·.1)).all (fun t => decide (t < A.tmps.size)) = true)
  (h0 : S (fun _ => false) (fun _ => none) { w with drawn := w.drawn + 1 })
  (hstep : ∀ (i : Nat) (o : Oper), ops[i]? = some o → ∀ (a : Act) (d : Nat → Bool) (f : Nat → Option Value) (W : World), S d f W → d i = false → (∀ e ∈ o.after, Region.binds .any e = true → d e.on = true) → (∀ j, depB ops fuel i j = true → d j = false) →
   (∀ e ∈ o.after, Region.binds .any e = true → ∀ p, L[e.on]? = some p → ∀ t, p.1 = some t → ∃ v, f t = some v ∧ a.tmps[t]? = some v ∧ ∀ u, p.2 = some u → v = u) →
   (∀ t, (L.filterMap (·.1)).contains t = false → a.tmps[t]? = A.tmps[t]?) →
   (∀ j, depB ops fuel i j = true → ∀ p, L[j]? = some p → ∀ t, p.1 = some t → f t = none ∧ a.tmps[t]? = A.tmps[t]?) →
   ∀ K : Act → World → Prop, (∀ v W', (∀ u, knW L i = some u → v = u) → S (updB d i) (updZ f o.dst v) W' → K (a.put o.dst v) W') → if Region.wanted o (yielded ops a.tmps) = true then Oper.wp P o a W K Q else K (a.put o.dst undef) W)
  (hend : ∀ d f W, S d f W → (∀ i, i < ops.size → d i = true) → (∀ p ∈ L, ∀ t, p.1 = some t → ∃ v, f t = some v ∧ ∀ u, p.2 = some u → v = u) → Q .normal (putsD A (L.filterMap (fun (p : Option Nat × Option Value) => p.1.map (fun t => (t, p.2.getD ((f t).getD undef)))))) W) :
  (Code.region id ops true).wp P Q A w := by
 have hn := of_decide_eq_true hnb
 have hlen : L.length = ops.size := by
  have := congrArg List.length hL
  simpa using this
 have hdst : dstsD ops = L.filterMap (·.1) := by
  unfold dstsD
  have e1 : ops.toList.filterMap (·.dst) = (ops.toList.map (·.dst)).filterMap _root_.id := by rw [List.filterMap_map]; rfl
  have e2 : L.filterMap (·.1) = (L.map (·.1)).filterMap _root_.id := by rw [List.filterMap_map]; rfl
  rw [e1, e2, hL]
 have hdp : ∀ (j : Nat) (p : Option Nat × Option Value), L[j]? = some p → ∃ o, ops[j]? = some o ∧ o.dst = p.1 := by
  intro j p hp
  have hjl : j < ops.size := by rw [← hlen]; exact (List.getElem?_eq_some_iff.1 hp).1
  refine ⟨ops[j], Array.getElem?_eq_getElem hjl, ?_⟩
  have h1 := congrArg (fun l => l[j]?) hL
  simp only [List.getElem?_map] at h1
  rw [hp, show ops.toList[j]? = some ops[j] by rw [Array.getElem?_toList]; exact Array.getElem?_eq_getElem hjl] at h1
  simpa using h1.symm
 have hkn : ∀ (j : Nat) (p : Option Nat × Option Value), L[j]? = some p → knW L j = p.2 := fun j p hp => by unfold knW; rw [hp]; rfl
 refine region_detW0 hm L fuel S hd (by rw [hdst]; exact hn) (by rw [hdst]; exact hlt) h0 ?_ ?_
 ·intro i o ho a d f W hS hdi hdn hnd hz hdep hout hold K hK
  refine hstep i o ho a d f W hS hdi hdn hnd ?_ (fun t ht => hout t (by rw [hdst]; intro hm; rw [List.contains_iff_mem.2 hm] at ht; cases ht)) ?_ K hK
  ·intro e he hb p hp t ht
   obtain ⟨o', ho', hdt⟩ := hdp e.on p hp
   obtain ⟨v, h1, h2, h3⟩ := hdep e he hb _ ho' t (hdt.trans ht)
   rw [hkn e.on p hp] at h3
   exact ⟨v, h1, h2, h3⟩
  ·intro j hj p hp t ht
   obtain ⟨o', ho', hdt⟩ := hdp j p hp
   exact hold j o' hj ho' t (hdt.trans ht)
 ·intro d f W hS hall hout hval
  have hp : ∀ p ∈ L, ∀ t, p.1 = some t → ∃ v, f t = some v ∧ ∀ u, p.2 = some u → v = u := by
   intro p hp t ht
   obtain ⟨j, hj, rfl⟩ := List.mem_iff_getElem.1 hp
   obtain ⟨o', ho', hdt⟩ := hdp j _ (List.getElem?_eq_getElem hj)
   obtain ⟨v, h1, h2⟩ := hval j o' t ho' (hdt.trans ht)
   rw [hkn j _ (List.getElem?_eq_getElem hj)] at h2
   exact ⟨v, h1, h2⟩
  have hM : (L.filterMap (fun (p : Option Nat × Option Value) => p.1.map (fun t => (t, p.2.getD ((f t).getD undef))))).map (·.1) = L.filterMap (·.1) := by
   rw [List.map_filterMap]
   congr 1
   funext p
   cases p.1 <;> rfl
  have hf : f = (L.filterMap (fun (p : Option Nat × Option Value) => p.1.map (fun t => (t, p.2.getD ((f t).getD undef))))).foldl updD (fun _ => none) := by
   funext t
   by_cases ht : t ∈ L.filterMap (·.1)
   ·have ht2 := ht
    rw [← hM] at ht2
    obtain ⟨i, hi, he⟩ := List.mem_iff_getElem.1 ht2
    have hi2 : i < (L.filterMap (fun (p : Option Nat × Option Value) => p.1.map (fun t => (t, p.2.getD ((f t).getD undef))))).length := by simpa using hi
    have h1 := updD_in (L.filterMap (fun (p : Option Nat × Option Value) => p.1.map (fun t => (t, p.2.getD ((f t).getD undef))))) (fun _ => none) i hi2 (by rw [hM]; exact hn)
    have hm2 := List.getElem_mem hi2
    have he2 : (L.filterMap (fun (p : Option Nat × Option Value) => p.1.map (fun t => (t, p.2.getD ((f t).getD undef)))))[i].1 = t := by simpa using he
    rw [he2] at h1
    rw [h1]
    obtain ⟨p, hpL, hpe⟩ := List.mem_filterMap.1 hm2
    cases hp1 : p.1 with
    | none => rw [hp1] at hpe; cases hpe
    | some t' =>
     rw [hp1] at hpe
     simp only [Option.map_some, Option.some.injEq] at hpe
     have ett : t' = t := by rw [← he2, ← hpe]
     subst ett
     obtain ⟨v, hv, hu⟩ := hp p hpL t' hp1
     rw [← hpe, hv]
     cases hx : p.2 with
     | none => rfl
     | some u => rw [hu u hx]; rfl
   ·rw [hout t (by rw [hdst]; exact ht), updD_out _ _ t (by rw [hM]; exact ht)]
  have := hend d f W hS hall hp
  have e : (L.filterMap (fun (p : Option Nat × Option Value) => p.1.map (fun t => (t, p.2.getD ((f t).getD undef))))).foldl (fun a p => a.put (some p.1) p.2) (frD A (fun _ => none)) = frD A f := by rw [putsD_fr, ← hf]
  rw [fr_noneD] at e
  unfold putsD at this
  rw [e] at this
  exact this
end
end
section
open Go.RowKit Go.Shelf
theorem pix_bd {N : Nat} {s t : Int} (hN : N ≤ 64) (h0 : 0 ≤ s) (h1 : s < N) (h2 : 0 ≤ t) (h3 : t < N) : 0 ≤ s * N ∧ s * N ≤ 4096 ∧ s * N + t ≤ 8192 := by
 have h := Int.mul_le_mul (show s ≤ 64 by omega) (show (N : Int) ≤ 64 by omega) (by omega) (by omega)
 have h' : 0 ≤ s * N := Int.mul_nonneg h0 (by omega)
 omega
set_option maxRecDepth 100000 in
theorem mmIndex_any (G : Gr) (p : Option Addr) (c : Nat) (vb : Value) (N : Nat) (hN : G.n = N) (hN64 : N ≤ 64) (s t : Int) (h0 : 0 ≤ s) (h1 : s < N) (h2 : 0 ≤ t) (h3 : t < N) (w : World) :
  Calls Tryz.prog 141 #[(.agg #[.int .i64 G.q, .int .i64 G.n, .slice p G.es.length c, vb]), .int .i64 s, .int .i64 t] w fun e w' => e = .returned (.int .i64 ((pix N s t : Nat) : Int)) ∧ w' = w.alloc (.cells #[.int .i64 G.q, .int .i64 G.n, .slice p G.es.length c, vb] 92) := by
 have hb := pix_bd hN64 h0 h1 h2 h3
 obtain ⟨w0, hw0⟩ : ∃ w0, w0 = w.alloc (.cells #[.int .i64 G.q, .int .i64 G.n, .slice p G.es.length c, vb] 92) := ⟨_, rfl⟩
 have b0 : VRow w0 w.heap.size 92 [.int .i64 G.q, .int .i64 G.n, .slice p G.es.length c, vb] := by subst hw0; exact VRow.new w _ _
 have f1 := b0.at 1 rfl
 rw [hN] at f1
 have HW := hidI hw0
 have q0 : IntKind.i64.wrap (s * (N : Int)) = s * (N : Int) := IntWalk.i64_in _ (by omega)
 have q1 : IntKind.i64.wrap (s * (N : Int) + t) = s * (N : Int) + t := IntWalk.i64_in _ (by omega)
 have HX := hidI (pix_at (N := N) h0 h2)
 clear hN b0
 go_enter Tryz.func141, Tryz.ntmps141
 go_upto_region 1 with fail
 rw [← hw0]
 clear hw0
 go_wp2
 go_ret
 exact ⟨ret_int HX.out.symm, HW.out⟩
def SlB (n : Nat) (w : World) (p : Option Addr) (F : List Bool) : Prop := F = [] ∨ ∃ b off, p = some ⟨b, off, none⟩ ∧ b < n ∧ b < w.heap.size ∧ ∀ i (h : i < F.length), w.cell? ⟨b, off + i, none⟩ = some (.bool F[i])
theorem SlB.kept {n : Nat} {w w' : World} {p : Option Addr} {F : List Bool} (h : SlB n w p F) (hk : ∀ i, i < n → w'.heap[i]? = w.heap[i]?) : SlB n w' p F := by
 rcases h with h | ⟨b, off, h1, h2, h3, h4⟩
 ·exact .inl h
 ·have e := hk b h2
  have hlt : b < w'.heap.size := by
   rcases Nat.lt_or_ge b w'.heap.size with h' | h'
   ·exact h'
   ·rw [Array.getElem?_eq_none h', Array.getElem?_eq_getElem h3] at e; cases e
  exact .inr ⟨b, off, h1, h2, hlt, fun i hi => (World.cell?_of_block (w := w) (a := ⟨b, off + i, none⟩) e).trans (h4 i hi)⟩
theorem SlB.below {n : Nat} {w w' : World} {p : Option Addr} {F : List Bool} (h : SlB n w p F) (hB : RowKit.Below w.heap.size w w') : SlB n w' p F := by
 rcases h with h | ⟨b, off, h1, h2, h3, h4⟩
 ·exact .inl h
 ·exact .inr ⟨b, off, h1, h2, Nat.lt_of_lt_of_le h3 hB.size, fun i hi => (hB.cell (p := ⟨b, off + i, none⟩) h3).trans (h4 i hi)⟩
theorem SlB.mono {n m : Nat} {w : World} {p : Option Addr} {F : List Bool} (h : SlB n w p F) (hm : n ≤ m) : SlB m w p F :=
 h.imp id (fun ⟨b, off, h1, h2, h3, h4⟩ => ⟨b, off, h1, by omega, h3, h4⟩)
theorem SlB.get {n : Nat} {w : World} {p : Option Addr} {F : List Bool} (h : SlB n w p F) {j : Nat} (hj : j < F.length) : ∃ b off, p = some ⟨b, off, none⟩ ∧ b < w.heap.size ∧ w.cell? ⟨b, off + j, none⟩ = some (.bool (lkB F j)) := by
 rcases h with h | ⟨b, off, h1, h2, h3, h4⟩
 ·subst h; simp at hj
 ·exact ⟨b, off, h1, h3, by rw [lkB_get hj]; exact h4 j hj⟩
set_option maxRecDepth 100000 in
set_option maxHeartbeats 1000000 in
theorem mmHas_any (G : Gr) (p : Option Addr) (c : Nat) (n : Nat) (pb : Option Addr) (M cb : Nat) (F : List Bool) (N : Nat) (hN : G.n = N) (hN64 : N ≤ 64) (hM : M = N * N) (hF : F.length = M) (s t : Int) (h0 : 0 ≤ s) (h1 : s < N) (h2 : 0 ≤ t) (h3 : t < N) (w : World) (hs : SlB n w pb F) :
  Calls Tryz.prog 94 #[(.agg #[.int .i64 G.q, .int .i64 G.n, .slice p G.es.length c, .slice pb M cb]), .int .i64 s, .int .i64 t] w fun e w' => e = .returned (.bool (lkB F (pix N s t))) ∧ RowKit.Below w.heap.size w w' := by
 obtain ⟨w0, hw0⟩ : ∃ w0, w0 = w.alloc (.cells #[.int .i64 G.q, .int .i64 G.n, .slice p G.es.length c, .slice pb M cb] 92) := ⟨_, rfl⟩
 have b0 : VRow w0 w.heap.size 92 [.int .i64 G.q, .int .i64 G.n, .slice p G.es.length c, .slice pb M cb] := by subst hw0; exact VRow.new w _ _
 have hB0 : RowKit.Below w.heap.size w w0 := by subst hw0; exact (RowKit.Below.refl _ _).alloc (Nat.le_refl _) _
 have hjM : pix N s t < M := by rw [hM]; exact pix_lt h0 h1 h2 h3
 obtain ⟨b, off, rfl, hbl, hcl⟩ := (hs.below hB0).get (j := pix N s t) (by omega)
 have HIX := hidI (fun W => mmIndex_any G p c (.slice (some ⟨b, off, none⟩) M cb) N hN hN64 s t h0 h1 h2 h3 W)
 have f0 := b0.at 0 rfl; have f1 := b0.at 1 rfl; have f2 := b0.at 2 rfl; have f3 := b0.at 3 rfl
 have hzl := b0.lt
 generalize lkB F (pix N s t) = v at *
 generalize pix N s t = j at *
 have hjI : (j : Int) < (M : Int) := by omega
 clear hs hF hN hM h0 h1 h2 h3 hN64 b0
 go_enter Tryz.func94, Tryz.ntmps94
 go_upto_region 1 with fail
 rw [← hw0]
 clear hw0
 refine region_detL (by kernel_rfl) [(7, .pointer (some ⟨w.heap.size, 3, none⟩)), (8, .slice (some ⟨b, off, none⟩) M cb), (9, (.agg #[.int .i64 G.q, .int .i64 G.n, .slice p G.es.length c, .slice (some ⟨b, off, none⟩) M cb])), (10, .int .i64 s), (11, .int .i64 t), (12, .int .i64 (j : Int)), (13, .pointer (some ⟨b, off + j, none⟩)), (14, .bool v), (6, .bool v)]
  (fun W => RowKit.Below w0.heap.size w0 W) (by kernel_rfl) (by kernel_rfl) (by kernel_rfl) (by kernel_rfl) (below_dN (RowKit.Below.refl _ _) 1) ?_ ?_
 ·intro i o ho a W hS hdep hout K hK
  have hc0 := (hS.cell hzl).trans f0
  have hc1 := (hS.cell (p := ⟨w.heap.size, 1, none⟩) hzl).trans f1
  have hc2 := (hS.cell (p := ⟨w.heap.size, 2, none⟩) hzl).trans f2
  have hc3 := (hS.cell (p := ⟨w.heap.size, 3, none⟩) hzl).trans f3
  have hc4 := (hS.cell (p := ⟨b, off + j, none⟩) hbl).trans hcl
  have hil : i < 9 := (Array.getElem?_eq_some_iff.1 ho).1
  have hcases : i = 0 ∨ i = 1 ∨ i = 2 ∨ i = 3 ∨ i = 4 ∨ i = 5 ∨ i = 6 ∨ i = 7 ∨ i = 8 := by omega
  clear hil
  have v0 := hout 3 (by kernel_rfl)
  have v1 := hout 1 (by kernel_rfl)
  have v2 := hout 2 (by kernel_rfl)
  simp at v0 v1 v2
  clear hout f0 f1 f2 f3 hcl
  rcases hcases with rfl | rfl | rfl | rfl | rfl | rfl | rfl | rfl | rfl
  all_goals (simp only [List.getElem?_toArray, List.getElem?_cons_succ, List.getElem?_cons_zero, Option.some.injEq] at ho; subst ho; simp [Region.binds] at hdep; (try go_split_ands))
  ·go_simp; exact hK _ hS
  ·go_simp; exact hK _ hS
  ·go_simp; exact hK _ hS
  ·go_simp; exact hK _ hS
  ·go_simp; exact hK _ hS
  ·go_simp
   refine (HIX.out W).mono ?_
   rintro e w' ⟨rfl, rfl⟩
   exact hK _ (hS.alloc hS.size _)
  ·go_simp; exact hK _ hS
  ·go_simp; exact hK _ hS
  ·go_simp; exact hK _ hS
 ·intro W hS
  have hBr := hB0.trans (hS.mono hB0.size)
  simp only [putsD, List.foldl_cons, List.foldl_nil, Act.put, List.setIfInBounds_toArray, List.set_cons_zero, List.set_cons_succ]
  go_wp2
  go_ret
  exact ⟨rfl, hBr⟩
end
section
open Go
section
variable {P : Program} {ops : Array Oper} {Q : Exit → Act → World → Prop}
theorem uponIn_of {l n : Nat} {o : Oper} {a : Act} {next : Act → World → Prop} {r : Result Next} (h : o.upon P a next Q r) : o.uponIn (Fence.wide.inRound l) n P a next Q r := by
 cases r with
 | ok x w =>
  cases x
  case value v => exact h
  case skip => exact h
  case defer d => exact h
  case enter f args => exact ⟨(fun h => by cases h), (callsIn_wide.2 h).inRound l⟩
  case row row args =>
   refine ⟨(fun h => by cases h), fun c cs _ => ?_⟩
   obtain ⟨v, w', hr, hs⟩ := h c cs
   exact ⟨v, w', hr, stepsIn_wide.2 hs⟩
  all_goals exact h.elim
 | halt x w => cases x <;> exact h
def noDefers (ops : Array Oper) : Bool := ops.all fun o => match o.op with | .defer _ => false | _ => true
theorem opIn_of {l n : Nat} {o : Oper} {a : Act} {w : World} {K : Act → World → Prop} (hd : ∀ c, o.op ≠ .defer c) (h : o.wp P a w K Q) : o.wpIn (Fence.wide.inRound l) n P a w K Q :=
 ⟨fun _ _ => trivial, by
  show o.uponIn _ _ _ _ _ _ ((o.semAt (some l) a.eval).run P w)
  rw [Oper.semAt_some l _ _ hd]
  exact uponIn_of h⟩
theorem wpOpIn_step {l n i : Nat} {o : Oper} {K : Act → World → Prop} {a : Act} {w : World} (hnd : noDefers ops = true) (ho : ops[i]? = some o)
  (h : ∀ K' : Act → World → Prop, (∀ a w, K a w → K' a w) → if Region.wanted o (yielded ops a.tmps) = true then Oper.wp P o a w K' Q else K' (a.put o.dst undef) w) : wpOpIn (Fence.wide.inRound l) n P ops Q i K a w := by
 unfold wpOpIn
 rw [ho]
 simp only
 have hd : ∀ c, o.op ≠ .defer c := fun c e => by
  have := Array.all_eq_true'.1 hnd o (Array.mem_of_getElem? ho)
  rw [e] at this; cases this
 have h := h K (fun _ _ h => h)
 by_cases hw : Region.wanted o (yielded ops a.tmps) = true
 ·rw [if_pos hw] at h ⊢
  exact opIn_of hd h
 ·rw [if_neg hw] at h ⊢
  exact ⟨fun _ _ => trivial, h⟩
theorem wpAnyIn_invD {F : Fence} {n : Nat} {md : Region.Mode} (Inv : Array Bool → Act → World → Prop)
  (hstep : ∀ listed a w i, Inv listed a w → i ∈ Region.ready md ops listed → wpOpIn F n P ops Q i (Inv (listed.setIfInBounds i true)) a w)
  (hend : ∀ listed a w, Inv listed a w → Region.ready md ops listed = [] → Q .normal a w) :
  ∀ (fuel : Nat) (listed : Array Bool) (a : Act) (w : World), listed.toList.count false ≤ fuel → Inv listed a w → wpAnyIn F n P md ops Q fuel listed a w
 | 0, listed, a, w, hc, hI => by
  have hr : Region.ready md ops listed = [] := by
   rw [List.eq_nil_iff_forall_not_mem]
   intro i hi
   obtain ⟨hl, he⟩ := getD_falseD (mem_readyD.1 hi).2.1
   have hm : false ∈ listed.toList := by rw [← he]; exact Array.getElem_mem_toList hl
   have := List.count_pos_iff.2 hm
   omega
  exact ⟨hr, hend _ _ _ hI hr⟩
 | fuel + 1, listed, a, w, hc, hI => ⟨hend _ _ _ hI, fun i hi => wpOpIn_mono (fun a' w' h => wpAnyIn_invD Inv hstep hend fuel _ a' w' (by
   obtain ⟨hl, he⟩ := getD_falseD (mem_readyD.1 hi).2.1
   rw [Array.toList_setIfInBounds, List.count_set (by simpa using hl)]
   have hm : false ∈ listed.toList := by rw [← he]; exact Array.getElem_mem_toList hl
   have := List.count_pos_iff.2 hm
   have e2 : (listed.toList[i]'(by simpa using hl)) = false := by simpa using he
   rw [e2]
   rw [if_pos (by rfl), if_neg (by decide)]
   omega) h) (hstep _ _ _ i hI hi)⟩
theorem any_detW0 {l n : Nat} (hnd : noDefers ops = true) {A : Act} {w : World} (L : List (Option Nat × Option Value)) (fuel : Nat) (S : (Nat → Bool) → (Nat → Option Value) → World → Prop)
  (hd : ((List.range ops.size).all fun i => ((ops[i]?).map (·.after.all fun e => !Region.binds .any e || decide (e.on < i))).getD true) = true)
  (hn : (dstsD ops).Nodup) (hlt : (dstsD ops).all (fun t => decide (t < A.tmps.size)) = true)
  (h0 : S (fun _ => false) (fun _ => none) { w with drawn := w.drawn + 1 })
  (hstep : ∀ (i : Nat) (o : Oper), ops[i]? = some o → ∀ (a : Act) (d : Nat → Bool) (f : Nat → Option Value) (W : World), S d f W → d i = false → (∀ e ∈ o.after, Region.binds .any e = true → d e.on = true) → (∀ j, depB ops fuel i j = true → d j = false) → a.tmps.size = A.tmps.size →
   (∀ e ∈ o.after, Region.binds .any e = true → ∀ o', ops[e.on]? = some o' → ∀ t, o'.dst = some t → ∃ v, f t = some v ∧ a.tmps[t]? = some v ∧ ∀ u, knW L e.on = some u → v = u) →
   (∀ t, t ∉ dstsD ops → a.tmps[t]? = A.tmps[t]?) →
   (∀ j o', depB ops fuel i j = true → ops[j]? = some o' → ∀ t, o'.dst = some t → f t = none ∧ a.tmps[t]? = A.tmps[t]?) →
   ∀ K : Act → World → Prop, (∀ v W', (∀ u, knW L i = some u → v = u) → S (updB d i) (updZ f o.dst v) W' → K (a.put o.dst v) W') → if Region.wanted o (yielded ops a.tmps) = true then Oper.wp P o a W K Q else K (a.put o.dst undef) W)
  (hend : ∀ d f W, S d f W → (∀ i, i < ops.size → d i = true) → (∀ t, t ∉ dstsD ops → f t = none) → (∀ i o t, ops[i]? = some o → o.dst = some t → ∃ v, f t = some v ∧ ∀ u, knW L i = some u → v = u) → Q .normal (frD A f) W) :
  wpAnyIn (Fence.wide.inRound l) n P .any ops Q ops.size (Array.replicate ops.size false) A { w with drawn := w.drawn + 1 } := by
 refine wpAnyIn_invD (fun l a W => ∃ f, a = frD A f ∧ InvW ops L S l f W) ?_ ?_ _ _ _ _ ?_ ?_
 ·rintro l a W i ⟨f, rfl, hI⟩ hi
  obtain ⟨h1, h2, h3⟩ := mem_readyD.1 hi
  obtain ⟨hl, he⟩ := getD_falseD h2
  have hff := getD_ff h2
  have ho : ops[i]? = some ops[i] := Array.getElem?_eq_getElem h1
  have hrdy : ∀ e ∈ ops[i].after, Region.binds .any e = true → l.getD e.on false = true := by
   intro e he' hb
   unfold rdyAtD at h3
   rw [ho] at h3
   simp only [Option.map_some, Option.getD_some, Array.all_eq_true] at h3
   obtain ⟨k, hk, rfl⟩ := Array.mem_iff_getElem.1 he'
   have := h3 k hk
   rw [Bool.or_eq_true] at this
   rcases this with h5 | h5
   ·rw [hb] at h5; cases h5
   ·exact h5
  refine wpOpIn_step hnd ho (fun K hK => ?_)
  refine hstep i ops[i] ho (frD A f) (fun k => l.getD k false) f W hI.st hff hrdy ?_ (by simp [frD]) ?_ ?_ ?_ K ?_
  ·intro j hj
   show l.getD j false = false
   cases hx : l.getD j false with
   | false => rfl
   | true =>
    have := dep_done hI.cl fuel i j hj hx
    rw [hff] at this; cases this
  ·intro e he' hb o' hoe t hdt
   obtain ⟨v, hv, hu⟩ := hI.val e.on o' t hoe hdt (hrdy e he' hb)
   have ht : t < A.tmps.size := by
    have := List.all_eq_true.1 hlt t (by unfold dstsD; exact List.mem_filterMap.2 ⟨o', by have := Array.mem_of_getElem? hoe; simpa using this, hdt⟩)
    exact of_decide_eq_true this
   refine ⟨v, hv, ?_, hu⟩
   simp only [frD, Array.getElem?_mapIdx, hv, Option.getD_some]
   rw [Array.getElem?_eq_getElem ht]; rfl
  ·intro t ht
   simp only [frD, Array.getElem?_mapIdx, hI.dom t ht, Option.getD_none]
   cases A.tmps[t]? <;> rfl
  ·intro j o' hdep hj t hdt
   have hnj : l.getD j false = false := by
    cases hx : l.getD j false with
    | false => rfl
    | true =>
     have := dep_done hI.cl fuel i j hdep hx
     rw [hff] at this; cases this
   have hN := hI.old j o' t hj hdt hnj
   refine ⟨hN, ?_⟩
   simp only [frD, Array.getElem?_mapIdx, hN, Option.getD_none]
   cases A.tmps[t]? <;> rfl
  ·intro v W' hu hS
   refine hK _ _ ⟨updZ f ops[i].dst v, ?_, ?_⟩
   ·cases hx : ops[i].dst with
    | none => exact fr_put0D _
    | some t => exact fr_putD t _
   ·have hfun : updB (fun k => l.getD k false) i = fun k => (l.setIfInBounds i true).getD k false := by
     funext k
     unfold updB
     by_cases hk : k = i
     ·rw [if_pos hk, hk, getD_setI hl]
     ·rw [if_neg hk, getD_setN hk]
    refine ⟨by simpa using hI.sz, by rw [← hfun]; exact hS, ?_, ?_, ?_, ?_⟩
    ·intro t ht
     cases hx : ops[i].dst with
     | none => exact hI.dom t ht
     | some t' =>
      have : t ≠ t' := by
       rintro rfl
       exact ht (by unfold dstsD; exact List.mem_filterMap.2 ⟨ops[i], by simp, hx⟩)
      show (if t = t' then _ else f t) = none
      rw [if_neg this]; exact hI.dom t ht
    ·intro j o t hoj hdt hdone
     by_cases hij : j = i
     ·subst hij
      rw [ho] at hoj
      cases hoj
      rw [hdt]
      exact ⟨v, by show (if t = t then some v else f t) = _; rw [if_pos rfl], hu⟩
     ·rw [getD_setN hij] at hdone
      have hv := hI.val j o t hoj hdt hdone
      cases hx : ops[i].dst with
      | none => exact hv
      | some t' =>
       have : t ≠ t' := by
        rintro rfl
        exact hij (dst_uniqD hn hoj ho hdt hx)
       show ∃ v', (if t = t' then some v else f t) = some v' ∧ _
       rw [if_neg this]; exact hv
    ·intro j o t hoj hdt hnd
     by_cases hij : j = i
     ·subst hij
      rw [getD_setI hl] at hnd; cases hnd
     ·rw [getD_setN hij] at hnd
      have hv := hI.old j o t hoj hdt hnd
      cases hx : ops[i].dst with
      | none => exact hv
      | some t' =>
       show (if t = t' then some v else f t) = _
       have : t ≠ t' := by
        rintro rfl
        exact hij (dst_uniqD hn hoj ho hdt hx)
       rw [if_neg this]; exact hv
    ·intro j o hoj hdone e he' hb
     by_cases hij : j = i
     ·subst hij
      rw [ho] at hoj
      cases hoj
      exact getD_setD (hrdy e he' hb)
     ·rw [getD_setN hij] at hdone
      exact getD_setD (hI.cl j o hoj hdone e he' hb)
 ·rintro l a W ⟨f, rfl, hI⟩ hr
  have hall := ready_nilD hI.sz hd hr
  refine hend _ f W hI.st hall hI.dom (fun i o t ho ht => hI.val i o t ho ht (hall i ?_))
  exact (Array.getElem?_eq_some_iff.1 ho).1
 ·rw [Array.toList_replicate]
  exact Nat.le_trans List.count_le_length (by simp)
 ·have hff : ∀ i, (Array.replicate ops.size false).getD i false = false := fun i => by
   by_cases hjl : i < ops.size <;> simp [Array.getD, hjl]
  exact ⟨_, (fr_noneD A).symm, by simp, (by rw [show (fun k => (Array.replicate ops.size false).getD k false) = fun _ => false from funext hff]; exact h0), fun _ _ => rfl, (fun i o t ho ht hx => by rw [hff] at hx; cases hx), fun _ _ _ _ _ _ => rfl, (fun i o ho hx => by rw [hff] at hx; cases hx)⟩
theorem any_detW {l n : Nat} (hnd : noDefers ops = true) {A : Act} {w : World} (fuel : Nat) (L : List (Option Nat × Option Value)) (S : (Nat → Bool) → (Nat → Option Value) → World → Prop)
  (hL : L.map (·.1) = ops.toList.map (·.dst))
  (hd : ((List.range ops.size).all fun i => ((ops[i]?).map (·.after.all fun e => !Region.binds .any e || decide (e.on < i))).getD true) = true)
  (hnb : decide (L.filterMap (·.1)).Nodup = true) (hlt : (L.filterMap (·.1)).all (fun t => decide (t < A.tmps.size)) = true)
  (h0 : S (fun _ => false) (fun _ => none) { w with drawn := w.drawn + 1 })
  (hstep : ∀ (i : Nat) (o : Oper), ops[i]? = some o → ∀ (a : Act) (d : Nat → Bool) (f : Nat → Option Value) (W : World), S d f W → d i = false → (∀ e ∈ o.after, Region.binds .any e = true → d e.on = true) → (∀ j, depB ops fuel i j = true → d j = false) →
   (∀ e ∈ o.after, Region.binds .any e = true → ∀ p, L[e.on]? = some p → ∀ t, p.1 = some t → ∃ v, f t = some v ∧ a.tmps[t]? = some v ∧ ∀ u, p.2 = some u → v = u) →
   (∀ t, (L.filterMap (·.1)).contains t = false → a.tmps[t]? = A.tmps[t]?) →
   (∀ j, depB ops fuel i j = true → ∀ p, L[j]? = some p → ∀ t, p.1 = some t → f t = none ∧ a.tmps[t]? = A.tmps[t]?) →
   ∀ K : Act → World → Prop, (∀ v W', (∀ u, knW L i = some u → v = u) → S (updB d i) (updZ f o.dst v) W' → K (a.put o.dst v) W') → if Region.wanted o (yielded ops a.tmps) = true then Oper.wp P o a W K Q else K (a.put o.dst undef) W)
  (hend : ∀ d f W, S d f W → (∀ i, i < ops.size → d i = true) → (∀ p ∈ L, ∀ t, p.1 = some t → ∃ v, f t = some v ∧ ∀ u, p.2 = some u → v = u) → Q .normal (putsD A (L.filterMap (fun (p : Option Nat × Option Value) => p.1.map (fun t => (t, p.2.getD ((f t).getD undef)))))) W) :
  wpAnyIn (Fence.wide.inRound l) n P .any ops Q ops.size (Array.replicate ops.size false) A { w with drawn := w.drawn + 1 } := by
 have hn := of_decide_eq_true hnb
 have hlen : L.length = ops.size := by
  have := congrArg List.length hL
  simpa using this
 have hdst : dstsD ops = L.filterMap (·.1) := by
  unfold dstsD
  have e1 : ops.toList.filterMap (·.dst) = (ops.toList.map (·.dst)).filterMap _root_.id := by rw [List.filterMap_map]; rfl
  have e2 : L.filterMap (·.1) = (L.map (·.1)).filterMap _root_.id := by rw [List.filterMap_map]; rfl
  rw [e1, e2, hL]
 have hdp : ∀ (j : Nat) (p : Option Nat × Option Value), L[j]? = some p → ∃ o, ops[j]? = some o ∧ o.dst = p.1 := by
  intro j p hp
  have hjl : j < ops.size := by rw [← hlen]; exact (List.getElem?_eq_some_iff.1 hp).1
  refine ⟨ops[j], Array.getElem?_eq_getElem hjl, ?_⟩
  have h1 := congrArg (fun l => l[j]?) hL
  simp only [List.getElem?_map] at h1
  rw [hp, show ops.toList[j]? = some ops[j] by rw [Array.getElem?_toList]; exact Array.getElem?_eq_getElem hjl] at h1
  simpa using h1.symm
 have hkn : ∀ (j : Nat) (p : Option Nat × Option Value), L[j]? = some p → knW L j = p.2 := fun j p hp => by unfold knW; rw [hp]; rfl
 refine any_detW0 hnd L fuel S hd (by rw [hdst]; exact hn) (by rw [hdst]; exact hlt) h0 ?_ ?_
 ·intro i o ho a d f W hS hdi hdn hnd hz hdep hout hold K hK
  refine hstep i o ho a d f W hS hdi hdn hnd ?_ (fun t ht => hout t (by rw [hdst]; intro hm; rw [List.contains_iff_mem.2 hm] at ht; cases ht)) ?_ K hK
  ·intro e he hb p hp t ht
   obtain ⟨o', ho', hdt⟩ := hdp e.on p hp
   obtain ⟨v, h1, h2, h3⟩ := hdep e he hb _ ho' t (hdt.trans ht)
   rw [hkn e.on p hp] at h3
   exact ⟨v, h1, h2, h3⟩
  ·intro j hj p hp t ht
   obtain ⟨o', ho', hdt⟩ := hdp j p hp
   exact hold j o' hj ho' t (hdt.trans ht)
 ·intro d f W hS hall hout hval
  have hp : ∀ p ∈ L, ∀ t, p.1 = some t → ∃ v, f t = some v ∧ ∀ u, p.2 = some u → v = u := by
   intro p hp t ht
   obtain ⟨j, hj, rfl⟩ := List.mem_iff_getElem.1 hp
   obtain ⟨o', ho', hdt⟩ := hdp j _ (List.getElem?_eq_getElem hj)
   obtain ⟨v, h1, h2⟩ := hval j o' t ho' (hdt.trans ht)
   rw [hkn j _ (List.getElem?_eq_getElem hj)] at h2
   exact ⟨v, h1, h2⟩
  have hM : (L.filterMap (fun (p : Option Nat × Option Value) => p.1.map (fun t => (t, p.2.getD ((f t).getD undef))))).map (·.1) = L.filterMap (·.1) := by
   rw [List.map_filterMap]
   congr 1
   funext p
   cases p.1 <;> rfl
  have hf : f = (L.filterMap (fun (p : Option Nat × Option Value) => p.1.map (fun t => (t, p.2.getD ((f t).getD undef))))).foldl updD (fun _ => none) := by
   funext t
   by_cases ht : t ∈ L.filterMap (·.1)
   ·have ht2 := ht
    rw [← hM] at ht2
    obtain ⟨i, hi, he⟩ := List.mem_iff_getElem.1 ht2
    have hi2 : i < (L.filterMap (fun (p : Option Nat × Option Value) => p.1.map (fun t => (t, p.2.getD ((f t).getD undef))))).length := by simpa using hi
    have h1 := updD_in (L.filterMap (fun (p : Option Nat × Option Value) => p.1.map (fun t => (t, p.2.getD ((f t).getD undef))))) (fun _ => none) i hi2 (by rw [hM]; exact hn)
    have hm2 := List.getElem_mem hi2
    have he2 : (L.filterMap (fun (p : Option Nat × Option Value) => p.1.map (fun t => (t, p.2.getD ((f t).getD undef)))))[i].1 = t := by simpa using he
    rw [he2] at h1
    rw [h1]
    obtain ⟨p, hpL, hpe⟩ := List.mem_filterMap.1 hm2
    cases hp1 : p.1 with
    | none => rw [hp1] at hpe; cases hpe
    | some t' =>
     rw [hp1] at hpe
     simp only [Option.map_some, Option.some.injEq] at hpe
     have ett : t' = t := by rw [← he2, ← hpe]
     subst ett
     obtain ⟨v, hv, hu⟩ := hp p hpL t' hp1
     rw [← hpe, hv]
     cases hx : p.2 with
     | none => rfl
     | some u => rw [hu u hx]; rfl
   ·rw [hout t (by rw [hdst]; exact ht), updD_out _ _ t (by rw [hM]; exact ht)]
  have := hend d f W hS hall hp
  have e : (L.filterMap (fun (p : Option Nat × Option Value) => p.1.map (fun t => (t, p.2.getD ((f t).getD undef))))).foldl (fun a p => a.put (some p.1) p.2) (frD A (fun _ => none)) = frD A f := by rw [putsD_fr, ← hf]
  rw [fr_noneD] at e
  unfold putsD at this
  rw [e] at this
  exact this
theorem region_inW {l n id : Nat} (hm : P.follows .mixedOrders = true) (hnd : noDefers ops = true) {A : Act} {w : World} (fuel : Nat) (L : List (Option Nat × Option Value)) (S : (Nat → Bool) → (Nat → Option Value) → World → Prop)
  (hL : L.map (·.1) = ops.toList.map (·.dst))
  (hd : ((List.range ops.size).all fun i => ((ops[i]?).map (·.after.all fun e => !Region.binds .any e || decide (e.on < i))).getD true) = true)
  (hnb : decide (L.filterMap (·.1)).Nodup = true) (hlt : (L.filterMap (·.1)).all (fun t => decide (t < A.tmps.size)) = true)
  (h0 : S (fun _ => false) (fun _ => none) { w with drawn := w.drawn + 1 })
  (hstep : ∀ (i : Nat) (o : Oper), ops[i]? = some o → ∀ (a : Act) (d : Nat → Bool) (f : Nat → Option Value) (W : World), S d f W → d i = false → (∀ e ∈ o.after, Region.binds .any e = true → d e.on = true) → (∀ j, depB ops fuel i j = true → d j = false) →
   (∀ e ∈ o.after, Region.binds .any e = true → ∀ p, L[e.on]? = some p → ∀ t, p.1 = some t → ∃ v, f t = some v ∧ a.tmps[t]? = some v ∧ ∀ u, p.2 = some u → v = u) →
   (∀ t, (L.filterMap (·.1)).contains t = false → a.tmps[t]? = A.tmps[t]?) →
   (∀ j, depB ops fuel i j = true → ∀ p, L[j]? = some p → ∀ t, p.1 = some t → f t = none ∧ a.tmps[t]? = A.tmps[t]?) →
   ∀ K : Act → World → Prop, (∀ v W', (∀ u, knW L i = some u → v = u) → S (updB d i) (updZ f o.dst v) W' → K (a.put o.dst v) W') → if Region.wanted o (yielded ops a.tmps) = true then Oper.wp P o a W K Q else K (a.put o.dst undef) W)
  (hend : ∀ d f W, S d f W → (∀ i, i < ops.size → d i = true) → (∀ p ∈ L, ∀ t, p.1 = some t → ∃ v, f t = some v ∧ ∀ u, p.2 = some u → v = u) → Q .normal (putsD A (L.filterMap (fun (p : Option Nat × Option Value) => p.1.map (fun t => (t, p.2.getD ((f t).getD undef)))))) W) :
  (Code.region id ops true).wpIn (Fence.wide.inRound l) n P Q A w :=
 wpIn_region_any hm (any_detW hnd fuel L S hL hd hnb hlt h0 hstep hend)
end
end
end Go.Proofs.YtocbhlohcikapaaGreatDoor
