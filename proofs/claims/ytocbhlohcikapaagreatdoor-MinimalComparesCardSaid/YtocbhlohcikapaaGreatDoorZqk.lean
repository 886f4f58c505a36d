/-
  Words, plain lemmas and walks, merged: Dv, Ig, Ih, In, Ii.
-/
import Derived.Test.YtocbhlohcikapaaGreatDoorZqj
import Derived.Test.YtocbhlohcikapaaGreatDoorZqa
import Derived.Deep.AppendLies
import Derived.OneCell
import Derived.Lib.OwnKind
import Derived.Laws.EntriesVeiled
import Derived.RangeFuncNested
import Derived.RangeFuncBound
import Derived.RangeFuncCalls
import Derived.RangeFuncLeaves
import Derived.Test.YtocbhlohcikapaaGreatDoorProg
set_option linter.unusedVariables false
set_option linter.unusedSimpArgs false
namespace Go.Proofs.YtocbhlohcikapaaGreatDoor
open Go

section
variable {P : Program} {ops : Array Oper} {Q : Exit → Act → World → Prop}
/-- Operation j waits for operation i, or is it. -/
def depB (ops : Array Oper) : Nat → Nat → Nat → Bool
  | 0, i, j => decide (i = j)
  | fuel + 1, i, j => decide (i = j) || ((ops[j]?).map (fun o => o.after.any fun e => Region.binds .any e && depB ops fuel i e.on)).getD false
/-- What stands in a frame under way, with what is not done yet. -/
structure InvX (ops : Array Oper) (vals : Nat → Value) (c : Nat) (S : Bool → World → Prop) (l : Array Bool) (f : Nat → Option Value) (W : World) : Prop where
  sz : l.size = ops.size
  st : S (l.getD c false) W
  dom : ∀ t, t ∉ dstsD ops → f t = none
  val : ∀ i o t, ops[i]? = some o → o.dst = some t → l.getD i false = true → f t = some (vals i)
  old : ∀ i o t, ops[i]? = some o → o.dst = some t → l.getD i false = false → f t = none
  cl : ∀ i o, ops[i]? = some o → l.getD i false = true → ∀ e ∈ o.after, Region.binds .any e = true → l.getD e.on false = true
theorem dep_done {l : Array Bool} (cl : ∀ i o, ops[i]? = some o → l.getD i false = true → ∀ e ∈ o.after, Region.binds .any e = true → l.getD e.on false = true) : ∀ (fuel i j : Nat), depB ops fuel i j = true → l.getD j false = true → l.getD i false = true
  | 0, i, j, h, k => by
    obtain rfl := of_decide_eq_true h
    exact k
  | fuel + 1, i, j, h, k => by
    unfold depB at h
    rw [Bool.or_eq_true] at h
    rcases h with h | h
    · obtain rfl := of_decide_eq_true h
      exact k
    · cases ho : ops[j]? with
      | none => rw [ho] at h; cases h
      | some o =>
        rw [ho] at h
        simp only [Option.map_some, Option.getD_some, Array.any_eq_true] at h
        obtain ⟨m, hm, h1⟩ := h
        rw [Bool.and_eq_true] at h1
        exact dep_done cl fuel i _ h1.2 (cl j o ho k _ (Array.getElem_mem hm) h1.1)
theorem getD_setN {l : Array Bool} {i j : Nat} (hij : j ≠ i) : (l.setIfInBounds i true).getD j false = l.getD j false := by
  by_cases hj : j < l.size
  · simp [Array.getD, hj, Ne.symm hij]
  · simp [Array.getD, hj]
theorem getD_setI {l : Array Bool} {i : Nat} (hi : i < l.size) : (l.setIfInBounds i true).getD i false = true := by simp [Array.getD, hi]
theorem getD_ff {l : Array Bool} {i : Nat} (h : l.getD i true = false) : l.getD i false = false := by
  obtain ⟨hi, he⟩ := getD_falseD h
  simp [Array.getD, hi, he]
theorem region_detX {id : Nat} {A : Act} {w : World} (hm : P.follows .mixedOrders = true) (vals : Nat → Value) (c fuel : Nat) (S : Bool → World → Prop)
    (hd : ((List.range ops.size).all fun i => ((ops[i]?).map (·.after.all fun e => !Region.binds .any e || decide (e.on < i))).getD true) = true)
    (hn : (dstsD ops).Nodup) (hlt : (dstsD ops).all (fun t => decide (t < A.tmps.size)) = true)
    (h0 : S false { w with drawn := w.drawn + 1 })
    (hstep : ∀ (i : Nat) (o : Oper), ops[i]? = some o → ∀ (a : Act) (W : World) (b : Bool), S b W → (i = c → b = false) → a.tmps.size = A.tmps.size →
      (∀ e ∈ o.after, Region.binds .any e = true → ∀ o', ops[e.on]? = some o' → ∀ t, o'.dst = some t → a.tmps[t]? = some (vals e.on)) →
      (∀ t, t ∉ dstsD ops → a.tmps[t]? = A.tmps[t]?) →
      (∀ j o', depB ops fuel i j = true → ops[j]? = some o' → ∀ t, o'.dst = some t → a.tmps[t]? = A.tmps[t]?) →
      ∀ K : Act → World → Prop, (∀ W', S (if i = c then true else b) W' → K (a.put o.dst (vals i)) W') → if Region.wanted o (yielded ops a.tmps) = true then Oper.wp P o a W K Q else K (a.put o.dst undef) W)
    (hend : ∀ f W b, S b W → (c < ops.size → b = true) → (∀ t, t ∉ dstsD ops → f t = none) → (∀ i o t, ops[i]? = some o → o.dst = some t → f t = some (vals i)) → Q .normal (frD A f) W) :
    (Code.region id ops true).wp P Q A w := by
  refine wp_region_any hm (wpAny_invD (fun l a W => ∃ f, a = frD A f ∧ InvX ops vals c S l f W) ?_ ?_ _ _ _ _ ?_ ?_)
  · rintro l a W i ⟨f, rfl, hI⟩ hi
    obtain ⟨h1, h2, h3⟩ := mem_readyD.1 hi
    obtain ⟨hl, he⟩ := getD_falseD h2
    have hff := getD_ff h2
    have ho : ops[i]? = some ops[i] := Array.getElem?_eq_getElem h1
    have hrdy : ∀ e ∈ ops[i].after, Region.binds .any e = true → l.getD e.on false = true := by
      intro e he' hb
      unfold rdyAtD at h3
      rw [ho] at h3
      simp only [Option.map_some, Option.getD_some, Array.all_eq_true] at h3
      obtain ⟨k, hk, rfl⟩ := Array.mem_iff_getElem.1 he'
      have := h3 k hk
      rw [Bool.or_eq_true] at this
      rcases this with h5 | h5
      · rw [hb] at h5; cases h5
      · exact h5
    refine wpOp_step ho (fun K hK => ?_)
    refine hstep i ops[i] ho (frD A f) W (l.getD c false) hI.st (fun e => by subst e; exact hff) (by simp [frD]) ?_ ?_ ?_ K ?_
    · intro e he' hb o' hoe t hdt
      have hv := hI.val e.on o' t hoe hdt (hrdy e he' hb)
      have ht : t < A.tmps.size := by
        have := List.all_eq_true.1 hlt t (by unfold dstsD; exact List.mem_filterMap.2 ⟨o', by have := Array.mem_of_getElem? hoe; simpa using this, hdt⟩)
        exact of_decide_eq_true this
      simp only [frD, Array.getElem?_mapIdx, hv, Option.getD_some]
      rw [Array.getElem?_eq_getElem ht]; rfl
    · intro t ht
      simp only [frD, Array.getElem?_mapIdx, hI.dom t ht, Option.getD_none]
      cases A.tmps[t]? <;> rfl
    · intro j o' hdep hj t hdt
      have hnj : l.getD j false = false := by
        cases hx : l.getD j false with
        | false => rfl
        | true =>
          have := dep_done hI.cl fuel i j hdep hx
          rw [hff] at this; cases this
      simp only [frD, Array.getElem?_mapIdx, hI.old j o' t hj hdt hnj, Option.getD_none]
      cases A.tmps[t]? <;> rfl
    · intro W' hS
      refine hK _ _ ⟨(match ops[i].dst with | some t => fun k => if k = t then some (vals i) else f k | none => f), ?_, ?_⟩
      · cases hx : ops[i].dst with
        | none => exact fr_put0D _
        | some t => exact fr_putD t _
      · refine ⟨by simpa using hI.sz, ?_, ?_, ?_, ?_, ?_⟩
        · by_cases hic : i = c
          · subst hic
            rw [if_pos rfl] at hS
            rw [getD_setI hl]; exact hS
          · rw [if_neg hic] at hS
            rw [getD_setN (fun e => hic e.symm)]; exact hS
        · intro t ht
          cases hx : ops[i].dst with
          | none => exact hI.dom t ht
          | some t' =>
            have : t ≠ t' := by
              rintro rfl
              exact ht (by unfold dstsD; exact List.mem_filterMap.2 ⟨ops[i], by simp, hx⟩)
            show (if t = t' then _ else f t) = none
            rw [if_neg this]; exact hI.dom t ht
        · intro j o t hoj hdt hdone
          by_cases hij : j = i
          · subst hij
            rw [ho] at hoj
            cases hoj
            rw [hdt]
            show (if t = t then some (vals j) else f t) = _
            rw [if_pos rfl]
          · rw [getD_setN hij] at hdone
            have hv := hI.val j o t hoj hdt hdone
            cases hx : ops[i].dst with
            | none => exact hv
            | some t' =>
              show (if t = t' then some (vals i) else f t) = _
              have : t ≠ t' := by
                rintro rfl
                exact hij (dst_uniqD hn hoj ho hdt hx)
              rw [if_neg this]; exact hv
        · intro j o t hoj hdt hnd
          by_cases hij : j = i
          · subst hij
            rw [getD_setI hl] at hnd; cases hnd
          · rw [getD_setN hij] at hnd
            have hv := hI.old j o t hoj hdt hnd
            cases hx : ops[i].dst with
            | none => exact hv
            | some t' =>
              show (if t = t' then some (vals i) else f t) = _
              have : t ≠ t' := by
                rintro rfl
                exact hij (dst_uniqD hn hoj ho hdt hx)
              rw [if_neg this]; exact hv
        · intro j o hoj hdone e he' hb
          by_cases hij : j = i
          · subst hij
            rw [ho] at hoj
            cases hoj
            exact getD_setD (hrdy e he' hb)
          · rw [getD_setN hij] at hdone
            exact getD_setD (hI.cl j o hoj hdone e he' hb)
  · rintro l a W ⟨f, rfl, hI⟩ hr
    have hall := ready_nilD hI.sz hd hr
    refine hend f W _ hI.st (fun hc => hall c hc) hI.dom (fun i o t ho ht => hI.val i o t ho ht (hall i ?_))
    exact (Array.getElem?_eq_some_iff.1 ho).1
  · rw [Array.toList_replicate]
    exact Nat.le_trans List.count_le_length (by simp)
  · have hff : ∀ i, (Array.replicate ops.size false).getD i false = false := fun i => by
      by_cases hjl : i < ops.size <;> simp [Array.getD, hjl]
    exact ⟨_, (fr_noneD A).symm, by simp, by rw [hff]; exact h0, fun _ _ => rfl, (fun i o t ho ht hx => by rw [hff] at hx; cases hx), fun _ _ _ _ _ _ => rfl, (fun i o ho hx => by rw [hff] at hx; cases hx)⟩

/-- As region_detX, with a list of what the slots hold: for a region each of whose operations has a slot. -/
theorem region_detY {id : Nat} {A : Act} {w : World} (hm : P.follows .mixedOrders = true) (c fuel : Nat) (L : List (Nat × Value)) (S : Bool → World → Prop)
    (hL : L.map (fun p => some p.1) = ops.toList.map (·.dst))
    (hd : ((List.range ops.size).all fun i => ((ops[i]?).map (·.after.all fun e => !Region.binds .any e || decide (e.on < i))).getD true) = true)
    (hnb : decide (L.map (·.1)).Nodup = true) (hlt : (L.map (·.1)).all (fun t => decide (t < A.tmps.size)) = true)
    (h0 : S false { w with drawn := w.drawn + 1 })
    (hstep : ∀ (i : Nat) (o : Oper), ops[i]? = some o → ∀ (a : Act) (W : World) (b : Bool), S b W → (i = c → b = false) →
      (∀ e ∈ o.after, Region.binds .any e = true → ∀ p, L[e.on]? = some p → a.tmps[p.1]? = some p.2) →
      (∀ t, (L.map (·.1)).contains t = false → a.tmps[t]? = A.tmps[t]?) →
      (∀ j, depB ops fuel i j = true → ∀ p, L[j]? = some p → a.tmps[p.1]? = A.tmps[p.1]?) →
      ∀ K : Act → World → Prop, (∀ W', S (if i = c then true else b) W' → K (a.put o.dst ((L[i]?.map (·.2)).getD undef)) W') → if Region.wanted o (yielded ops a.tmps) = true then Oper.wp P o a W K Q else K (a.put o.dst undef) W)
    (hend : ∀ W b, S b W → (c < ops.size → b = true) → Q .normal (putsD A L) W) :
    (Code.region id ops true).wp P Q A w := by
  have hn := of_decide_eq_true hnb
  have hlen : L.length = ops.size := by
    have := congrArg List.length hL
    simpa using this
  have hdst : dstsD ops = L.map (·.1) := by
    unfold dstsD
    have h1 : ∀ (l : List Oper) (M : List (Nat × Value)), M.map (fun p => some p.1) = l.map (·.dst) → l.filterMap (·.dst) = M.map (·.1) := by
      intro l
      induction l with
      | nil => intro M h; cases M with
        | nil => rfl
        | cons p M => simp at h
      | cons o l ih =>
        intro M h
        cases M with
        | nil => simp at h
        | cons p M =>
          simp only [List.map_cons, List.cons.injEq] at h
          rw [List.filterMap_cons, ← h.1, ih M h.2]; rfl
    exact h1 _ _ hL
  have hdp : ∀ (j : Nat) (p : Nat × Value), L[j]? = some p → ∃ o, ops[j]? = some o ∧ o.dst = some p.1 := by
    intro j p hp
    have hjl : j < ops.size := by rw [← hlen]; exact (List.getElem?_eq_some_iff.1 hp).1
    refine ⟨ops[j], Array.getElem?_eq_getElem hjl, ?_⟩
    have h1 := congrArg (fun l => l[j]?) hL
    simp only [List.getElem?_map] at h1
    rw [hp, show ops.toList[j]? = some ops[j] by rw [Array.getElem?_toList]; exact Array.getElem?_eq_getElem hjl] at h1
    simpa using h1.symm
  refine region_detX hm (fun i => (L[i]?.map (·.2)).getD undef) c fuel S hd (by rw [hdst]; exact hn) (by rw [hdst]; exact hlt) h0 ?_ ?_
  · intro i o ho a W b hS hc hz hdep hout hold K hK
    refine hstep i o ho a W b hS hc ?_ (fun t ht => hout t (by rw [hdst]; intro hm; rw [List.contains_iff_mem.2 hm] at ht; cases ht)) ?_ K hK
    · intro e he hb p hp
      obtain ⟨o', ho', hdt⟩ := hdp e.on p hp
      have := hdep e he hb _ ho' p.1 hdt
      rw [this]
      show some ((L[e.on]?.map (·.2)).getD undef) = _
      rw [hp]; rfl
    · intro j hj p hp
      obtain ⟨o', ho', hdt⟩ := hdp j p hp
      exact hold j o' hj ho' p.1 hdt
  · intro f W b hS hb hout hval
    have hf : f = L.foldl updD (fun _ => none) := by
      funext t
      by_cases ht : t ∈ L.map (·.1)
      · obtain ⟨i, hi, he⟩ := List.mem_iff_getElem.1 ht
        have hi' : i < L.length := by simpa using hi
        have h1 := updD_in L (fun _ => none) i hi' hn
        have e2 : L[i].1 = t := by simpa using he
        rw [e2] at h1
        rw [h1]
        obtain ⟨o', ho', hdt⟩ := hdp i _ (List.getElem?_eq_getElem hi')
        have := hval i _ t ho' (by rw [← e2]; exact hdt)
        rw [this, List.getElem?_eq_getElem hi']; rfl
      · rw [hout t (by rw [hdst]; exact ht), updD_out L _ t ht]
    have := hend W b hS hb
    have e : L.foldl (fun a p => a.put (some p.1) p.2) (frD A (fun _ => none)) = frD A f := by rw [putsD_fr, ← hf]
    rw [fr_noneD] at e
    unfold putsD at this
    rw [e] at this
    exact this
end
/-! ### Regions of which some values are not known ahead -/
/-- What an operation is known to yield. -/
def kn (L : List (Nat × Option Value)) (i : Nat) : Option Value := (L[i]?).bind (·.2)
def updZ (f : Nat → Option Value) (d : Option Nat) (v : Value) : Nat → Option Value := match d with
  | some t => fun k => if k = t then some v else f k
  | none => f
section
variable {P : Program} {ops : Array Oper} {Q : Exit → Act → World → Prop}
structure InvZ (ops : Array Oper) (L : List (Nat × Option Value)) (S : (Nat → Option Value) → World → Prop) (l : Array Bool) (f : Nat → Option Value) (W : World) : Prop where
  sz : l.size = ops.size
  st : S f W
  dom : ∀ t, t ∉ dstsD ops → f t = none
  val : ∀ i o t, ops[i]? = some o → o.dst = some t → l.getD i false = true → ∃ v, f t = some v ∧ ∀ u, kn L i = some u → v = u
  old : ∀ i o t, ops[i]? = some o → o.dst = some t → l.getD i false = false → f t = none
  cl : ∀ i o, ops[i]? = some o → l.getD i false = true → ∀ e ∈ o.after, Region.binds .any e = true → l.getD e.on false = true
theorem region_detZ0 {id : Nat} {A : Act} {w : World} (hm : P.follows .mixedOrders = true) (L : List (Nat × Option Value)) (fuel : Nat) (S : (Nat → Option Value) → World → Prop)
    (hd : ((List.range ops.size).all fun i => ((ops[i]?).map (·.after.all fun e => !Region.binds .any e || decide (e.on < i))).getD true) = true)
    (hn : (dstsD ops).Nodup) (hlt : (dstsD ops).all (fun t => decide (t < A.tmps.size)) = true)
    (h0 : S (fun _ => none) { w with drawn := w.drawn + 1 })
    (hstep : ∀ (i : Nat) (o : Oper), ops[i]? = some o → ∀ (a : Act) (f : Nat → Option Value) (W : World), S f W → a.tmps.size = A.tmps.size →
      (∀ e ∈ o.after, Region.binds .any e = true → ∀ o', ops[e.on]? = some o' → ∀ t, o'.dst = some t → ∃ v, f t = some v ∧ a.tmps[t]? = some v ∧ ∀ u, kn L e.on = some u → v = u) →
      (∀ t, t ∉ dstsD ops → a.tmps[t]? = A.tmps[t]?) →
      (∀ j o', depB ops fuel i j = true → ops[j]? = some o' → ∀ t, o'.dst = some t → f t = none ∧ a.tmps[t]? = A.tmps[t]?) →
      ∀ K : Act → World → Prop, (∀ v W', (∀ u, kn L i = some u → v = u) → S (updZ f o.dst v) W' → K (a.put o.dst v) W') → if Region.wanted o (yielded ops a.tmps) = true then Oper.wp P o a W K Q else K (a.put o.dst undef) W)
    (hend : ∀ f W, S f W → (∀ t, t ∉ dstsD ops → f t = none) → (∀ i o t, ops[i]? = some o → o.dst = some t → ∃ v, f t = some v ∧ ∀ u, kn L i = some u → v = u) → Q .normal (frD A f) W) :
    (Code.region id ops true).wp P Q A w := by
  refine wp_region_any hm (wpAny_invD (fun l a W => ∃ f, a = frD A f ∧ InvZ ops L S l f W) ?_ ?_ _ _ _ _ ?_ ?_)
  · rintro l a W i ⟨f, rfl, hI⟩ hi
    obtain ⟨h1, h2, h3⟩ := mem_readyD.1 hi
    obtain ⟨hl, he⟩ := getD_falseD h2
    have hff := getD_ff h2
    have ho : ops[i]? = some ops[i] := Array.getElem?_eq_getElem h1
    have hrdy : ∀ e ∈ ops[i].after, Region.binds .any e = true → l.getD e.on false = true := by
      intro e he' hb
      unfold rdyAtD at h3
      rw [ho] at h3
      simp only [Option.map_some, Option.getD_some, Array.all_eq_true] at h3
      obtain ⟨k, hk, rfl⟩ := Array.mem_iff_getElem.1 he'
      have := h3 k hk
      rw [Bool.or_eq_true] at this
      rcases this with h5 | h5
      · rw [hb] at h5; cases h5
      · exact h5
    refine wpOp_step ho (fun K hK => ?_)
    refine hstep i ops[i] ho (frD A f) f W hI.st (by simp [frD]) ?_ ?_ ?_ K ?_
    · intro e he' hb o' hoe t hdt
      obtain ⟨v, hv, hu⟩ := hI.val e.on o' t hoe hdt (hrdy e he' hb)
      have ht : t < A.tmps.size := by
        have := List.all_eq_true.1 hlt t (by unfold dstsD; exact List.mem_filterMap.2 ⟨o', by have := Array.mem_of_getElem? hoe; simpa using this, hdt⟩)
        exact of_decide_eq_true this
      refine ⟨v, hv, ?_, hu⟩
      simp only [frD, Array.getElem?_mapIdx, hv, Option.getD_some]
      rw [Array.getElem?_eq_getElem ht]; rfl
    · intro t ht
      simp only [frD, Array.getElem?_mapIdx, hI.dom t ht, Option.getD_none]
      cases A.tmps[t]? <;> rfl
    · intro j o' hdep hj t hdt
      have hnj : l.getD j false = false := by
        cases hx : l.getD j false with
        | false => rfl
        | true =>
          have := dep_done hI.cl fuel i j hdep hx
          rw [hff] at this; cases this
      have hN := hI.old j o' t hj hdt hnj
      refine ⟨hN, ?_⟩
      simp only [frD, Array.getElem?_mapIdx, hN, Option.getD_none]
      cases A.tmps[t]? <;> rfl
    · intro v W' hu hS
      refine hK _ _ ⟨updZ f ops[i].dst v, ?_, ?_⟩
      · cases hx : ops[i].dst with
        | none => exact fr_put0D _
        | some t => exact fr_putD t _
      · refine ⟨by simpa using hI.sz, hS, ?_, ?_, ?_, ?_⟩
        · intro t ht
          cases hx : ops[i].dst with
          | none => exact hI.dom t ht
          | some t' =>
            have : t ≠ t' := by
              rintro rfl
              exact ht (by unfold dstsD; exact List.mem_filterMap.2 ⟨ops[i], by simp, hx⟩)
            show (if t = t' then _ else f t) = none
            rw [if_neg this]; exact hI.dom t ht
        · intro j o t hoj hdt hdone
          by_cases hij : j = i
          · subst hij
            rw [ho] at hoj
            cases hoj
            rw [hdt]
            exact ⟨v, by show (if t = t then some v else f t) = _; rw [if_pos rfl], hu⟩
          · rw [getD_setN hij] at hdone
            have hv := hI.val j o t hoj hdt hdone
            cases hx : ops[i].dst with
            | none => exact hv
            | some t' =>
              have : t ≠ t' := by
                rintro rfl
                exact hij (dst_uniqD hn hoj ho hdt hx)
              show ∃ v', (if t = t' then some v else f t) = some v' ∧ _
              rw [if_neg this]; exact hv
        · intro j o t hoj hdt hnd
          by_cases hij : j = i
          · subst hij
            rw [getD_setI hl] at hnd; cases hnd
          · rw [getD_setN hij] at hnd
            have hv := hI.old j o t hoj hdt hnd
            cases hx : ops[i].dst with
            | none => exact hv
            | some t' =>
              show (if t = t' then some v else f t) = _
              have : t ≠ t' := by
                rintro rfl
                exact hij (dst_uniqD hn hoj ho hdt hx)
              rw [if_neg this]; exact hv
        · intro j o hoj hdone e he' hb
          by_cases hij : j = i
          · subst hij
            rw [ho] at hoj
            cases hoj
            exact getD_setD (hrdy e he' hb)
          · rw [getD_setN hij] at hdone
            exact getD_setD (hI.cl j o hoj hdone e he' hb)
  · rintro l a W ⟨f, rfl, hI⟩ hr
    have hall := ready_nilD hI.sz hd hr
    refine hend f W hI.st hI.dom (fun i o t ho ht => hI.val i o t ho ht (hall i ?_))
    exact (Array.getElem?_eq_some_iff.1 ho).1
  · rw [Array.toList_replicate]
    exact Nat.le_trans List.count_le_length (by simp)
  · have hff : ∀ i, (Array.replicate ops.size false).getD i false = false := fun i => by
      by_cases hjl : i < ops.size <;> simp [Array.getD, hjl]
    exact ⟨_, (fr_noneD A).symm, by simp, h0, fun _ _ => rfl, (fun i o t ho ht hx => by rw [hff] at hx; cases hx), fun _ _ _ _ _ _ => rfl, (fun i o ho hx => by rw [hff] at hx; cases hx)⟩

/-- As region_detY, where the list says which values are known ahead; what is assumed may speak of the slots written. -/
theorem region_detZ {id : Nat} {A : Act} {w : World} (hm : P.follows .mixedOrders = true) (fuel : Nat) (L : List (Nat × Option Value)) (S : (Nat → Option Value) → World → Prop)
    (hL : L.map (fun p => some p.1) = ops.toList.map (·.dst))
    (hd : ((List.range ops.size).all fun i => ((ops[i]?).map (·.after.all fun e => !Region.binds .any e || decide (e.on < i))).getD true) = true)
    (hnb : decide (L.map (·.1)).Nodup = true) (hlt : (L.map (·.1)).all (fun t => decide (t < A.tmps.size)) = true)
    (h0 : S (fun _ => none) { w with drawn := w.drawn + 1 })
    (hstep : ∀ (i : Nat) (o : Oper), ops[i]? = some o → ∀ (a : Act) (f : Nat → Option Value) (W : World), S f W →
      (∀ e ∈ o.after, Region.binds .any e = true → ∀ p, L[e.on]? = some p → ∃ v, f p.1 = some v ∧ a.tmps[p.1]? = some v ∧ ∀ u, p.2 = some u → v = u) →
      (∀ t, (L.map (·.1)).contains t = false → a.tmps[t]? = A.tmps[t]?) →
      (∀ j, depB ops fuel i j = true → ∀ p, L[j]? = some p → f p.1 = none ∧ a.tmps[p.1]? = A.tmps[p.1]?) →
      ∀ K : Act → World → Prop, (∀ v W', (∀ u, kn L i = some u → v = u) → S (updZ f o.dst v) W' → K (a.put o.dst v) W') → if Region.wanted o (yielded ops a.tmps) = true then Oper.wp P o a W K Q else K (a.put o.dst undef) W)
    (hend : ∀ f W, S f W → (∀ p ∈ L, ∃ v, f p.1 = some v ∧ ∀ u, p.2 = some u → v = u) → Q .normal (putsD A (L.map (fun p => (p.1, p.2.getD ((f p.1).getD undef))))) W) :
    (Code.region id ops true).wp P Q A w := by
  have hn := of_decide_eq_true hnb
  have hlen : L.length = ops.size := by
    have := congrArg List.length hL
    simpa using this
  have hdst : dstsD ops = L.map (·.1) := by
    unfold dstsD
    have h1 : ∀ (l : List Oper) (M : List (Nat × Option Value)), M.map (fun p => some p.1) = l.map (·.dst) → l.filterMap (·.dst) = M.map (·.1) := by
      intro l
      induction l with
      | nil => intro M h; cases M with
        | nil => rfl
        | cons p M => simp at h
      | cons o l ih =>
        intro M h
        cases M with
        | nil => simp at h
        | cons p M =>
          simp only [List.map_cons, List.cons.injEq] at h
          rw [List.filterMap_cons, ← h.1, ih M h.2]; rfl
    exact h1 _ _ hL
  have hdp : ∀ (j : Nat) (p : Nat × Option Value), L[j]? = some p → ∃ o, ops[j]? = some o ∧ o.dst = some p.1 := by
    intro j p hp
    have hjl : j < ops.size := by rw [← hlen]; exact (List.getElem?_eq_some_iff.1 hp).1
    refine ⟨ops[j], Array.getElem?_eq_getElem hjl, ?_⟩
    have h1 := congrArg (fun l => l[j]?) hL
    simp only [List.getElem?_map] at h1
    rw [hp, show ops.toList[j]? = some ops[j] by rw [Array.getElem?_toList]; exact Array.getElem?_eq_getElem hjl] at h1
    simpa using h1.symm
  have hkn : ∀ (j : Nat) (p : Nat × Option Value), L[j]? = some p → kn L j = p.2 := fun j p hp => by unfold kn; rw [hp]; rfl
  refine region_detZ0 hm L fuel S hd (by rw [hdst]; exact hn) (by rw [hdst]; exact hlt) h0 ?_ ?_
  · intro i o ho a f W hS hz hdep hout hold K hK
    refine hstep i o ho a f W hS ?_ (fun t ht => hout t (by rw [hdst]; intro hm; rw [List.contains_iff_mem.2 hm] at ht; cases ht)) ?_ K hK
    · intro e he hb p hp
      obtain ⟨o', ho', hdt⟩ := hdp e.on p hp
      obtain ⟨v, h1, h2, h3⟩ := hdep e he hb _ ho' p.1 hdt
      rw [hkn e.on p hp] at h3
      exact ⟨v, h1, h2, h3⟩
    · intro j hj p hp
      obtain ⟨o', ho', hdt⟩ := hdp j p hp
      exact hold j o' hj ho' p.1 hdt
  · intro f W hS hout hval
    have hp : ∀ p ∈ L, ∃ v, f p.1 = some v ∧ ∀ u, p.2 = some u → v = u := by
      intro p hp
      obtain ⟨j, hj, rfl⟩ := List.mem_iff_getElem.1 hp
      obtain ⟨o', ho', hdt⟩ := hdp j _ (List.getElem?_eq_getElem hj)
      obtain ⟨v, h1, h2⟩ := hval j o' _ ho' hdt
      rw [hkn j _ (List.getElem?_eq_getElem hj)] at h2
      exact ⟨v, h1, h2⟩
    have hM : (L.map (fun p => (p.1, p.2.getD ((f p.1).getD undef)))).map (·.1) = L.map (·.1) := by rw [List.map_map]; rfl
    have hf : f = (L.map (fun p => (p.1, p.2.getD ((f p.1).getD undef)))).foldl updD (fun _ => none) := by
      funext t
      by_cases ht : t ∈ L.map (·.1)
      · obtain ⟨i, hi, he⟩ := List.mem_iff_getElem.1 ht
        have hi' : i < L.length := by simpa using hi
        have hi2 : i < (L.map (fun p => (p.1, p.2.getD ((f p.1).getD undef)))).length := by simpa using hi'
        have h1 := updD_in (L.map (fun p => (p.1, p.2.getD ((f p.1).getD undef)))) (fun _ => none) i hi2 (by rw [hM]; exact hn)
        have e2 : L[i].1 = t := by simpa using he
        simp only [List.getElem_map] at h1
        rw [e2] at h1
        rw [h1]
        obtain ⟨v, hv, hu⟩ := hp L[i] (List.getElem_mem hi')
        rw [e2] at hv
        rw [hv]
        cases hx : L[i].2 with
        | none => rfl
        | some u => rw [hu u hx]; rfl
      · rw [hout t (by rw [hdst]; exact ht), updD_out _ _ t (by rw [hM]; exact ht)]
    have := hend f W hS hp
    have e : (L.map (fun p => (p.1, p.2.getD ((f p.1).getD undef)))).foldl (fun a p => a.put (some p.1) p.2) (frD A (fun _ => none)) = frD A f := by rw [putsD_fr, ← hf]
    rw [fr_noneD] at e
    unfold putsD at this
    rw [e] at this
    exact this
end
/-! ### Regions of which some operations have no slot -/
def knW (L : List (Option Nat × Option Value)) (i : Nat) : Option Value := (L[i]?).bind (·.2)
def updB (d : Nat → Bool) (i : Nat) : Nat → Bool := fun k => if k = i then true else d k
section
variable {P : Program} {ops : Array Oper} {Q : Exit → Act → World → Prop}
structure InvW (ops : Array Oper) (L : List (Option Nat × Option Value)) (S : (Nat → Bool) → (Nat → Option Value) → World → Prop) (l : Array Bool) (f : Nat → Option Value) (W : World) : Prop where
  sz : l.size = ops.size
  st : S (fun k => l.getD k false) f W
  dom : ∀ t, t ∉ dstsD ops → f t = none
  val : ∀ i o t, ops[i]? = some o → o.dst = some t → l.getD i false = true → ∃ v, f t = some v ∧ ∀ u, knW L i = some u → v = u
  old : ∀ i o t, ops[i]? = some o → o.dst = some t → l.getD i false = false → f t = none
  cl : ∀ i o, ops[i]? = some o → l.getD i false = true → ∀ e ∈ o.after, Region.binds .any e = true → l.getD e.on false = true
theorem region_detW0 {id : Nat} {A : Act} {w : World} (hm : P.follows .mixedOrders = true) (L : List (Option Nat × Option Value)) (fuel : Nat) (S : (Nat → Bool) → (Nat → Option Value) → World → Prop)
    (hd : ((List.range ops.size).all fun i => ((ops[i]?).map (·.after.all fun e => !Region.binds .any e || decide (e.on < i))).getD true) = true)
    (hn : (dstsD ops).Nodup) (hlt : (dstsD ops).all (fun t => decide (t < A.tmps.size)) = true)
    (h0 : S (fun _ => false) (fun _ => none) { w with drawn := w.drawn + 1 })
    (hstep : ∀ (i : Nat) (o : Oper), ops[i]? = some o → ∀ (a : Act) (d : Nat → Bool) (f : Nat → Option Value) (W : World), S d f W → d i = false → (∀ e ∈ o.after, Region.binds .any e = true → d e.on = true) → (∀ j, depB ops fuel i j = true → d j = false) → a.tmps.size = A.tmps.size →
      (∀ e ∈ o.after, Region.binds .any e = true → ∀ o', ops[e.on]? = some o' → ∀ t, o'.dst = some t → ∃ v, f t = some v ∧ a.tmps[t]? = some v ∧ ∀ u, knW L e.on = some u → v = u) →
      (∀ t, t ∉ dstsD ops → a.tmps[t]? = A.tmps[t]?) →
      (∀ j o', depB ops fuel i j = true → ops[j]? = some o' → ∀ t, o'.dst = some t → f t = none ∧ a.tmps[t]? = A.tmps[t]?) →
      ∀ K : Act → World → Prop, (∀ v W', (∀ u, knW L i = some u → v = u) → S (updB d i) (updZ f o.dst v) W' → K (a.put o.dst v) W') → if Region.wanted o (yielded ops a.tmps) = true then Oper.wp P o a W K Q else K (a.put o.dst undef) W)
    (hend : ∀ d f W, S d f W → (∀ i, i < ops.size → d i = true) → (∀ t, t ∉ dstsD ops → f t = none) → (∀ i o t, ops[i]? = some o → o.dst = some t → ∃ v, f t = some v ∧ ∀ u, knW L i = some u → v = u) → Q .normal (frD A f) W) :
    (Code.region id ops true).wp P Q A w := by
  refine wp_region_any hm (wpAny_invD (fun l a W => ∃ f, a = frD A f ∧ InvW ops L S l f W) ?_ ?_ _ _ _ _ ?_ ?_)
  · rintro l a W i ⟨f, rfl, hI⟩ hi
    obtain ⟨h1, h2, h3⟩ := mem_readyD.1 hi
    obtain ⟨hl, he⟩ := getD_falseD h2
    have hff := getD_ff h2
    have ho : ops[i]? = some ops[i] := Array.getElem?_eq_getElem h1
    have hrdy : ∀ e ∈ ops[i].after, Region.binds .any e = true → l.getD e.on false = true := by
      intro e he' hb
      unfold rdyAtD at h3
      rw [ho] at h3
      simp only [Option.map_some, Option.getD_some, Array.all_eq_true] at h3
      obtain ⟨k, hk, rfl⟩ := Array.mem_iff_getElem.1 he'
      have := h3 k hk
      rw [Bool.or_eq_true] at this
      rcases this with h5 | h5
      · rw [hb] at h5; cases h5
      · exact h5
    refine wpOp_step ho (fun K hK => ?_)
    refine hstep i ops[i] ho (frD A f) (fun k => l.getD k false) f W hI.st hff hrdy ?_ (by simp [frD]) ?_ ?_ ?_ K ?_
    · intro j hj
      show l.getD j false = false
      cases hx : l.getD j false with
      | false => rfl
      | true =>
        have := dep_done hI.cl fuel i j hj hx
        rw [hff] at this; cases this
    · intro e he' hb o' hoe t hdt
      obtain ⟨v, hv, hu⟩ := hI.val e.on o' t hoe hdt (hrdy e he' hb)
      have ht : t < A.tmps.size := by
        have := List.all_eq_true.1 hlt t (by unfold dstsD; exact List.mem_filterMap.2 ⟨o', by have := Array.mem_of_getElem? hoe; simpa using this, hdt⟩)
        exact of_decide_eq_true this
      refine ⟨v, hv, ?_, hu⟩
      simp only [frD, Array.getElem?_mapIdx, hv, Option.getD_some]
      rw [Array.getElem?_eq_getElem ht]; rfl
    · intro t ht
      simp only [frD, Array.getElem?_mapIdx, hI.dom t ht, Option.getD_none]
      cases A.tmps[t]? <;> rfl
    · intro j o' hdep hj t hdt
      have hnj : l.getD j false = false := by
        cases hx : l.getD j false with
        | false => rfl
        | true =>
          have := dep_done hI.cl fuel i j hdep hx
          rw [hff] at this; cases this
      have hN := hI.old j o' t hj hdt hnj
      refine ⟨hN, ?_⟩
      simp only [frD, Array.getElem?_mapIdx, hN, Option.getD_none]
      cases A.tmps[t]? <;> rfl
    · intro v W' hu hS
      refine hK _ _ ⟨updZ f ops[i].dst v, ?_, ?_⟩
      · cases hx : ops[i].dst with
        | none => exact fr_put0D _
        | some t => exact fr_putD t _
      · have hfun : updB (fun k => l.getD k false) i = fun k => (l.setIfInBounds i true).getD k false := by
          funext k
          unfold updB
          by_cases hk : k = i
          · rw [if_pos hk, hk, getD_setI hl]
          · rw [if_neg hk, getD_setN hk]
        refine ⟨by simpa using hI.sz, by rw [← hfun]; exact hS, ?_, ?_, ?_, ?_⟩
        · intro t ht
          cases hx : ops[i].dst with
          | none => exact hI.dom t ht
          | some t' =>
            have : t ≠ t' := by
              rintro rfl
              exact ht (by unfold dstsD; exact List.mem_filterMap.2 ⟨ops[i], by simp, hx⟩)
            show (if t = t' then _ else f t) = none
            rw [if_neg this]; exact hI.dom t ht
        · intro j o t hoj hdt hdone
          by_cases hij : j = i
          · subst hij
            rw [ho] at hoj
            cases hoj
            rw [hdt]
            exact ⟨v, by show (if t = t then some v else f t) = _; rw [if_pos rfl], hu⟩
          · rw [getD_setN hij] at hdone
            have hv := hI.val j o t hoj hdt hdone
            cases hx : ops[i].dst with
            | none => exact hv
            | some t' =>
              have : t ≠ t' := by
                rintro rfl
                exact hij (dst_uniqD hn hoj ho hdt hx)
              show ∃ v', (if t = t' then some v else f t) = some v' ∧ _
              rw [if_neg this]; exact hv
        · intro j o t hoj hdt hnd
          by_cases hij : j = i
          · subst hij
            rw [getD_setI hl] at hnd; cases hnd
          · rw [getD_setN hij] at hnd
            have hv := hI.old j o t hoj hdt hnd
            cases hx : ops[i].dst with
            | none => exact hv
            | some t' =>
              show (if t = t' then some v else f t) = _
              have : t ≠ t' := by
                rintro rfl
                exact hij (dst_uniqD hn hoj ho hdt hx)
              rw [if_neg this]; exact hv
        · intro j o hoj hdone e he' hb
          by_cases hij : j = i
          · subst hij
            rw [ho] at hoj
            cases hoj
            exact getD_setD (hrdy e he' hb)
          · rw [getD_setN hij] at hdone
            exact getD_setD (hI.cl j o hoj hdone e he' hb)
  · rintro l a W ⟨f, rfl, hI⟩ hr
    have hall := ready_nilD hI.sz hd hr
    refine hend _ f W hI.st hall hI.dom (fun i o t ho ht => hI.val i o t ho ht (hall i ?_))
    exact (Array.getElem?_eq_some_iff.1 ho).1
  · rw [Array.toList_replicate]
    exact Nat.le_trans List.count_le_length (by simp)
  · have hff : ∀ i, (Array.replicate ops.size false).getD i false = false := fun i => by
      by_cases hjl : i < ops.size <;> simp [Array.getD, hjl]
    exact ⟨_, (fr_noneD A).symm, by simp, (by rw [show (fun k => (Array.replicate ops.size false).getD k false) = fun _ => false from funext hff]; exact h0), fun _ _ => rfl, (fun i o t ho ht hx => by rw [hff] at hx; cases hx), fun _ _ _ _ _ _ => rfl, (fun i o ho hx => by rw [hff] at hx; cases hx)⟩

/-- As region_detZ, where operations may have no slot; what is assumed may speak of what is done. -/
theorem region_detW {id : Nat} {A : Act} {w : World} (hm : P.follows .mixedOrders = true) (fuel : Nat) (L : List (Option Nat × Option Value)) (S : (Nat → Bool) → (Nat → Option Value) → World → Prop)
    (hL : L.map (·.1) = ops.toList.map (·.dst))
    (hd : ((List.range ops.size).all fun i => ((ops[i]?).map (·.after.all fun e => !Region.binds .any e || decide (e.on < i))).getD true) = true)
    (hnb : decide (L.filterMap (·.1)).Nodup = true) (hlt : (L.filterMap (·.1)).all (fun t => decide (t < A.tmps.size)) = true)
    (h0 : S (fun _ => false) (fun _ => none) { w with drawn := w.drawn + 1 })
    (hstep : ∀ (i : Nat) (o : Oper), ops[i]? = some o → ∀ (a : Act) (d : Nat → Bool) (f : Nat → Option Value) (W : World), S d f W → d i = false → (∀ e ∈ o.after, Region.binds .any e = true → d e.on = true) → (∀ j, depB ops fuel i j = true → d j = false) →
      (∀ e ∈ o.after, Region.binds .any e = true → ∀ p, L[e.on]? = some p → ∀ t, p.1 = some t → ∃ v, f t = some v ∧ a.tmps[t]? = some v ∧ ∀ u, p.2 = some u → v = u) →
      (∀ t, (L.filterMap (·.1)).contains t = false → a.tmps[t]? = A.tmps[t]?) →
      (∀ j, depB ops fuel i j = true → ∀ p, L[j]? = some p → ∀ t, p.1 = some t → f t = none ∧ a.tmps[t]? = A.tmps[t]?) →
      ∀ K : Act → World → Prop, (∀ v W', (∀ u, knW L i = some u → v = u) → S (updB d i) (updZ f o.dst v) W' → K (a.put o.dst v) W') → if Region.wanted o (yielded ops a.tmps) = true then Oper.wp P o a W K Q else K (a.put o.dst undef) W)
    (hend : ∀ d f W, S d f W → (∀ i, i < ops.size → d i = true) → (∀ p ∈ L, ∀ t, p.1 = some t → ∃ v, f t = some v ∧ ∀ u, p.2 = some u → v = u) → Q .normal (putsD A (L.filterMap (fun (p : Option Nat × Option Value) => p.1.map (fun t => (t, p.2.getD ((f t).getD undef)))))) W) :
    (Code.region id ops true).wp P Q A w := by
  have hn := of_decide_eq_true hnb
  have hlen : L.length = ops.size := by
    have := congrArg List.length hL
    simpa using this
  have hdst : dstsD ops = L.filterMap (·.1) := by
    unfold dstsD
    have e1 : ops.toList.filterMap (·.dst) = (ops.toList.map (·.dst)).filterMap _root_.id := by rw [List.filterMap_map]; rfl
    have e2 : L.filterMap (·.1) = (L.map (·.1)).filterMap _root_.id := by rw [List.filterMap_map]; rfl
    rw [e1, e2, hL]
  have hdp : ∀ (j : Nat) (p : Option Nat × Option Value), L[j]? = some p → ∃ o, ops[j]? = some o ∧ o.dst = p.1 := by
    intro j p hp
    have hjl : j < ops.size := by rw [← hlen]; exact (List.getElem?_eq_some_iff.1 hp).1
    refine ⟨ops[j], Array.getElem?_eq_getElem hjl, ?_⟩
    have h1 := congrArg (fun l => l[j]?) hL
    simp only [List.getElem?_map] at h1
    rw [hp, show ops.toList[j]? = some ops[j] by rw [Array.getElem?_toList]; exact Array.getElem?_eq_getElem hjl] at h1
    simpa using h1.symm
  have hkn : ∀ (j : Nat) (p : Option Nat × Option Value), L[j]? = some p → knW L j = p.2 := fun j p hp => by unfold knW; rw [hp]; rfl
  refine region_detW0 hm L fuel S hd (by rw [hdst]; exact hn) (by rw [hdst]; exact hlt) h0 ?_ ?_
  · intro i o ho a d f W hS hdi hdn hnd hz hdep hout hold K hK
    refine hstep i o ho a d f W hS hdi hdn hnd ?_ (fun t ht => hout t (by rw [hdst]; intro hm; rw [List.contains_iff_mem.2 hm] at ht; cases ht)) ?_ K hK
    · intro e he hb p hp t ht
      obtain ⟨o', ho', hdt⟩ := hdp e.on p hp
      obtain ⟨v, h1, h2, h3⟩ := hdep e he hb _ ho' t (hdt.trans ht)
      rw [hkn e.on p hp] at h3
      exact ⟨v, h1, h2, h3⟩
    · intro j hj p hp t ht
      obtain ⟨o', ho', hdt⟩ := hdp j p hp
      exact hold j o' hj ho' t (hdt.trans ht)
  · intro d f W hS hall hout hval
    have hp : ∀ p ∈ L, ∀ t, p.1 = some t → ∃ v, f t = some v ∧ ∀ u, p.2 = some u → v = u := by
      intro p hp t ht
      obtain ⟨j, hj, rfl⟩ := List.mem_iff_getElem.1 hp
      obtain ⟨o', ho', hdt⟩ := hdp j _ (List.getElem?_eq_getElem hj)
      obtain ⟨v, h1, h2⟩ := hval j o' t ho' (hdt.trans ht)
      rw [hkn j _ (List.getElem?_eq_getElem hj)] at h2
      exact ⟨v, h1, h2⟩
    have hM : (L.filterMap (fun (p : Option Nat × Option Value) => p.1.map (fun t => (t, p.2.getD ((f t).getD undef))))).map (·.1) = L.filterMap (·.1) := by
      rw [List.map_filterMap]
      congr 1
      funext p
      cases p.1 <;> rfl
    have hf : f = (L.filterMap (fun (p : Option Nat × Option Value) => p.1.map (fun t => (t, p.2.getD ((f t).getD undef))))).foldl updD (fun _ => none) := by
      funext t
      by_cases ht : t ∈ L.filterMap (·.1)
      · have ht2 := ht
        rw [← hM] at ht2
        obtain ⟨i, hi, he⟩ := List.mem_iff_getElem.1 ht2
        have hi2 : i < (L.filterMap (fun (p : Option Nat × Option Value) => p.1.map (fun t => (t, p.2.getD ((f t).getD undef))))).length := by simpa using hi
        have h1 := updD_in (L.filterMap (fun (p : Option Nat × Option Value) => p.1.map (fun t => (t, p.2.getD ((f t).getD undef))))) (fun _ => none) i hi2 (by rw [hM]; exact hn)
        have hm2 := List.getElem_mem hi2
        have he2 : (L.filterMap (fun (p : Option Nat × Option Value) => p.1.map (fun t => (t, p.2.getD ((f t).getD undef)))))[i].1 = t := by simpa using he
        rw [he2] at h1
        rw [h1]
        obtain ⟨p, hpL, hpe⟩ := List.mem_filterMap.1 hm2
        cases hp1 : p.1 with
        | none => rw [hp1] at hpe; cases hpe
        | some t' =>
          rw [hp1] at hpe
          simp only [Option.map_some, Option.some.injEq] at hpe
          have ett : t' = t := by rw [← he2, ← hpe]
          subst ett
          obtain ⟨v, hv, hu⟩ := hp p hpL t' hp1
          rw [← hpe, hv]
          cases hx : p.2 with
          | none => rfl
          | some u => rw [hu u hx]; rfl
      · rw [hout t (by rw [hdst]; exact ht), updD_out _ _ t (by rw [hM]; exact ht)]
    have := hend d f W hS hall hp
    have e : (L.filterMap (fun (p : Option Nat × Option Value) => p.1.map (fun t => (t, p.2.getD ((f t).getD undef))))).foldl (fun a p => a.put (some p.1) p.2) (frD A (fun _ => none)) = frD A f := by rw [putsD_fr, ← hf]
    rw [fr_noneD] at e
    unfold putsD at this
    rw [e] at this
    exact this
end
end Go.Proofs.YtocbhlohcikapaaGreatDoor
namespace Go.Proofs.YtocbhlohcikapaaGreatDoor
open Go.RowKit Go.Sort

theorem infoIg : (Tryz.prog.info? 3).map (fun i => (i.zero, i.size, i.bytes)) = some (some (.int .i64 0), 1, 8) := by kernel_rfl
theorem infoSg : (Tryz.prog.info? 30).map (fun i => (i.zero, i.size, i.bytes)) = some (some (.slice none 0 0), 1, 24) := by kernel_rfl
theorem infoBg : (Tryz.prog.info? 4).map (fun i => (i.zero, i.size, i.bytes)) = some (some (.bool false), 1, 1) := by kernel_rfl
theorem made_rowZ {w : World} {B e g n : Nat} {z : Value} (hz : z.cells = #[z]) (h : w.ownsRow B e 1 (.slice (some ⟨g, 0, none⟩) n n) n (madeCells z.cells (n * 1)).toList) : VRow w g e (List.replicate n z) := by
  rcases h.2 with ⟨e0, _⟩ | ⟨g', cap', cur, e0, hg, hh, hc, hm, hs, ht⟩
  · cases e0
  · cases e0
    have h1 : cur.toList.take (n * 1) = cur.toList := List.take_of_length_le (by simp [hs])
    rw [h1, hz, toList_madeCells_one, Nat.mul_one] at ht
    rw [← ht]
    exact hh
/-- Two rows lie in different blocks. -/
def NEI (v l : Value) : Prop := ∀ j, v.ownBlock = some j → l.ownBlock ≠ some j
theorem NEI.kept {v l : Value} (h : NEI v l) : l.ownBlock = none ∨ l.ownBlock ≠ v.ownBlock := by
  cases hl : l.ownBlock with
  | none => exact .inl rfl
  | some j => exact .inr (fun e => h j e.symm hl)
/-- Rows of numbers: all but perhaps one are the call's own, in different blocks. -/
structure NxR (W : World) (bn n : Nat) (vs : List Value) (R : Nat → List Int) (x : Nat) : Prop where
  hd : VRow W bn 30 vs
  len : vs.length = n
  own : ∀ s (h : s < vs.length), s ≠ x → W.ownsRow bn 3 1 vs[s] (R s).length ((R s).map (Value.int .i64))
  ne : ∀ s t (hs : s < vs.length) (ht : t < vs.length), s ≠ t → NEI vs[s] vs[t]
theorem NxR.but {W : World} {bn n : Nat} {vs : List Value} {R : Nat → List Int} (h : NxR W bn n vs R n) (x : Nat) : NxR W bn n vs R x :=
  ⟨h.hd, h.len, fun s hs _ => h.own s hs (by have := h.len; omega), h.ne⟩
theorem NxR.alloc {W : World} {bn n : Nat} {vs : List Value} {R : Nat → List Int} {x : Nat} (h : NxR W bn n vs R x) (o : Obj) : NxR (W.alloc o) bn n vs R x :=
  ⟨h.hd.alloc o, h.len, fun s hs hx => (h.own s hs hx).alloc o, h.ne⟩
theorem NxR.keep {W W' : World} {bn n : Nat} {vs : List Value} {R : Nat → List Int} {x : Nat} (h : NxR W bn n vs R x) (hB : RowKit.Below W.heap.size W W') : NxR W' bn n vs R x :=
  ⟨h.hd.below hB h.hd.lt, h.len, fun s hs hx => (h.own s hs hx).below hB, h.ne⟩
/-- A row's own block is none of another type. -/
theorem own_not {W : World} {B b e : Nat} {v : Value} {n : Nat} {xs : List Value} {t : TypeId} {c : Array Value} {f : Nat × Nat} (h : W.ownsRow B e 1 v n xs) (hb : W.heap[b]? = some (.cells c t f)) (hne : t ≠ e) : some b ≠ v.ownBlock := by
  intro e'
  obtain ⟨c', f', h'⟩ := Lib.ownsRow_kind h b e'.symm
  rw [hb] at h'; cases h'; exact hne rfl
theorem NxR.grown {W W' : World} {bn n : Nat} {vs : List Value} {R : Nat → List Int} {x : Nat} (h : NxR W bn n vs R n) (hx : x < vs.length) (hg : W.grownBy W' vs[x].ownBlock) : NxR W' bn n vs R x where
  hd := h.hd.grown hg (own_not (h.own x hx (by have := h.len; omega)) h.hd (by decide))
  len := h.len
  own := fun s hs hsx => (h.own s hs (by have := h.len; omega)).kept hg ((h.ne x s hx hs (fun e => hsx e.symm)).kept)
  ne := h.ne
/-- One row is set: it is longer, or lies elsewhere. -/
theorem NxR.set {W : World} {bn n : Nat} {vs : List Value} {R R' : Nat → List Int} {x : Nat} {v : Value} (h : NxR W bn n vs R x) (hx : x < vs.length) (hv : W.ownsRow bn 3 1 v (R' x).length ((R' x).map (Value.int .i64))) (hR : ∀ s, s ≠ x → R' s = R s)
    (h1 : ∀ s (hs : s < vs.length), s ≠ x → NEI v vs[s] ∧ NEI vs[s] v) : NxR (W.setCell ⟨bn, x, none⟩ v) bn n (vs.set x v) R' n := by
  have hb : ∀ {u : Value} {k : Nat} {xs : List Value}, W.ownsRow bn 3 1 u k xs → (W.setCell ⟨bn, x, none⟩ v).ownsRow bn 3 1 u k xs := fun hu =>
    ownsRow_setCell_other hu (a := ⟨bn, x, none⟩) (fun e => own_not hu h.hd (by decide) e.symm) _
  refine ⟨h.hd.set (i := x) v, by rw [List.length_set]; exact h.len, fun s hs _ => ?_, fun s t hs ht hst => ?_⟩
  · rw [List.length_set] at hs
    by_cases e : s = x
    · subst e
      rw [List.getElem_set_self]; exact hb hv
    · rw [List.getElem_set_ne (fun e' => e e'.symm), hR s e]
      exact hb (h.own s hs e)
  · rw [List.length_set] at hs ht
    by_cases e : s = x
    · subst e
      rw [List.getElem_set_self, List.getElem_set_ne hst]
      exact (h1 t (by simpa using ht) (fun e' => hst e'.symm)).1
    · by_cases e2 : t = x
      · subst e2
        rw [List.getElem_set_self, List.getElem_set_ne (fun e' => e e'.symm)]
        exact (h1 s (by simpa using hs) e).2
      · rw [List.getElem_set_ne (fun e' => e e'.symm), List.getElem_set_ne (fun e' => e2 e'.symm)]
        exact h.ne s t (by simpa using hs) (by simpa using ht) hst
/-- In the midst of one edge: what is done (the number's own block; the append; the store), and the grown row. -/
structure NxS (w1 W0 : World) (bn B5 n : Nat) (vs : List Value) (R R' : Nat → List Int) (x : Nat) (a1 b1 c1 : Int) (d10 d11 d13 : Bool) (f31 : Option Value) (W : World) : Prop where
  b : RowKit.Below bn w1 W
  bx : Boxed W B5 47 (.slice (some ⟨bn, 0, none⟩) n n)
  ed : ∃ be, W0.heap.size = be + 1 ∧ VRow W be 44 [.int .i64 a1, .int .i64 b1, .int .i64 c1]
  sz : d10 = false → W.heap.size = W0.heap.size
  sz2 : W0.heap.size ≤ W.heap.size
  one : d10 = true → d11 = false → VRow W W0.heap.size 3 [.int .i64 c1]
  pre : d11 = false → NxR W bn n vs R n
  mid : d11 = true → d13 = false → ∃ g cap, f31 = some (.slice (some ⟨g, 0, none⟩) (R' x).length cap) ∧ NxR W bn n vs R x ∧ W.ownsRow bn 3 1 (.slice (some ⟨g, 0, none⟩) (R' x).length cap) (R' x).length ((R' x).map (Value.int .i64)) ∧ ∀ s (hs : s < vs.length), s ≠ x → NEI (.slice (some ⟨g, 0, none⟩) (R' x).length cap) vs[s] ∧ NEI vs[s] (.slice (some ⟨g, 0, none⟩) (R' x).length cap)
  fin : d13 = true → ∃ v, f31 = some v ∧ NxR W bn n (vs.set x v) R' n
section
variable {w1 W0 : World} {bn B5 n : Nat} {vs : List Value} {R R' : Nat → List Int} {x : Nat} {a b c : Int} {f31 : Option Value} {W : World}
theorem NxS.alloc (h : NxS w1 W0 bn B5 n vs R R' x a b c false false false f31 W) (hbn : bn ≤ W.heap.size) : NxS w1 W0 bn B5 n vs R R' x a b c true false false f31 (W.alloc (.cells #[.int .i64 c] 3)) := by
  obtain ⟨be, h1, h2⟩ := h.ed
  refine ⟨h.b.alloc hbn _, h.bx.alloc _, ⟨be, h1, h2.alloc _⟩, (fun e => by cases e), by rw [World.size_alloc]; have := h.sz2; omega, fun _ _ => ?_, fun e => (h.pre e).alloc _, (fun e => by cases e), (fun e => by cases e)⟩
  rw [← h.sz rfl]; exact VRow.new W _ _
theorem NxS.app {W' : World} {g cap : Nat} {d10 : Bool} (h : NxS w1 W0 bn B5 n vs R R' x a b c d10 false false f31 W) (hx : x < vs.length) (hR : (R' x) = R x ++ [c])
    (hown : W'.ownsRow bn 3 1 (.slice (some ⟨g, 0, none⟩) ((R x).length + 1) cap) ((R x).length + 1) ((R x).map (Value.int .i64) ++ [.int .i64 c])) (hg : W.grownBy W' vs[x].ownBlock) (hgw : vs[x].ownBlock = some g ∨ g = W.heap.size) (hbn : bn ≤ W.heap.size) :
    NxS w1 W0 bn B5 n vs R R' x a b c true true false (some (.slice (some ⟨g, 0, none⟩) ((R x).length + 1) cap)) W' := by
  have hP := h.pre rfl
  have hxn : x ≠ n := by have := hP.len; omega
  have ho := hP.own x hx hxn
  obtain ⟨be, h1, h2⟩ := h.ed
  have hR1 : (R' x).length = (R x).length + 1 := by rw [hR]; simp
  refine ⟨h.b.grown hg hbn (fun j e => (ho.lt j e).1), h.bx.kept hg (fun e => own_not ho h.bx (by decide) e), ⟨be, h1, h2.grown hg (own_not ho h2 (by decide))⟩, (fun e => by cases e), Nat.le_trans h.sz2 hg.size, (fun _ e => by cases e), (fun e => by cases e), fun _ _ => ?_, (fun e => by cases e)⟩
  refine ⟨g, cap, by rw [hR1], hP.grown hx hg, ?_, fun s hs hsx => ?_⟩
  · rw [hR1, hR, List.map_append]; exact hown
  · have hos := hP.own s hs (by have := hP.len; omega)
    rcases hgw with e | e
    · exact ⟨fun j hj => by
        have : vs[x].ownBlock = some j := by rw [e]; simpa [Value.ownBlock] using hj
        exact hP.ne x s hx hs (fun e' => hsx e'.symm) j this, fun j hj hj2 => by
        have hj3 : g = j := by simpa [Value.ownBlock] using hj2
        exact hP.ne s x hs hx hsx j hj (by rw [e, hj3])⟩
    · exact ⟨fun j hj hj2 => by
        have hj3 : g = j := by simpa [Value.ownBlock] using hj
        have := (hos.lt j hj2).2; omega, fun j hj hj2 => by
        have hj3 : g = j := by simpa [Value.ownBlock] using hj2
        have := (hos.lt j hj).2; omega⟩
theorem NxS.store {d10 : Bool} {g cap : Nat} (h : NxS w1 W0 bn B5 n vs R R' x a b c d10 true false (some (.slice (some ⟨g, 0, none⟩) (R' x).length cap)) W) (hx : x < vs.length) (hR : ∀ s, s ≠ x → R' s = R s) :
    NxS w1 W0 bn B5 n vs R R' x a b c d10 true true (some (.slice (some ⟨g, 0, none⟩) (R' x).length cap)) (W.setCell ⟨bn, x, none⟩ (.slice (some ⟨g, 0, none⟩) (R' x).length cap)) := by
  obtain ⟨g', cap', hu, h1, h2, h3⟩ := h.mid rfl rfl
  cases hu
  obtain ⟨be, e1, e2⟩ := h.ed
  have hne : B5 ≠ bn := typed_ne (show W.heap[B5]? = _ from h.bx) (show W.heap[bn]? = _ from h1.hd) (by decide)
  refine ⟨h.b.setCell (p := ⟨bn, x, none⟩) (Nat.le_refl _) _, (Below.heap_setCell _ _ _ _ hne).trans h.bx, ⟨be, e1, e2.other _ (typed_ne e2 h1.hd (by decide))⟩, fun e => by rw [World.size_setCell]; exact h.sz e, by rw [World.size_setCell]; exact h.sz2, (fun _ e => by cases e), (fun e => by cases e), (fun _ e => by cases e), fun _ => ⟨_, rfl, h1.set hx h2 hR h3⟩⟩
end
end Go.Proofs.YtocbhlohcikapaaGreatDoor
namespace Go.Proofs.YtocbhlohcikapaaGreatDoor
open Go.RowKit Go.Sort

theorem nxs_snoc {es : List Ed} {k : Nat} (h : k < es.length) (s : Nat) : nxs (es.take (k + 1)) s = nxs (es.take k) s ++ (if es[k].f = (s : Int) then [es[k].t] else []) := by
  unfold nxs
  rw [List.take_succ_eq_append_getElem h, List.filter_append, List.map_append]
  congr 1
  by_cases e : es[k].f = (s : Int)
  · rw [if_pos e, List.filter_cons_of_pos (by simpa using e)]; rfl
  · rw [if_neg e, List.filter_cons_of_neg (by simpa using e)]; rfl
theorem nxs_len (es : List Ed) (s k : Nat) (h : es.length ≤ 1024) : (nxs (es.take k) s).length ≤ 1024 := by
  unfold nxs
  rw [List.length_map]
  exact Nat.le_trans (List.length_filter_le _ _) (by rw [List.length_take]; omega)
set_option maxRecDepth 100000 in
set_option maxHeartbeats 4000000 in
theorem reach_any (G : Gr) (p : Option Addr) (c s : Nat) (w : World) (hin : Sg 3 w edE p G.es) (hv : Vg G) (hs : (s : Int) < G.n) :
    Calls Tryz.prog 205 #[(.agg #[.int .i64 G.q, .int .i64 G.n, .slice p G.es.length c]), .int .i64 s] w fun e w' => ∃ b, e = .returned (.slice (some ⟨b, 0, none⟩) G.n.toNat G.n.toNat) ∧ w.heap.size ≤ b ∧ VRow w' b 4 ((rchA G s).map Value.bool) ∧ RowKit.Below w.heap.size w w' := by
  obtain ⟨i0, hi0, hz0, hz1, hz3⟩ := info_parts infoSg
  obtain ⟨i1, hi1, hy0, hy1, hy3⟩ := info_parts infoIg
  obtain ⟨i2, hi2, hx0, hx1, hx3⟩ := info_parts infoBg
  obtain ⟨w0, hw0⟩ : ∃ w0, w0 = w.alloc (.cells #[.int .i64 G.q, .int .i64 G.n, .slice p G.es.length c] 24) := ⟨_, rfl⟩
  have b0 : VRow w0 w.heap.size 24 [.int .i64 G.q, .int .i64 G.n, .slice p G.es.length c] := by subst hw0; exact VRow.new w _ _
  have hB0 : RowKit.Below w.heap.size w w0 := by subst hw0; exact (RowKit.Below.refl _ _).alloc (Nat.le_refl _) _
  have HIN := hidI (hin.below hB0)
  have HV := hidI hv
  obtain ⟨N, hN⟩ : ∃ N : Nat, G.n = N := ⟨G.n.toNat, by have := hv.n1; omega⟩
  have hN64 : N ≤ 64 := by have := hv.n2; omega
  have hNT : G.n.toNat = N := by omega
  have hsN : s < N := by omega
  have hlen := hv.len
  have g1 := b0.at 1 rfl
  rw [hN] at g1
  have HN := hidI hN
  rw [hNT]
  clear hin hv hs hN hNT
  go_enter Tryz.func205, Tryz.ntmps205
  go_upto_region 1 with fail
  rw [← hw0]
  clear hw0
  go_upto_region 2 with (at_make; refine wpList_make_full _ rfl _ _ 47 rfl w0.heap.size 30 i0 (.slice none 0 0) 1 Tryz.underlying47 hi0 hz0 hz1 .i64 .i64 _ _ N rfl rfl (by omega) (by omega) (by rw [hz3]; omega) (by unfold maxLen; omega) (Nat.le_refl _) ?_; intro w1 hown hgrow)
  have hn1 := made_rowZ (z := .slice none 0 0) rfl hown
  have hB1 : RowKit.Below w0.heap.size w0 w1 := (RowKit.Below.refl _ _).grown hgrow (Nat.le_refl _) (by simp)
  have hbl := hn1.lt
  obtain ⟨w2, hw2⟩ : ∃ w2, w2 = w1.alloc (.cells #[.slice (some ⟨w0.heap.size, 0, none⟩) N N] 47) := ⟨_, rfl⟩
  have hn2 : VRow w2 w0.heap.size 30 (List.replicate N (.slice none 0 0)) := by subst hw2; exact hn1.alloc _
  have hx2 : Boxed w2 w1.heap.size 47 (.slice (some ⟨w0.heap.size, 0, none⟩) N N) := by subst hw2; exact Boxed.new w1 _ _
  have hB2 : RowKit.Below w0.heap.size w0 w2 := by subst hw2; exact hB1.alloc hB1.size _
  obtain ⟨bn, hbn⟩ : ∃ bn, bn = w0.heap.size := ⟨_, rfl⟩
  obtain ⟨B5, hB5⟩ : ∃ B5, B5 = w1.heap.size := ⟨_, rfl⟩
  have hP : NxR w2 bn N (List.replicate N (.slice none 0 0)) (fun t => nxs (G.es.take 0) t) N := by
    rw [hbn]
    refine ⟨hn2, by simp, fun t ht _ => ?_, fun t u ht hu _ => ?_⟩
    · rw [List.getElem_replicate]; exact World.ownsRow_nil _ _ _ _
    · rw [List.getElem_replicate]; exact fun j hj => by cases hj
  rw [← hbn] at hn2 hx2 hB2
  rw [← hB5] at hx2
  have hw2' : w2 = w1.alloc (.cells #[.slice (some ⟨bn, 0, none⟩) N N] 47) := by rw [hbn]; exact hw2
  clear hw2
  have zb : w.heap.size < bn := by rw [hbn]; exact b0.lt
  have zn : bn < w2.heap.size := hn2.lt
  have b2 := b0.below hB2 zb
  have g2 := b2.at 2 rfl
  have HE := hidI (fun W (h : RowKit.Below bn w2 W) => HIN.out.below (show RowKit.Below w0.heap.size w0 W by rw [← hbn]; exact hB2.trans h))
  have HB2 := hidI b2
  have HB20 := hidI hB2
  have HBN := hidI hbn
  rw [← hbn, ← hB5, ← hw2']
  clear hown hgrow g1 hn1 hB1 hn2 hw2' hbl
  clear hbn hB5
  go_wp2
  clear g2
  go_loopw [16] (fun iv wr => ∃ (k : Nat) (vs : List Value), k ≤ G.es.length ∧ iv = .int .i64 k ∧ NxR wr bn N vs (fun t => nxs (G.es.take k) t) N ∧ Boxed wr B5 47 (.slice (some ⟨bn, 0, none⟩) N N) ∧ RowKit.Below bn w2 wr) (fun iv _ => G.es.length - (intOf iv).toNat)
  case atStart => exact ⟨0, _, by omega, rfl, hP, hx2, RowKit.Below.refl _ _⟩
  case round =>
    clear hP hx2 b2 hB2
    obtain ⟨k, vs, hk, rfl, hP, hbx, hB⟩ := hrel
    by_cases hlt : k < G.es.length
    · have hltI : (k : Int) < (G.es.length : Int) := by omega
      obtain ⟨b3, o3, rfl, hb3, e0, e1, e2⟩ := (HE.out wr hB).get3 k hlt rfl
      have hb := HV.out.ins _ (List.getElem_mem hlt)
      have hnl := nxs_len G.es
      have HSN := hidI (fun t => nxs_snoc hlt t)
      obtain ⟨x, hx⟩ : ∃ x, G.es[k] = x := ⟨_, rfl⟩
      rw [hx] at e0 e1 e2 hb HSN
      clear hx
      obtain ⟨f, hf⟩ : ∃ f : Nat, x.f = f := ⟨x.f.toNat, by omega⟩
      rw [HN.out] at hb
      rw [hf] at e0 hb
      have hfN : f < N := by omega
      have hfI : (f : Int) < (N : Int) := by omega
      have HSN2 : Hid (∀ t, nxs (G.es.take (k + 1)) t = if t = f then nxs (G.es.take k) f ++ [x.t] else nxs (G.es.take k) t) := fun t => by
        rw [HSN.out t, hf]
        by_cases e : t = f
        · subst e; rw [if_pos rfl, if_pos rfl]
        · rw [if_neg (fun e' => e (by omega)), if_neg e, List.append_nil]
      obtain ⟨be, hbe⟩ : ∃ be, be = wr.heap.size := ⟨_, rfl⟩
      obtain ⟨W0, hW0⟩ : ∃ W0, W0 = wr.alloc (.cells #[.int .i64 f, .int .i64 x.l, .int .i64 x.t] 44) := ⟨_, rfl⟩
      have hbnw := hB.size
      have hrow : VRow W0 be 44 [.int .i64 f, .int .i64 x.l, .int .i64 x.t] := by rw [hW0, hbe]; exact VRow.new wr _ _
      have hW0s : W0.heap.size = be + 1 := by rw [hW0, hbe, World.size_alloc]
      have hS0 : NxS w2 W0 bn B5 N vs (fun t => nxs (G.es.take k) t) (fun t => nxs (G.es.take (k + 1)) t) f f x.l x.t false false false none { W0 with drawn := W0.drawn + 1 } := by
        have hB' : RowKit.Below bn w2 W0 := by rw [hW0]; exact hB.alloc (by have := hB.size; omega) _
        have hx' : Boxed W0 B5 47 (.slice (some ⟨bn, 0, none⟩) N N) := by rw [hW0]; exact hbx.alloc _
        have hP' : NxR W0 bn N vs (fun t => nxs (G.es.take k) t) N := by rw [hW0]; exact hP.alloc _
        exact ⟨below_dN hB' 1, hx', ⟨be, hW0s, hrow⟩, fun _ => rfl, Nat.le_refl _, (fun e => by cases e), fun _ => ⟨hP'.hd, hP'.len, hP'.own, hP'.ne⟩, (fun e => by cases e), (fun e => by cases e)⟩
      have hfl : f < vs.length := by rw [hP.len]; exact hfN
      have hl1 := hnl f k (by omega)
      have HR1 : Hid (nxs (G.es.take (k + 1)) f = nxs (G.es.take k) f ++ [x.t]) := by rw [Hid, HSN2.out, if_pos rfl]
      have HR2 : Hid (∀ s, s ≠ f → nxs (G.es.take (k + 1)) s = nxs (G.es.take k) s) := fun s hs => by rw [HSN2.out, if_neg hs]
      have hbnW : ∀ W, RowKit.Below bn w2 W → bn ≤ W.heap.size := fun W hW => by have := hW.size; omega
      have HBW := hidI hbnW
      clear HSN hf hb hP hbx hB hrow hnl hbnW
      go_upto_region 5 with fail
      rw [← hW0, ← hbe]
      clear hW0 hbe e0 e1 e2
      refine region_detW (by kernel_rfl) 14 [(some 20, some (.slice (some ⟨bn, 0, none⟩) N N)), (some 21, some (.pointer (some ⟨be, 0, none⟩))), (some 22, some (.int .i64 f)), (some 23, some (.slice (some ⟨bn, 0, none⟩) N N)), (some 24, some (.pointer (some ⟨be, 0, none⟩))), (some 25, some (.int .i64 f)), (some 26, some (.pointer (some ⟨bn, f, none⟩))), (some 27, some (vs[f]'hfl)), (some 28, some (.pointer (some ⟨be, 2, none⟩))), (some 29, some (.int .i64 x.t)), (some 30, some (.slice (some ⟨W0.heap.size, 0, none⟩) 1 1)), (some 31, none), (some 32, some (.pointer (some ⟨bn, f, none⟩))), (none, none)]
        (fun d g W => NxS w2 W0 bn B5 N vs (fun t => nxs (G.es.take k) t) (fun t => nxs (G.es.take (k + 1)) t) f f x.l x.t (d 10) (d 11) (d 13) (g 31) W) (by kernel_rfl) (by kernel_rfl) (by kernel_rfl) (by kernel_rfl) hS0 ?_ ?_
      focus
        intro i o ho a d g W hS hdi hdn hnd hdep hout hold K hK
        have hil : i < 14 := (Array.getElem?_eq_some_iff.1 ho).1
        have hcases : i = 0 ∨ i = 1 ∨ i = 2 ∨ i = 3 ∨ i = 4 ∨ i = 5 ∨ i = 6 ∨ i = 7 ∨ i = 8 ∨ i = 9 ∨ i = 10 ∨ i = 11 ∨ i = 12 ∨ i = 13 := by omega
        clear hil
        have u5 := hout 5 (by kernel_rfl)
        have u7 := hout 7 (by kernel_rfl)
        simp at u5 u7
        clear hout
        rcases hcases with rfl | rfl | rfl | rfl | rfl | rfl | rfl | rfl | rfl | rfl | rfl | rfl | rfl | rfl
        all_goals (simp only [List.getElem?_toArray, List.getElem?_cons_succ, List.getElem?_cons_zero, Option.some.injEq] at ho; subst ho; simp [Region.binds] at hdep; (try go_split_ands))
        all_goals first
          | (go_simp; exact hK _ _ (fun u hu => Option.some.inj hu) hS)
          | (have hc0 := hS.bx.cell
             go_simp
             exact hK _ _ (fun u hu => Option.some.inj hu) hS)
          | (obtain ⟨be', hbe1, hed⟩ := hS.ed
             obtain rfl : be' = be := by omega
             have hc0 := hed.at 0 rfl
             have hc2 := hed.at 2 rfl
             go_simp
             exact hK _ _ (fun u hu => Option.some.inj hu) hS)
          | (have hP := hS.pre (hnd 11 (by kernel_rfl))
             have hc0 := hP.hd.at f (v := vs[f]'hfl) (List.getElem?_eq_getElem hfl)
             clear hP
             go_simp
             exact hK _ _ (fun u hu => Option.some.inj hu) hS)
          | (have e10 : d 10 = false := hdi
             have e11 := hnd 11 (by kernel_rfl)
             have e13 := hnd 13 (by kernel_rfl)
             have h := hS
             rw [e10, e11, e13] at h
             have hsz := h.sz rfl
             have hfin := h.alloc (HBW.out W h.b)
             clear h
             go_simp
             exact hK _ _ (fun u hu => by rw [← Option.some.inj hu, hW0s]) (by
               show NxS _ _ _ _ _ _ _ _ _ _ _ _ true (d 11) (d 13) (g 31) _
               rw [e11, e13]; exact hfin))
          | (have e11 : d 11 = false := hdi
             have e13 := hnd 13 (by kernel_rfl)
             have e10 : d 10 = true := hdn ⟨10, .data⟩ (by simp) rfl
             have h := hS
             rw [e10, e11, e13] at h
             have hP := h.pre rfl
             refine step_append_lies W rfl (.tmp 27) (.tmp 30) 30 rfl bn 3 i1 _ 1 8 Tryz.underlying30 hi1 hy0 hy1 hy3 rfl (by decide) (vs[f]'hfl) (nxs (G.es.take k) f).length ((nxs (G.es.take k) f).map (Value.int .i64)) (by simp [Act.eval, *]) (hP.own f hfl (by omega)) ⟨W0.heap.size, 0, none⟩ 1 1 [.int .i64 x.t] (by simp [Act.eval, *]) rfl (World.news_of_block (h.one rfl rfl)) (fun u hu => by obtain rfl := List.mem_singleton.1 hu; rfl) (by omega) (by simp [maxLen]; omega) (by omega) (HBW.out W h.b) _ rfl ?_
             intro g' cap w' hown' hgrow hgw _
             exact hK _ _ (fun u hu => by cases hu) (by
               show NxS _ _ _ _ _ _ _ _ _ _ _ _ (d 10) true (d 13) (some _) _
               rw [e10, e13]
               exact h.app hfl HR1.out hown' hgrow hgw (HBW.out W h.b)))
          | (have e11 : d 11 = true := hdn ⟨11, .data⟩ (by simp) rfl
             have e13 : d 13 = false := hdi
             have h := hS
             rw [e11, e13] at h
             obtain ⟨g', cap, hf31, hP, _, _⟩ := h.mid rfl rfl
             obtain ⟨v31, hv31, hat⟩ : ∃ v, g 31 = some v ∧ a.tmps[31]? = some v := by assumption
             rw [hf31] at hv31
             cases hv31
             have hc0 := hP.hd.at f (v := vs[f]'hfl) (List.getElem?_eq_getElem hfl)
             have hz0' := hP.hd.frozen f
             rw [hf31] at h
             have hfin := h.store hfl HR2.out
             have HF := hidI hf31
             clear hP hf31 h
             go_simp
             exact hK undef _ (fun u hu => by cases hu) (by
               show NxS _ _ _ _ _ _ _ _ _ _ _ _ (d 10) (d 11) true (g 31) _
               rw [e11, HF.out]; exact hfin))
          | fail
      intro d g W9 hS hall hf
      have e10 : d 10 = true := hall 10 (by decide)
      have e11 : d 11 = true := hall 11 (by decide)
      have e13 : d 13 = true := hall 13 (by decide)
      rw [e10, e11, e13] at hS
      obtain ⟨v9, _, hP⟩ := hS.fin rfl
      have hbx := hS.bx; have hB := hS.b
      simp only [putsD, List.filterMap_cons, List.filterMap_nil, Option.map_some, Option.map_none, Option.getD_some, Option.getD_none, List.foldl_cons, List.foldl_nil, Act.put, List.setIfInBounds_toArray, List.set_cons_zero, List.set_cons_succ]
      generalize (g 31).getD undef = v31
      clear hf hall hS e10 e11 e13
      go_wp2_with fail
      go_roundw
      case rel => exact ⟨k + 1, _, by omega, by go_num, hP, hbx, hB⟩
      case measure => simp [intOf]; omega
    · obtain rfl : k = G.es.length := by omega
      have hltI : ¬ (G.es.length : Int) < (G.es.length : Int) := by omega
      rw [List.take_length] at hP
      have b3 := HB2.out.below hB zb
      have f1 := b3.at 1 rfl
      rw [HN.out] at f1
      have HP := hidI hP; have HX := hidI hbx; have HB := hidI hB
      clear hP hbx hB b3
      go_upto_region 8 with (at_make; refine wpList_make_full _ rfl _ _ 90 rfl wr.heap.size 4 i2 (.bool false) 1 Tryz.underlying90 hi2 hx0 hx1 .i64 .i64 _ _ N rfl rfl (by omega) (by omega) (by rw [hx3]; omega) (by unfold maxLen; omega) (Nat.le_refl _) ?_; intro w5 hown hgrow)
      have hr5 := made_rowZ (z := .bool false) rfl hown
      have hB5' : RowKit.Below wr.heap.size wr w5 := (RowKit.Below.refl _ _).grown hgrow (Nat.le_refl _) (by simp)
      clear hown hgrow f1
      obtain ⟨bs, hbs⟩ : ∃ bs, bs = wr.heap.size := ⟨_, rfl⟩
      rw [← hbs] at hr5
      have hbsn : bn ≤ bs := by have := HB.out.size; omega
      have hP5 := NxR.keep HP.out hB5'
      have hx5 : Boxed w5 B5 47 (.slice (some ⟨bn, 0, none⟩) N N) := (hB5'.block B5 HX.out.lt).trans HX.out
      have hB6 := HB.out.trans (hB5'.mono (show bn ≤ wr.heap.size by omega))
      obtain ⟨v7, hv7⟩ : ∃ v, v = (w5.alloc (.cells #[.slice (some ⟨bs, 0, none⟩) N N] 90)).alloc (.cells #[.nilFunc] 237) := ⟨_, rfl⟩
      have k1 : Boxed v7 w5.heap.size 90 (.slice (some ⟨bs, 0, none⟩) N N) := by subst hv7; exact (Boxed.new w5 _ _).alloc _
      have k2 : VRow v7 (w5.heap.size + 1) 237 [.nilFunc] := by subst hv7; exact VRow.new1 w5 _ _ _
      have hB7 : RowKit.Below w5.heap.size w5 v7 := by subst hv7; exact ((RowKit.Below.refl _ _).alloc (Nat.le_refl _) _).alloc (by simp) _
      have hc9 := k2.at 0 rfl
      have hz9 := k2.frozen 0
      obtain ⟨vf, hvf⟩ : ∃ vf : Value, vf = .func (.func 229) #[] #[.pointer (some ⟨w5.heap.size, 0, none⟩), .pointer (some ⟨B5, 0, none⟩), .pointer (some ⟨w5.heap.size + 1, 0, none⟩)] := ⟨_, rfl⟩
      obtain ⟨v8, hv8⟩ : ∃ v, v = v7.setCell ⟨w5.heap.size + 1, 0, none⟩ vf := ⟨_, rfl⟩
      have k3 : VRow v8 (w5.heap.size + 1) 237 [vf] := by subst hv8; exact VRow.set (i := 0) vf k2
      have hB8 : RowKit.Below w5.heap.size v7 v8 := by subst hv8; exact (RowKit.Below.refl _ _).setCell (p := ⟨w5.heap.size + 1, 0, none⟩) (by simp) _
      have hB78 := hB7.trans hB8
      have k1' : Boxed v8 w5.heap.size 90 (.slice (some ⟨bs, 0, none⟩) N N) := by
        subst hv8; exact (Below.heap_setCell _ _ _ _ (by simp)).trans k1
      have hxx : Boxed v8 B5 47 (.slice (some ⟨bn, 0, none⟩) N N) := (hB78.block B5 hx5.lt).trans hx5
      have hP8 := NxR.keep hP5 hB78
      have hr8 : VRow v8 bs 4 (List.replicate N (.bool false)) := hr5.below hB78 hr5.lt
      have hM : VisM v8 w5.heap.size B5 (w5.heap.size + 1) bs bn N G.es := by
        refine ⟨k1', hxx, by rw [← hvf]; exact k3, ⟨_, _, hP8.hd⟩, fun t ht => ?_⟩
        have htl : t < vs.length := by rw [hP8.len]; exact ht
        have ho := hP8.own t htl (by omega)
        obtain ⟨q, c', hq, hsl⟩ := own_sl ho
        refine ⟨q, c', ?_, hsl, fun b o z hp => ?_⟩
        · rw [← hq]; exact hP8.hd.at t (List.getElem?_eq_getElem htl)
        · exact Lib.ownsRow_kind ho b (by rw [hq, hp]; rcases ho.2 with ⟨h0, _⟩ | ⟨g', cap, cur, h0, _⟩ <;> rw [hq, hp] at h0 <;> cases h0; rfl)
      have hxB := hB6.trans (hB78.mono (show bn ≤ w5.heap.size by have := hr5.lt; omega))
      have hVI := hidI (visit_any (es := G.es) (n := N) (B1 := w5.heap.size) (B2 := B5) (B3 := w5.heap.size + 1) (bs := bs) (bn := bn) (fun y hy => by have := HV.out.ins y hy; have := HN.out; omega) hlen hN64 (N + 1) (List.replicate N false) s v8 (by simp) hsN (on_rep _ _) (by rw [offs_rep]; omega) hM (by rw [List.map_replicate]; exact hr8))
      have HR8 : Hid (visA G.es (N + 1) (List.replicate N false) s = rchA G s) := by unfold Hid rchA; rw [show G.n.toNat = N by have := HN.out; omega]
      rw [HR8.out] at hVI
      have kf := k3.at 0 rfl
      have hv7' := hidI hv7.symm
      have hv8' := hidI hv8.symm
      have hvf' := hidI hvf.symm
      clear hP5 hx5 hB6 k1 k2 hB7 hB8 hB78 k3 hxx hP8 hM hv7 hv8 hr5
      go_upto_region 9 with fail
      rw [← hbs, hv7'.out]
      clear hbs
      go_upto_region 10 with fail
      rw [hvf'.out, hv8'.out]
      clear hc9 hz9
      have HXB := hidI hxB
      have HNE : Hid (w5.heap.size ≠ bs) := typed_ne k1' hr8 (by decide)
      have HBS : Hid (w.heap.size ≤ bs) := by unfold Hid; omega
      have hk1 := hidI k1'
      have zk := k1'.lt
      have HZB := hidI zb
      clear k1' hxB hr8
      go_wp2_with fail
      refine hVI.out.mono ?_
      rintro e w9 ⟨rfl, hr9, hk9, hB9⟩
      have kx := (hk9.boxed HNE.out hk1.out).cell
      clear kf
      go_wp2
      go_ret
      refine ⟨bs, rfl, HBS.out, hr9, ?_⟩
      have h8 := HXB.out.trans (hB9.mono (show bn ≤ bs by omega))
      have h2 := HB20.out.trans h8
      exact hB0.trans (RowKit.Below.mono (show RowKit.Below w0.heap.size w0 w9 by rw [← HBN.out]; exact h2) hB0.size)
end Go.Proofs.YtocbhlohcikapaaGreatDoor
namespace Go.Proofs.YtocbhlohcikapaaGreatDoor
open Go.RowKit Go.Sort

theorem fold_snoc (es : List Ed) (L : List Bool) (k : Nat) (h : k < es.length) : (es.take (k + 1)).foldl rndE L = rndE ((es.take k).foldl rndE L) es[k] := by
  rw [List.take_succ_eq_append_getElem h, List.foldl_append]; rfl
theorem fold_len (es : List Ed) (L : List Bool) : (es.foldl rndE L).length = L.length := rnd_len es L

set_option maxRecDepth 100000 in
set_option maxHeartbeats 2000000 in
theorem r10reached_any (G : Gr) (p : Option Addr) (c s : Nat) (w : World) (hin : Sg 3 w edE p G.es) (hv : Vg G) (hs : (s : Int) < G.n) :
    Calls Tryz.prog 177 #[(.agg #[.int .i64 G.q, .int .i64 G.n, .slice p G.es.length c]), .int .i64 s] w fun e w' => ∃ b, e = .returned (.slice (some ⟨b, 0, none⟩) G.n.toNat G.n.toNat) ∧ w.heap.size ≤ b ∧ VRow w' b 4 ((rchR G s).map Value.bool) ∧ RowKit.Below w.heap.size w w' := by
  obtain ⟨i2, hi2, hx0, hx1, hx3⟩ := info_parts infoBg
  obtain ⟨w0, hw0⟩ : ∃ w0, w0 = w.alloc (.cells #[.int .i64 G.q, .int .i64 G.n, .slice p G.es.length c] 24) := ⟨_, rfl⟩
  have b0 : VRow w0 w.heap.size 24 [.int .i64 G.q, .int .i64 G.n, .slice p G.es.length c] := by subst hw0; exact VRow.new w _ _
  have hB0 : RowKit.Below w.heap.size w w0 := by subst hw0; exact (RowKit.Below.refl _ _).alloc (Nat.le_refl _) _
  have HIN := hidI (hin.below hB0)
  have HB0 := hidI hB0
  have HV := hidI hv
  obtain ⟨N, hN⟩ : ∃ N : Nat, G.n = N := ⟨G.n.toNat, by have := hv.n1; omega⟩
  have hN64 : N ≤ 64 := by have := hv.n2; omega
  have hNT : G.n.toNat = N := by omega
  have hsN : s < N := by omega
  have hsI : (s : Int) < (N : Int) := by omega
  have hlen := hv.len
  have HR : Hid (rchR G s = rnds G.es N ((List.replicate N false).set s true)) := by unfold Hid rchR; rw [hNT]
  have g1 := b0.at 1 rfl
  rw [hN] at g1
  have HN := hidI hN
  rw [hNT]
  have hbl := b0.lt
  clear hin hv hs hN hNT hB0
  go_enter Tryz.func177, Tryz.ntmps177
  go_upto_region 1 with fail
  rw [← hw0]
  clear hw0
  go_upto_region 2 with (at_make; refine wpList_make_full _ rfl _ _ 90 rfl w0.heap.size 4 i2 (.bool false) 1 Tryz.underlying90 hi2 hx0 hx1 .i64 .i64 _ _ N rfl rfl (by omega) (by omega) (by rw [hx3]; omega) (by unfold maxLen; omega) (Nat.le_refl _) ?_; intro w5 hown hgrow)
  have hr5 := made_rowZ (z := .bool false) rfl hown
  have hB5 : RowKit.Below w0.heap.size w0 w5 := (RowKit.Below.refl _ _).grown hgrow (Nat.le_refl _) (by simp)
  clear hown hgrow g1
  obtain ⟨bs, hbs⟩ : ∃ bs, bs = w0.heap.size := ⟨_, rfl⟩
  rw [← hbs] at hr5 hB5 hbl
  rw [← hbs]
  have HBS := hidI hbs
  have k0 := hr5.at s (v := .bool false) (by simp [hsN])
  have z0 := hr5.frozen s
  have hr6 := VRow.set (i := s) (.bool true) hr5
  have hB6 := hB5.setCell (p := ⟨bs, s, none⟩) (Nat.le_refl _) (.bool true)
  rw [show (List.replicate N (Value.bool false)).set s (.bool true) = ((List.replicate N false).set s true).map Value.bool by rw [← List.map_replicate, List.map_set]] at hr6
  have hll : ((List.replicate N false).set s true).length = N := by simp
  generalize (List.replicate N false).set s true = L0 at *
  clear hbs hr5 hB5
  go_wp2_with fail
  clear k0 z0
  go_loopw [6] (fun iv wr => ∃ k : Nat, k ≤ N ∧ iv = .int .i64 k ∧ VRow wr bs 4 ((rnds G.es k L0).map Value.bool) ∧ RowKit.Below bs w0 wr) (fun iv _ => N - (intOf iv).toNat)
  case atStart => exact ⟨0, by omega, rfl, hr6, hB6⟩
  case round =>
    clear hr6 hB6
    obtain ⟨k, hk, rfl, hrow, hB⟩ := hrel
    have b1 := b0.below hB hbl
    have g1 := b1.at 1 rfl
    have g2 := b1.at 2 rfl
    rw [HN.out] at g1
    by_cases hlt : k < N
    · have hltI : (k : Int) < (N : Int) := by omega
      have HS : Hid (rnds G.es (k + 1) L0 = (G.es.take G.es.length).foldl rndE (rnds G.es k L0)) := by rw [Hid, List.take_length]; rfl
      have hLk : (rnds G.es k L0).length = N := by rw [rnds_len]; exact hll
      generalize rnds G.es k L0 = Lk at *
      go_wp2_with fail
      clear g1 g2 b1
      go_loopw [7] (fun jv wx => ∃ j : Nat, j ≤ G.es.length ∧ jv = .int .i64 j ∧ VRow wx bs 4 (((G.es.take j).foldl rndE Lk).map Value.bool) ∧ RowKit.Below bs w0 wx) (fun jv _ => G.es.length - (intOf jv).toNat)
      case atStart => exact ⟨0, by omega, rfl, hrow, hB⟩
      case round =>
        clear hrow hB
        obtain ⟨j, hj, rfl, hrow, hB⟩ := hrel
        have b1 := b0.below hB hbl
        have g2 := b1.at 2 rfl
        by_cases hlt2 : j < G.es.length
        · have hltI2 : (j : Int) < (G.es.length : Int) := by omega
          obtain ⟨b3, o3, rfl, hb3, e0, e1, e2⟩ := (HIN.out.below (by rw [← HBS.out]; exact hB)).get3 j hlt2 rfl
          have hins := HV.out.ins _ (List.getElem_mem hlt2)
          have HX := hidI (fold_snoc G.es Lk j hlt2)
          have hL : ((G.es.take j).foldl rndE Lk).length = N := by rw [fold_len]; exact hLk
          generalize (G.es.take j).foldl rndE Lk = L at *
          generalize G.es[j] = x at *
          obtain ⟨xf, xl, xt⟩ := x
          have hins : 0 ≤ xf ∧ 0 ≤ xl ∧ 0 ≤ xt ∧ xf < G.n ∧ xt < G.n ∧ xl < G.q := hins
          have hNo := HN.out
          obtain ⟨F, rfl⟩ : ∃ F : Nat, xf = F := ⟨xf.toNat, by omega⟩
          obtain ⟨T, rfl⟩ : ∃ T : Nat, xt = T := ⟨xt.toNat, by omega⟩
          have e0 : wr.cell? ⟨b3, o3 + j * 3, none⟩ = some (.int .i64 (F : Int)) := e0
          have e2 : wr.cell? ⟨b3, o3 + j * 3 + 2, none⟩ = some (.int .i64 (T : Int)) := e2
          have hF : F < N := by omega
          have hT : T < N := by omega
          have hFI : (F : Int) < (N : Int) := by omega
          have hTI : (T : Int) < (N : Int) := by omega
          have k3 := hrow.at F (v := .bool (L.getD F false)) (by simp [hL, hF, List.getD])
          have k4 := hrow.at T (v := .bool (L.getD T false)) (by simp [hL, hT, List.getD])
          have z4 := hrow.frozen T
          cases hb : L.getD F false
          · have HX2 : Hid ((G.es.take (j + 1)).foldl rndE Lk = L) := by rw [Hid, HX.out]; exact if_neg (show ¬ L.getD F false = true by rw [hb]; decide)
            rw [hb] at k3
            clear HX hb hins hNo
            go_wp2
            go_roundw
            case rel => exact ⟨j + 1, by omega, by go_num, by rw [HX2.out]; exact hrow, hB⟩
            case measure => simp [intOf]; omega
          · have HX2 : Hid ((G.es.take (j + 1)).foldl rndE Lk = L.set T true) := by rw [Hid, HX.out]; exact if_pos hb
            rw [hb] at k3
            have hrow2 := VRow.set (i := T) (.bool true) hrow
            have hB2 := hB.setCell (p := ⟨bs, T, none⟩) (Nat.le_refl _) (.bool true)
            clear HX hb hins hNo
            go_wp2
            go_roundw
            case rel => exact ⟨j + 1, by omega, by go_num, by rw [HX2.out, List.map_set]; exact hrow2, hB2⟩
            case measure => simp [intOf]; omega
        · have hltI2 : ¬ (j : Int) < (G.es.length : Int) := by omega
          obtain rfl : j = G.es.length := by omega
          go_wp2
          go_roundw
          case rel => exact ⟨k + 1, by omega, by go_num, by rw [HS.out]; exact hrow, hB⟩
          case measure => simp [intOf]; omega
    · have hltI : ¬ (k : Int) < (N : Int) := by omega
      obtain rfl : k = N := by omega
      go_wp2
      go_ret
      exact ⟨bs, rfl, by omega, by rw [HR.out]; exact hrow, HB0.out.trans (hB.mono (by omega))⟩
end Go.Proofs.YtocbhlohcikapaaGreatDoor
namespace Go.Proofs.YtocbhlohcikapaaGreatDoor
open Go Go.RowKit

section
variable {F : Fence} {n : Nat} {P : Program}
/-- How the body of a round is left. -/
def rowsPost {α : Type} (B : Nat) (Kp : World → World → Prop) (I : List α → World → Prop) (xs : List α) (W : World) : Exit → Act → World → Prop
  | .normal, _, W' => KeepsFrom B W W' ∧ Kp W W' ∧ I xs W'
  | _, _, _ => False
/-- What is asked of the function: it yields elements of which Px holds; what the body's invariant says stands while only new memory is made. -/
def SeqRows {α : Type} (F : Fence) (n : Nat) (P : Program) (g : Nat) (lb : Array Value) (encs : α → Array Value) (Px : α → World → Prop) (Kp : World → World → Prop) (S : List α → Prop) (N : Nat) (w : World) : Prop :=
  ∀ (l : Nat) (J : List α → World → Prop) (W : World), Below w.heap.size w W → (∀ xs V V', J xs V → Below V.heap.size V V' → J xs V') →
    (∀ pre x V, J pre V → Px x V → pre.length < N → YieldAt F (n - 1) P l (encs x) V fun e V' => e = .returned (.bool true) ∧ J (pre ++ [x]) V' ∧ Kp V V') →
    J [] W → CallsIn F n P g (#[.func (.yield l) #[] #[]] ++ lb) W fun e V => (∃ v, e = .returned v) ∧ ∃ xs, S xs ∧ J xs V
theorem wpIn_rows {α : Type} {g : Operand} {ps : Array Tmp} {assign body : Code} {Q : Exit → Act → World → Prop} {a : Act} {w : World} (hro : F.round = none) (h1 : 1 ≤ n) {gf : Nat} {lb : Array Value}
    (hg : a.eval g = .func (.func gf) #[] lb) (hFg : F.fn gf) (eg : ∀ args w, (callFunc gf args).run P w = .ok (.enter gf args) w)
    {encs : α → Array Value} {Px : α → World → Prop} {Kp : World → World → Prop} {S : List α → Prop} {N : Nat} (hseq : SeqRows F (n - 1) P gf lb encs Px Kp S N w) (hps : ∀ x, (encs x).size = ps.size)
    (hKt : ∀ {A B C : World}, Kp A B → Kp B C → Kp A C) (hKb : ∀ (W : World) (l : Nat) (o o' : Obj), w.heap.size ≤ l → W.heap[l]? = some o → o.isCells = false → Kp W (W.putObj l o'))
    (I : List α → World → Prop) (hI : OwnFrom w.heap.size I) (hPx : OwnFrom w.heap.size Px) (hIb : ∀ xs V V', I xs V → Below V.heap.size V V' → I xs V') (h0 : I [] w) (a1 : α → Act)
    (hassign : ∀ (l : Nat) (x : α) (W : World) (K : Act → World → Prop), K (a1 x) W →
      assign.wpIn (F.inRound l) (n - 1 - 1) P (Exit.then K (fun _ _ _ => False)) { tmps := (ps.zip (encs x)).foldl (fun t (p, v) => t.setIfInBounds p v) a.tmps, defers := [] } W)
    (hbody : ∀ (l : Nat) (pre : List α) (x : α) (W : World), w.heap.size ≤ l → I pre W → Px x W → pre.length < N → body.wpIn (F.inRound l) (n - 1 - 1) P (rowsPost w.heap.size Kp I (pre ++ [x]) W) (a1 x) W)
    (hdone : ∀ (D : Nat) (xs : List α) (W : World), w.heap.size ≤ D → S xs → I xs W → W.heap[D]? = some (.deferred (some [])) → Q .normal { a with defers := { target := .collected D, args := #[] } :: a.defers } W) :
    (Code.rangeFunc g ps assign body).wpIn F n P Q a w := by
  refine wpIn_rangeFunc fun fn hfn => ?_
  rw [hro]
  -- the two blocks of the loop's own: the calls that it defers, and its record
  let rec_ : LoopState → Option Code → Loop := fun st pe => { state := st, pending := pe, fn, tmps := a.tmps, params := ps, assign, body, defers := w.heap.size }
  obtain ⟨rc, hrc⟩ : ∃ rc, rc = rec_ := ⟨_, rfl⟩
  obtain ⟨V1, hV1⟩ : ∃ V1, (w.alloc (.deferred (some []))).alloc (.loop (rc .ready none)) = V1 := ⟨_, rfl⟩
  have eL : V1.heap[w.heap.size + 1]? = some (.loop (rc .ready none)) := by
    have := World.alloc_heap_new (w.alloc (.deferred (some []))) (.loop (rc .ready none))
    rw [World.size_alloc, hV1] at this; exact this
  have eD : V1.heap[w.heap.size]? = some (.deferred (some [])) := by rw [← hV1]; exact (Below.heap_alloc _ _ _ (by simp)).trans (World.alloc_heap_new w _)
  have eI : I [] V1 := by rw [← hV1]; exact hI.alloc _ (hI.alloc _ h0)
  have eB : Below w.heap.size w V1 := by rw [← hV1]; exact ((Below.refl _ w).alloc (Nat.le_refl _) _).alloc (by simp) _
  refine ⟨w.heap.size + 1, [{ target := .collected w.heap.size, args := #[] }], V1, { target := .fn (.func gf) lb, args := #[.func (.yield (w.heap.size + 1)) #[] #[]] }, V1, gf, #[.func (.yield (w.heap.size + 1)) #[] #[]] ++ lb, V1, ?_, ?_, ?_, ?_, fun _ => h1, ?_⟩
  · rw [← hV1, hrc]; exact run_enterLoop_outer _ _ _ _ _
  · simp only [resolve, hg]
    simp [go_sem]
  · intro f' hf'; simp [Target.leads] at hf'; subst hf'; exact hFg
  · simp [invoke, go_sem, eg]
  · refine (hseq (w.heap.size + 1) (fun xs V => I xs V ∧ V.heap[w.heap.size + 1]? = some (.loop (rc .ready none)) ∧ V.heap[w.heap.size]? = some (.deferred (some []))) V1 eB
      (fun xs V V' h hB => ⟨hIb xs V V' h.1 hB, (hB.block _ (Array.getElem?_eq_some_iff.1 h.2.1).1).trans h.2.1, (hB.block _ (Array.getElem?_eq_some_iff.1 h.2.2).1).trans h.2.2⟩) ?_ ⟨eI, eL, eD⟩).mono ?_
    · rintro pre x V ⟨hi, hl, hd⟩ hx hN
      have hlt : w.heap.size + 1 < V.heap.size := (Array.getElem?_eq_some_iff.1 hl).1
      have hy := run_yield (P := P) (args := encs x) hl (by rw [hrc]; exact hps x)
      rw [hrc] at hy
      refine ⟨fn, _, assign, body, hy, roundIn_of_wpIn hfn (hassign _ x V _ ⟨_, run_beginRound hl (by rw [hrc]), ?_⟩)⟩
      clear hy
      obtain ⟨V2, hV2⟩ : ∃ V2, V2 = V.putObj (w.heap.size + 1) (.loop { rc .ready none with state := .busy }) := ⟨_, rfl⟩
      have l2 : V2.heap[w.heap.size + 1]? = some (.loop { rc .ready none with state := .busy }) := by rw [hV2]; exact World.putObj_heap_same hlt
      have d2 : V2.heap[w.heap.size]? = some (.deferred (some [])) := by rw [hV2]; exact (World.putObj_heap_other (by omega)).trans hd
      have k2 : Kp V V2 := by rw [hV2]; exact hKb _ _ _ _ (by omega) hl rfl
      have i2 : I pre V2 := by rw [hV2]; exact hI.putObj _ hi (by omega) hl rfl
      have x2 : Px x V2 := by rw [hV2]; exact hPx.putObj _ hx (by omega) hl rfl
      rw [← hV2]
      refine wpIn_mono (hbody _ pre x V2 (by omega) i2 x2 hN) ?_
      intro e a3 V3 hp
      cases e with
      | normal =>
        obtain ⟨kf, kp, i3⟩ := hp
        have l3 := kf.same _ _ (by omega) l2 rfl
        have d3 := kf.same _ _ (Nat.le_refl _) d2 rfl
        have hr := run_endRound (P := P) none l3
        rw [hrc] at hr l3
        refine ⟨_, _, hr, rfl, ⟨hI.putObj _ i3 (by omega) l3 rfl, by rw [hrc]; exact World.putObj_heap_same (Array.getElem?_eq_some_iff.1 l3).1, (World.putObj_heap_other (by omega)).trans d3⟩, hKt (hKt k2 kp) (hKb _ _ _ _ (by omega) l3 rfl)⟩
      | ret => exact hp.elim
      | exit id => exact hp.elim
      | goto t => exact hp.elim
      | panic ch => exact hp.elim
      | outgrown => exact hp.elim
    · rintro e V3 ⟨⟨v, rfl⟩, xs, hS, hi, hl, hd⟩
      have hr := run_endLoop (P := P) hl (by rw [hrc]; simp [rec_])
      rw [hrc] at hr
      exact ⟨none, _, hr, hdone _ xs _ (Nat.le_refl _) hS (hI.putObj _ hi (by omega) hl rfl) ((World.putObj_heap_other (by omega)).trans hd)⟩
end
end Go.Proofs.YtocbhlohcikapaaGreatDoor
