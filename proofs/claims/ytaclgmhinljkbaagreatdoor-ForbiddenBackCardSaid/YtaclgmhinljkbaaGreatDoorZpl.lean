/-
  Words, plain lemmas and walks, merged: Dv, Eg, Eh, Ei, Ej.
-/
import Derived.Test.YtaclgmhinljkbaaGreatDoorZpk
import Derived.Test.YtaclgmhinljkbaaGreatDoorZph
import Derived.Deep.AppendLies
set_option linter.unusedVariables false
set_option linter.unusedSimpArgs false
namespace Go.Proofs.YtaclgmhinljkbaaGreatDoor
open Go

section
variable {P : Program} {ops : Array Oper} {Q : Exit → Act → World → Prop}
/-- Operation j waits for operation i, or is it. -/
def depB (ops : Array Oper) : Nat → Nat → Nat → Bool
  | 0, i, j => decide (i = j)
  | fuel + 1, i, j => decide (i = j) || ((ops[j]?).map (fun o => o.after.any fun e => Region.binds .any e && depB ops fuel i e.on)).getD false
/-- What stands in a frame under way, with what is not done yet. -/
structure InvX (ops : Array Oper) (vals : Nat → Value) (c : Nat) (S : Bool → World → Prop) (l : Array Bool) (f : Nat → Option Value) (W : World) : Prop where
  sz : l.size = ops.size
  st : S (l.getD c false) W
  dom : ∀ t, t ∉ dstsD ops → f t = none
  val : ∀ i o t, ops[i]? = some o → o.dst = some t → l.getD i false = true → f t = some (vals i)
  old : ∀ i o t, ops[i]? = some o → o.dst = some t → l.getD i false = false → f t = none
  cl : ∀ i o, ops[i]? = some o → l.getD i false = true → ∀ e ∈ o.after, Region.binds .any e = true → l.getD e.on false = true
theorem dep_done {l : Array Bool} (cl : ∀ i o, ops[i]? = some o → l.getD i false = true → ∀ e ∈ o.after, Region.binds .any e = true → l.getD e.on false = true) : ∀ (fuel i j : Nat), depB ops fuel i j = true → l.getD j false = true → l.getD i false = true
  | 0, i, j, h, k => by
    obtain rfl := of_decide_eq_true h
    exact k
  | fuel + 1, i, j, h, k => by
    unfold depB at h
    rw [Bool.or_eq_true] at h
    rcases h with h | h
    · obtain rfl := of_decide_eq_true h
      exact k
    · cases ho : ops[j]? with
      | none => rw [ho] at h; cases h
      | some o =>
        rw [ho] at h
        simp only [Option.map_some, Option.getD_some, Array.any_eq_true] at h
        obtain ⟨m, hm, h1⟩ := h
        rw [Bool.and_eq_true] at h1
        exact dep_done cl fuel i _ h1.2 (cl j o ho k _ (Array.getElem_mem hm) h1.1)
theorem getD_setN {l : Array Bool} {i j : Nat} (hij : j ≠ i) : (l.setIfInBounds i true).getD j false = l.getD j false := by
  by_cases hj : j < l.size
  · simp [Array.getD, hj, Ne.symm hij]
  · simp [Array.getD, hj]
theorem getD_setI {l : Array Bool} {i : Nat} (hi : i < l.size) : (l.setIfInBounds i true).getD i false = true := by simp [Array.getD, hi]
theorem getD_ff {l : Array Bool} {i : Nat} (h : l.getD i true = false) : l.getD i false = false := by
  obtain ⟨hi, he⟩ := getD_falseD h
  simp [Array.getD, hi, he]
theorem region_detX {id : Nat} {A : Act} {w : World} (hm : P.follows .mixedOrders = true) (vals : Nat → Value) (c fuel : Nat) (S : Bool → World → Prop)
    (hd : ((List.range ops.size).all fun i => ((ops[i]?).map (·.after.all fun e => decide (e.on < i))).getD true) = true)
    (hn : (dstsD ops).Nodup) (hlt : (dstsD ops).all (fun t => decide (t < A.tmps.size)) = true)
    (h0 : S false { w with drawn := w.drawn + 1 })
    (hstep : ∀ (i : Nat) (o : Oper), ops[i]? = some o → ∀ (a : Act) (W : World) (b : Bool), S b W → (i = c → b = false) → a.tmps.size = A.tmps.size →
      (∀ e ∈ o.after, Region.binds .any e = true → ∀ o', ops[e.on]? = some o' → ∀ t, o'.dst = some t → a.tmps[t]? = some (vals e.on)) →
      (∀ t, t ∉ dstsD ops → a.tmps[t]? = A.tmps[t]?) →
      (∀ j o', depB ops fuel i j = true → ops[j]? = some o' → ∀ t, o'.dst = some t → a.tmps[t]? = A.tmps[t]?) →
      ∀ K : Act → World → Prop, (∀ W', S (if i = c then true else b) W' → K (a.put o.dst (vals i)) W') → if Region.wanted o (yielded ops a.tmps) = true then Oper.wp P o a W K Q else K (a.put o.dst undef) W)
    (hend : ∀ f W b, S b W → (c < ops.size → b = true) → (∀ t, t ∉ dstsD ops → f t = none) → (∀ i o t, ops[i]? = some o → o.dst = some t → f t = some (vals i)) → Q .normal (frD A f) W) :
    (Code.region id ops true).wp P Q A w := by
  refine wp_region_any hm (wpAny_invD (fun l a W => ∃ f, a = frD A f ∧ InvX ops vals c S l f W) ?_ ?_ _ _ _ _ ?_ ?_)
  · rintro l a W i ⟨f, rfl, hI⟩ hi
    obtain ⟨h1, h2, h3⟩ := mem_readyD.1 hi
    obtain ⟨hl, he⟩ := getD_falseD h2
    have hff := getD_ff h2
    have ho : ops[i]? = some ops[i] := Array.getElem?_eq_getElem h1
    have hrdy : ∀ e ∈ ops[i].after, Region.binds .any e = true → l.getD e.on false = true := by
      intro e he' hb
      unfold rdyAtD at h3
      rw [ho] at h3
      simp only [Option.map_some, Option.getD_some, Array.all_eq_true] at h3
      obtain ⟨k, hk, rfl⟩ := Array.mem_iff_getElem.1 he'
      have := h3 k hk
      rw [Bool.or_eq_true] at this
      rcases this with h5 | h5
      · rw [hb] at h5; cases h5
      · exact h5
    refine wpOp_step ho (fun K hK => ?_)
    refine hstep i ops[i] ho (frD A f) W (l.getD c false) hI.st (fun e => by subst e; exact hff) (by simp [frD]) ?_ ?_ ?_ K ?_
    · intro e he' hb o' hoe t hdt
      have hv := hI.val e.on o' t hoe hdt (hrdy e he' hb)
      have ht : t < A.tmps.size := by
        have := List.all_eq_true.1 hlt t (by unfold dstsD; exact List.mem_filterMap.2 ⟨o', by have := Array.mem_of_getElem? hoe; simpa using this, hdt⟩)
        exact of_decide_eq_true this
      simp only [frD, Array.getElem?_mapIdx, hv, Option.getD_some]
      rw [Array.getElem?_eq_getElem ht]; rfl
    · intro t ht
      simp only [frD, Array.getElem?_mapIdx, hI.dom t ht, Option.getD_none]
      cases A.tmps[t]? <;> rfl
    · intro j o' hdep hj t hdt
      have hnj : l.getD j false = false := by
        cases hx : l.getD j false with
        | false => rfl
        | true =>
          have := dep_done hI.cl fuel i j hdep hx
          rw [hff] at this; cases this
      simp only [frD, Array.getElem?_mapIdx, hI.old j o' t hj hdt hnj, Option.getD_none]
      cases A.tmps[t]? <;> rfl
    · intro W' hS
      refine hK _ _ ⟨(match ops[i].dst with | some t => fun k => if k = t then some (vals i) else f k | none => f), ?_, ?_⟩
      · cases hx : ops[i].dst with
        | none => exact fr_put0D _
        | some t => exact fr_putD t _
      · refine ⟨by simpa using hI.sz, ?_, ?_, ?_, ?_, ?_⟩
        · by_cases hic : i = c
          · subst hic
            rw [if_pos rfl] at hS
            rw [getD_setI hl]; exact hS
          · rw [if_neg hic] at hS
            rw [getD_setN (fun e => hic e.symm)]; exact hS
        · intro t ht
          cases hx : ops[i].dst with
          | none => exact hI.dom t ht
          | some t' =>
            have : t ≠ t' := by
              rintro rfl
              exact ht (by unfold dstsD; exact List.mem_filterMap.2 ⟨ops[i], by simp, hx⟩)
            show (if t = t' then _ else f t) = none
            rw [if_neg this]; exact hI.dom t ht
        · intro j o t hoj hdt hdone
          by_cases hij : j = i
          · subst hij
            rw [ho] at hoj
            cases hoj
            rw [hdt]
            show (if t = t then some (vals j) else f t) = _
            rw [if_pos rfl]
          · rw [getD_setN hij] at hdone
            have hv := hI.val j o t hoj hdt hdone
            cases hx : ops[i].dst with
            | none => exact hv
            | some t' =>
              show (if t = t' then some (vals i) else f t) = _
              have : t ≠ t' := by
                rintro rfl
                exact hij (dst_uniqD hn hoj ho hdt hx)
              rw [if_neg this]; exact hv
        · intro j o t hoj hdt hnd
          by_cases hij : j = i
          · subst hij
            rw [getD_setI hl] at hnd; cases hnd
          · rw [getD_setN hij] at hnd
            have hv := hI.old j o t hoj hdt hnd
            cases hx : ops[i].dst with
            | none => exact hv
            | some t' =>
              show (if t = t' then some (vals i) else f t) = _
              have : t ≠ t' := by
                rintro rfl
                exact hij (dst_uniqD hn hoj ho hdt hx)
              rw [if_neg this]; exact hv
        · intro j o hoj hdone e he' hb
          by_cases hij : j = i
          · subst hij
            rw [ho] at hoj
            cases hoj
            exact getD_setD (hrdy e he' hb)
          · rw [getD_setN hij] at hdone
            exact getD_setD (hI.cl j o hoj hdone e he' hb)
  · rintro l a W ⟨f, rfl, hI⟩ hr
    have hall := ready_nilD hI.sz hd hr
    refine hend f W _ hI.st (fun hc => hall c hc) hI.dom (fun i o t ho ht => hI.val i o t ho ht (hall i ?_))
    exact (Array.getElem?_eq_some_iff.1 ho).1
  · rw [Array.toList_replicate]
    exact Nat.le_trans List.count_le_length (by simp)
  · have hff : ∀ i, (Array.replicate ops.size false).getD i false = false := fun i => by
      by_cases hjl : i < ops.size <;> simp [Array.getD, hjl]
    exact ⟨_, (fr_noneD A).symm, by simp, by rw [hff]; exact h0, fun _ _ => rfl, (fun i o t ho ht hx => by rw [hff] at hx; cases hx), fun _ _ _ _ _ _ => rfl, (fun i o ho hx => by rw [hff] at hx; cases hx)⟩

/-- As region_detX, with a list of what the slots hold: for a region each of whose operations has a slot. -/
theorem region_detY {id : Nat} {A : Act} {w : World} (hm : P.follows .mixedOrders = true) (c fuel : Nat) (L : List (Nat × Value)) (S : Bool → World → Prop)
    (hL : L.map (fun p => some p.1) = ops.toList.map (·.dst))
    (hd : ((List.range ops.size).all fun i => ((ops[i]?).map (·.after.all fun e => decide (e.on < i))).getD true) = true)
    (hnb : decide (L.map (·.1)).Nodup = true) (hlt : (L.map (·.1)).all (fun t => decide (t < A.tmps.size)) = true)
    (h0 : S false { w with drawn := w.drawn + 1 })
    (hstep : ∀ (i : Nat) (o : Oper), ops[i]? = some o → ∀ (a : Act) (W : World) (b : Bool), S b W → (i = c → b = false) →
      (∀ e ∈ o.after, Region.binds .any e = true → ∀ p, L[e.on]? = some p → a.tmps[p.1]? = some p.2) →
      (∀ t, (L.map (·.1)).contains t = false → a.tmps[t]? = A.tmps[t]?) →
      (∀ j, depB ops fuel i j = true → ∀ p, L[j]? = some p → a.tmps[p.1]? = A.tmps[p.1]?) →
      ∀ K : Act → World → Prop, (∀ W', S (if i = c then true else b) W' → K (a.put o.dst ((L[i]?.map (·.2)).getD undef)) W') → if Region.wanted o (yielded ops a.tmps) = true then Oper.wp P o a W K Q else K (a.put o.dst undef) W)
    (hend : ∀ W b, S b W → (c < ops.size → b = true) → Q .normal (putsD A L) W) :
    (Code.region id ops true).wp P Q A w := by
  have hn := of_decide_eq_true hnb
  have hlen : L.length = ops.size := by
    have := congrArg List.length hL
    simpa using this
  have hdst : dstsD ops = L.map (·.1) := by
    unfold dstsD
    have h1 : ∀ (l : List Oper) (M : List (Nat × Value)), M.map (fun p => some p.1) = l.map (·.dst) → l.filterMap (·.dst) = M.map (·.1) := by
      intro l
      induction l with
      | nil => intro M h; cases M with
        | nil => rfl
        | cons p M => simp at h
      | cons o l ih =>
        intro M h
        cases M with
        | nil => simp at h
        | cons p M =>
          simp only [List.map_cons, List.cons.injEq] at h
          rw [List.filterMap_cons, ← h.1, ih M h.2]; rfl
    exact h1 _ _ hL
  have hdp : ∀ (j : Nat) (p : Nat × Value), L[j]? = some p → ∃ o, ops[j]? = some o ∧ o.dst = some p.1 := by
    intro j p hp
    have hjl : j < ops.size := by rw [← hlen]; exact (List.getElem?_eq_some_iff.1 hp).1
    refine ⟨ops[j], Array.getElem?_eq_getElem hjl, ?_⟩
    have h1 := congrArg (fun l => l[j]?) hL
    simp only [List.getElem?_map] at h1
    rw [hp, show ops.toList[j]? = some ops[j] by rw [Array.getElem?_toList]; exact Array.getElem?_eq_getElem hjl] at h1
    simpa using h1.symm
  refine region_detX hm (fun i => (L[i]?.map (·.2)).getD undef) c fuel S hd (by rw [hdst]; exact hn) (by rw [hdst]; exact hlt) h0 ?_ ?_
  · intro i o ho a W b hS hc hz hdep hout hold K hK
    refine hstep i o ho a W b hS hc ?_ (fun t ht => hout t (by rw [hdst]; intro hm; rw [List.contains_iff_mem.2 hm] at ht; cases ht)) ?_ K hK
    · intro e he hb p hp
      obtain ⟨o', ho', hdt⟩ := hdp e.on p hp
      have := hdep e he hb _ ho' p.1 hdt
      rw [this]
      show some ((L[e.on]?.map (·.2)).getD undef) = _
      rw [hp]; rfl
    · intro j hj p hp
      obtain ⟨o', ho', hdt⟩ := hdp j p hp
      exact hold j o' hj ho' p.1 hdt
  · intro f W b hS hb hout hval
    have hf : f = L.foldl updD (fun _ => none) := by
      funext t
      by_cases ht : t ∈ L.map (·.1)
      · obtain ⟨i, hi, he⟩ := List.mem_iff_getElem.1 ht
        have hi' : i < L.length := by simpa using hi
        have h1 := updD_in L (fun _ => none) i hi' hn
        have e2 : L[i].1 = t := by simpa using he
        rw [e2] at h1
        rw [h1]
        obtain ⟨o', ho', hdt⟩ := hdp i _ (List.getElem?_eq_getElem hi')
        have := hval i _ t ho' (by rw [← e2]; exact hdt)
        rw [this, List.getElem?_eq_getElem hi']; rfl
      · rw [hout t (by rw [hdst]; exact ht), updD_out L _ t ht]
    have := hend W b hS hb
    have e : L.foldl (fun a p => a.put (some p.1) p.2) (frD A (fun _ => none)) = frD A f := by rw [putsD_fr, ← hf]
    rw [fr_noneD] at e
    unfold putsD at this
    rw [e] at this
    exact this
end
/-! ### Regions of which some values are not known ahead -/
/-- What an operation is known to yield. -/
def kn (L : List (Nat × Option Value)) (i : Nat) : Option Value := (L[i]?).bind (·.2)
def updZ (f : Nat → Option Value) (d : Option Nat) (v : Value) : Nat → Option Value := match d with
  | some t => fun k => if k = t then some v else f k
  | none => f
section
variable {P : Program} {ops : Array Oper} {Q : Exit → Act → World → Prop}
structure InvZ (ops : Array Oper) (L : List (Nat × Option Value)) (S : (Nat → Option Value) → World → Prop) (l : Array Bool) (f : Nat → Option Value) (W : World) : Prop where
  sz : l.size = ops.size
  st : S f W
  dom : ∀ t, t ∉ dstsD ops → f t = none
  val : ∀ i o t, ops[i]? = some o → o.dst = some t → l.getD i false = true → ∃ v, f t = some v ∧ ∀ u, kn L i = some u → v = u
  old : ∀ i o t, ops[i]? = some o → o.dst = some t → l.getD i false = false → f t = none
  cl : ∀ i o, ops[i]? = some o → l.getD i false = true → ∀ e ∈ o.after, Region.binds .any e = true → l.getD e.on false = true
theorem region_detZ0 {id : Nat} {A : Act} {w : World} (hm : P.follows .mixedOrders = true) (L : List (Nat × Option Value)) (fuel : Nat) (S : (Nat → Option Value) → World → Prop)
    (hd : ((List.range ops.size).all fun i => ((ops[i]?).map (·.after.all fun e => decide (e.on < i))).getD true) = true)
    (hn : (dstsD ops).Nodup) (hlt : (dstsD ops).all (fun t => decide (t < A.tmps.size)) = true)
    (h0 : S (fun _ => none) { w with drawn := w.drawn + 1 })
    (hstep : ∀ (i : Nat) (o : Oper), ops[i]? = some o → ∀ (a : Act) (f : Nat → Option Value) (W : World), S f W → a.tmps.size = A.tmps.size →
      (∀ e ∈ o.after, Region.binds .any e = true → ∀ o', ops[e.on]? = some o' → ∀ t, o'.dst = some t → ∃ v, f t = some v ∧ a.tmps[t]? = some v ∧ ∀ u, kn L e.on = some u → v = u) →
      (∀ t, t ∉ dstsD ops → a.tmps[t]? = A.tmps[t]?) →
      (∀ j o', depB ops fuel i j = true → ops[j]? = some o' → ∀ t, o'.dst = some t → f t = none ∧ a.tmps[t]? = A.tmps[t]?) →
      ∀ K : Act → World → Prop, (∀ v W', (∀ u, kn L i = some u → v = u) → S (updZ f o.dst v) W' → K (a.put o.dst v) W') → if Region.wanted o (yielded ops a.tmps) = true then Oper.wp P o a W K Q else K (a.put o.dst undef) W)
    (hend : ∀ f W, S f W → (∀ t, t ∉ dstsD ops → f t = none) → (∀ i o t, ops[i]? = some o → o.dst = some t → ∃ v, f t = some v ∧ ∀ u, kn L i = some u → v = u) → Q .normal (frD A f) W) :
    (Code.region id ops true).wp P Q A w := by
  refine wp_region_any hm (wpAny_invD (fun l a W => ∃ f, a = frD A f ∧ InvZ ops L S l f W) ?_ ?_ _ _ _ _ ?_ ?_)
  · rintro l a W i ⟨f, rfl, hI⟩ hi
    obtain ⟨h1, h2, h3⟩ := mem_readyD.1 hi
    obtain ⟨hl, he⟩ := getD_falseD h2
    have hff := getD_ff h2
    have ho : ops[i]? = some ops[i] := Array.getElem?_eq_getElem h1
    have hrdy : ∀ e ∈ ops[i].after, Region.binds .any e = true → l.getD e.on false = true := by
      intro e he' hb
      unfold rdyAtD at h3
      rw [ho] at h3
      simp only [Option.map_some, Option.getD_some, Array.all_eq_true] at h3
      obtain ⟨k, hk, rfl⟩ := Array.mem_iff_getElem.1 he'
      have := h3 k hk
      rw [Bool.or_eq_true] at this
      rcases this with h5 | h5
      · rw [hb] at h5; cases h5
      · exact h5
    refine wpOp_step ho (fun K hK => ?_)
    refine hstep i ops[i] ho (frD A f) f W hI.st (by simp [frD]) ?_ ?_ ?_ K ?_
    · intro e he' hb o' hoe t hdt
      obtain ⟨v, hv, hu⟩ := hI.val e.on o' t hoe hdt (hrdy e he' hb)
      have ht : t < A.tmps.size := by
        have := List.all_eq_true.1 hlt t (by unfold dstsD; exact List.mem_filterMap.2 ⟨o', by have := Array.mem_of_getElem? hoe; simpa using this, hdt⟩)
        exact of_decide_eq_true this
      refine ⟨v, hv, ?_, hu⟩
      simp only [frD, Array.getElem?_mapIdx, hv, Option.getD_some]
      rw [Array.getElem?_eq_getElem ht]; rfl
    · intro t ht
      simp only [frD, Array.getElem?_mapIdx, hI.dom t ht, Option.getD_none]
      cases A.tmps[t]? <;> rfl
    · intro j o' hdep hj t hdt
      have hnj : l.getD j false = false := by
        cases hx : l.getD j false with
        | false => rfl
        | true =>
          have := dep_done hI.cl fuel i j hdep hx
          rw [hff] at this; cases this
      have hN := hI.old j o' t hj hdt hnj
      refine ⟨hN, ?_⟩
      simp only [frD, Array.getElem?_mapIdx, hN, Option.getD_none]
      cases A.tmps[t]? <;> rfl
    · intro v W' hu hS
      refine hK _ _ ⟨updZ f ops[i].dst v, ?_, ?_⟩
      · cases hx : ops[i].dst with
        | none => exact fr_put0D _
        | some t => exact fr_putD t _
      · refine ⟨by simpa using hI.sz, hS, ?_, ?_, ?_, ?_⟩
        · intro t ht
          cases hx : ops[i].dst with
          | none => exact hI.dom t ht
          | some t' =>
            have : t ≠ t' := by
              rintro rfl
              exact ht (by unfold dstsD; exact List.mem_filterMap.2 ⟨ops[i], by simp, hx⟩)
            show (if t = t' then _ else f t) = none
            rw [if_neg this]; exact hI.dom t ht
        · intro j o t hoj hdt hdone
          by_cases hij : j = i
          · subst hij
            rw [ho] at hoj
            cases hoj
            rw [hdt]
            exact ⟨v, by show (if t = t then some v else f t) = _; rw [if_pos rfl], hu⟩
          · rw [getD_setN hij] at hdone
            have hv := hI.val j o t hoj hdt hdone
            cases hx : ops[i].dst with
            | none => exact hv
            | some t' =>
              have : t ≠ t' := by
                rintro rfl
                exact hij (dst_uniqD hn hoj ho hdt hx)
              show ∃ v', (if t = t' then some v else f t) = some v' ∧ _
              rw [if_neg this]; exact hv
        · intro j o t hoj hdt hnd
          by_cases hij : j = i
          · subst hij
            rw [getD_setI hl] at hnd; cases hnd
          · rw [getD_setN hij] at hnd
            have hv := hI.old j o t hoj hdt hnd
            cases hx : ops[i].dst with
            | none => exact hv
            | some t' =>
              show (if t = t' then some v else f t) = _
              have : t ≠ t' := by
                rintro rfl
                exact hij (dst_uniqD hn hoj ho hdt hx)
              rw [if_neg this]; exact hv
        · intro j o hoj hdone e he' hb
          by_cases hij : j = i
          · subst hij
            rw [ho] at hoj
            cases hoj
            exact getD_setD (hrdy e he' hb)
          · rw [getD_setN hij] at hdone
            exact getD_setD (hI.cl j o hoj hdone e he' hb)
  · rintro l a W ⟨f, rfl, hI⟩ hr
    have hall := ready_nilD hI.sz hd hr
    refine hend f W hI.st hI.dom (fun i o t ho ht => hI.val i o t ho ht (hall i ?_))
    exact (Array.getElem?_eq_some_iff.1 ho).1
  · rw [Array.toList_replicate]
    exact Nat.le_trans List.count_le_length (by simp)
  · have hff : ∀ i, (Array.replicate ops.size false).getD i false = false := fun i => by
      by_cases hjl : i < ops.size <;> simp [Array.getD, hjl]
    exact ⟨_, (fr_noneD A).symm, by simp, h0, fun _ _ => rfl, (fun i o t ho ht hx => by rw [hff] at hx; cases hx), fun _ _ _ _ _ _ => rfl, (fun i o ho hx => by rw [hff] at hx; cases hx)⟩

/-- As region_detY, where the list says which values are known ahead; what is assumed may speak of the slots written. -/
theorem region_detZ {id : Nat} {A : Act} {w : World} (hm : P.follows .mixedOrders = true) (fuel : Nat) (L : List (Nat × Option Value)) (S : (Nat → Option Value) → World → Prop)
    (hL : L.map (fun p => some p.1) = ops.toList.map (·.dst))
    (hd : ((List.range ops.size).all fun i => ((ops[i]?).map (·.after.all fun e => decide (e.on < i))).getD true) = true)
    (hnb : decide (L.map (·.1)).Nodup = true) (hlt : (L.map (·.1)).all (fun t => decide (t < A.tmps.size)) = true)
    (h0 : S (fun _ => none) { w with drawn := w.drawn + 1 })
    (hstep : ∀ (i : Nat) (o : Oper), ops[i]? = some o → ∀ (a : Act) (f : Nat → Option Value) (W : World), S f W →
      (∀ e ∈ o.after, Region.binds .any e = true → ∀ p, L[e.on]? = some p → ∃ v, f p.1 = some v ∧ a.tmps[p.1]? = some v ∧ ∀ u, p.2 = some u → v = u) →
      (∀ t, (L.map (·.1)).contains t = false → a.tmps[t]? = A.tmps[t]?) →
      (∀ j, depB ops fuel i j = true → ∀ p, L[j]? = some p → f p.1 = none ∧ a.tmps[p.1]? = A.tmps[p.1]?) →
      ∀ K : Act → World → Prop, (∀ v W', (∀ u, kn L i = some u → v = u) → S (updZ f o.dst v) W' → K (a.put o.dst v) W') → if Region.wanted o (yielded ops a.tmps) = true then Oper.wp P o a W K Q else K (a.put o.dst undef) W)
    (hend : ∀ f W, S f W → (∀ p ∈ L, ∃ v, f p.1 = some v ∧ ∀ u, p.2 = some u → v = u) → Q .normal (putsD A (L.map (fun p => (p.1, p.2.getD ((f p.1).getD undef))))) W) :
    (Code.region id ops true).wp P Q A w := by
  have hn := of_decide_eq_true hnb
  have hlen : L.length = ops.size := by
    have := congrArg List.length hL
    simpa using this
  have hdst : dstsD ops = L.map (·.1) := by
    unfold dstsD
    have h1 : ∀ (l : List Oper) (M : List (Nat × Option Value)), M.map (fun p => some p.1) = l.map (·.dst) → l.filterMap (·.dst) = M.map (·.1) := by
      intro l
      induction l with
      | nil => intro M h; cases M with
        | nil => rfl
        | cons p M => simp at h
      | cons o l ih =>
        intro M h
        cases M with
        | nil => simp at h
        | cons p M =>
          simp only [List.map_cons, List.cons.injEq] at h
          rw [List.filterMap_cons, ← h.1, ih M h.2]; rfl
    exact h1 _ _ hL
  have hdp : ∀ (j : Nat) (p : Nat × Option Value), L[j]? = some p → ∃ o, ops[j]? = some o ∧ o.dst = some p.1 := by
    intro j p hp
    have hjl : j < ops.size := by rw [← hlen]; exact (List.getElem?_eq_some_iff.1 hp).1
    refine ⟨ops[j], Array.getElem?_eq_getElem hjl, ?_⟩
    have h1 := congrArg (fun l => l[j]?) hL
    simp only [List.getElem?_map] at h1
    rw [hp, show ops.toList[j]? = some ops[j] by rw [Array.getElem?_toList]; exact Array.getElem?_eq_getElem hjl] at h1
    simpa using h1.symm
  have hkn : ∀ (j : Nat) (p : Nat × Option Value), L[j]? = some p → kn L j = p.2 := fun j p hp => by unfold kn; rw [hp]; rfl
  refine region_detZ0 hm L fuel S hd (by rw [hdst]; exact hn) (by rw [hdst]; exact hlt) h0 ?_ ?_
  · intro i o ho a f W hS hz hdep hout hold K hK
    refine hstep i o ho a f W hS ?_ (fun t ht => hout t (by rw [hdst]; intro hm; rw [List.contains_iff_mem.2 hm] at ht; cases ht)) ?_ K hK
    · intro e he hb p hp
      obtain ⟨o', ho', hdt⟩ := hdp e.on p hp
      obtain ⟨v, h1, h2, h3⟩ := hdep e he hb _ ho' p.1 hdt
      rw [hkn e.on p hp] at h3
      exact ⟨v, h1, h2, h3⟩
    · intro j hj p hp
      obtain ⟨o', ho', hdt⟩ := hdp j p hp
      exact hold j o' hj ho' p.1 hdt
  · intro f W hS hout hval
    have hp : ∀ p ∈ L, ∃ v, f p.1 = some v ∧ ∀ u, p.2 = some u → v = u := by
      intro p hp
      obtain ⟨j, hj, rfl⟩ := List.mem_iff_getElem.1 hp
      obtain ⟨o', ho', hdt⟩ := hdp j _ (List.getElem?_eq_getElem hj)
      obtain ⟨v, h1, h2⟩ := hval j o' _ ho' hdt
      rw [hkn j _ (List.getElem?_eq_getElem hj)] at h2
      exact ⟨v, h1, h2⟩
    have hM : (L.map (fun p => (p.1, p.2.getD ((f p.1).getD undef)))).map (·.1) = L.map (·.1) := by rw [List.map_map]; rfl
    have hf : f = (L.map (fun p => (p.1, p.2.getD ((f p.1).getD undef)))).foldl updD (fun _ => none) := by
      funext t
      by_cases ht : t ∈ L.map (·.1)
      · obtain ⟨i, hi, he⟩ := List.mem_iff_getElem.1 ht
        have hi' : i < L.length := by simpa using hi
        have hi2 : i < (L.map (fun p => (p.1, p.2.getD ((f p.1).getD undef)))).length := by simpa using hi'
        have h1 := updD_in (L.map (fun p => (p.1, p.2.getD ((f p.1).getD undef)))) (fun _ => none) i hi2 (by rw [hM]; exact hn)
        have e2 : L[i].1 = t := by simpa using he
        simp only [List.getElem_map] at h1
        rw [e2] at h1
        rw [h1]
        obtain ⟨v, hv, hu⟩ := hp L[i] (List.getElem_mem hi')
        rw [e2] at hv
        rw [hv]
        cases hx : L[i].2 with
        | none => rfl
        | some u => rw [hu u hx]; rfl
      · rw [hout t (by rw [hdst]; exact ht), updD_out _ _ t (by rw [hM]; exact ht)]
    have := hend f W hS hp
    have e : (L.map (fun p => (p.1, p.2.getD ((f p.1).getD undef)))).foldl (fun a p => a.put (some p.1) p.2) (frD A (fun _ => none)) = frD A f := by rw [putsD_fr, ← hf]
    rw [fr_noneD] at e
    unfold putsD at this
    rw [e] at this
    exact this
end
/-! ### Regions of which some operations have no slot -/
def knW (L : List (Option Nat × Option Value)) (i : Nat) : Option Value := (L[i]?).bind (·.2)
def updB (d : Nat → Bool) (i : Nat) : Nat → Bool := fun k => if k = i then true else d k
section
variable {P : Program} {ops : Array Oper} {Q : Exit → Act → World → Prop}
structure InvW (ops : Array Oper) (L : List (Option Nat × Option Value)) (S : (Nat → Bool) → (Nat → Option Value) → World → Prop) (l : Array Bool) (f : Nat → Option Value) (W : World) : Prop where
  sz : l.size = ops.size
  st : S (fun k => l.getD k false) f W
  dom : ∀ t, t ∉ dstsD ops → f t = none
  val : ∀ i o t, ops[i]? = some o → o.dst = some t → l.getD i false = true → ∃ v, f t = some v ∧ ∀ u, knW L i = some u → v = u
  old : ∀ i o t, ops[i]? = some o → o.dst = some t → l.getD i false = false → f t = none
  cl : ∀ i o, ops[i]? = some o → l.getD i false = true → ∀ e ∈ o.after, Region.binds .any e = true → l.getD e.on false = true
theorem region_detW0 {id : Nat} {A : Act} {w : World} (hm : P.follows .mixedOrders = true) (L : List (Option Nat × Option Value)) (fuel : Nat) (S : (Nat → Bool) → (Nat → Option Value) → World → Prop)
    (hd : ((List.range ops.size).all fun i => ((ops[i]?).map (·.after.all fun e => decide (e.on < i))).getD true) = true)
    (hn : (dstsD ops).Nodup) (hlt : (dstsD ops).all (fun t => decide (t < A.tmps.size)) = true)
    (h0 : S (fun _ => false) (fun _ => none) { w with drawn := w.drawn + 1 })
    (hstep : ∀ (i : Nat) (o : Oper), ops[i]? = some o → ∀ (a : Act) (d : Nat → Bool) (f : Nat → Option Value) (W : World), S d f W → d i = false → (∀ e ∈ o.after, Region.binds .any e = true → d e.on = true) → (∀ j, depB ops fuel i j = true → d j = false) → a.tmps.size = A.tmps.size →
      (∀ e ∈ o.after, Region.binds .any e = true → ∀ o', ops[e.on]? = some o' → ∀ t, o'.dst = some t → ∃ v, f t = some v ∧ a.tmps[t]? = some v ∧ ∀ u, knW L e.on = some u → v = u) →
      (∀ t, t ∉ dstsD ops → a.tmps[t]? = A.tmps[t]?) →
      (∀ j o', depB ops fuel i j = true → ops[j]? = some o' → ∀ t, o'.dst = some t → f t = none ∧ a.tmps[t]? = A.tmps[t]?) →
      ∀ K : Act → World → Prop, (∀ v W', (∀ u, knW L i = some u → v = u) → S (updB d i) (updZ f o.dst v) W' → K (a.put o.dst v) W') → if Region.wanted o (yielded ops a.tmps) = true then Oper.wp P o a W K Q else K (a.put o.dst undef) W)
    (hend : ∀ d f W, S d f W → (∀ i, i < ops.size → d i = true) → (∀ t, t ∉ dstsD ops → f t = none) → (∀ i o t, ops[i]? = some o → o.dst = some t → ∃ v, f t = some v ∧ ∀ u, knW L i = some u → v = u) → Q .normal (frD A f) W) :
    (Code.region id ops true).wp P Q A w := by
  refine wp_region_any hm (wpAny_invD (fun l a W => ∃ f, a = frD A f ∧ InvW ops L S l f W) ?_ ?_ _ _ _ _ ?_ ?_)
  · rintro l a W i ⟨f, rfl, hI⟩ hi
    obtain ⟨h1, h2, h3⟩ := mem_readyD.1 hi
    obtain ⟨hl, he⟩ := getD_falseD h2
    have hff := getD_ff h2
    have ho : ops[i]? = some ops[i] := Array.getElem?_eq_getElem h1
    have hrdy : ∀ e ∈ ops[i].after, Region.binds .any e = true → l.getD e.on false = true := by
      intro e he' hb
      unfold rdyAtD at h3
      rw [ho] at h3
      simp only [Option.map_some, Option.getD_some, Array.all_eq_true] at h3
      obtain ⟨k, hk, rfl⟩ := Array.mem_iff_getElem.1 he'
      have := h3 k hk
      rw [Bool.or_eq_true] at this
      rcases this with h5 | h5
      · rw [hb] at h5; cases h5
      · exact h5
    refine wpOp_step ho (fun K hK => ?_)
    refine hstep i ops[i] ho (frD A f) (fun k => l.getD k false) f W hI.st hff hrdy ?_ (by simp [frD]) ?_ ?_ ?_ K ?_
    · intro j hj
      show l.getD j false = false
      cases hx : l.getD j false with
      | false => rfl
      | true =>
        have := dep_done hI.cl fuel i j hj hx
        rw [hff] at this; cases this
    · intro e he' hb o' hoe t hdt
      obtain ⟨v, hv, hu⟩ := hI.val e.on o' t hoe hdt (hrdy e he' hb)
      have ht : t < A.tmps.size := by
        have := List.all_eq_true.1 hlt t (by unfold dstsD; exact List.mem_filterMap.2 ⟨o', by have := Array.mem_of_getElem? hoe; simpa using this, hdt⟩)
        exact of_decide_eq_true this
      refine ⟨v, hv, ?_, hu⟩
      simp only [frD, Array.getElem?_mapIdx, hv, Option.getD_some]
      rw [Array.getElem?_eq_getElem ht]; rfl
    · intro t ht
      simp only [frD, Array.getElem?_mapIdx, hI.dom t ht, Option.getD_none]
      cases A.tmps[t]? <;> rfl
    · intro j o' hdep hj t hdt
      have hnj : l.getD j false = false := by
        cases hx : l.getD j false with
        | false => rfl
        | true =>
          have := dep_done hI.cl fuel i j hdep hx
          rw [hff] at this; cases this
      have hN := hI.old j o' t hj hdt hnj
      refine ⟨hN, ?_⟩
      simp only [frD, Array.getElem?_mapIdx, hN, Option.getD_none]
      cases A.tmps[t]? <;> rfl
    · intro v W' hu hS
      refine hK _ _ ⟨updZ f ops[i].dst v, ?_, ?_⟩
      · cases hx : ops[i].dst with
        | none => exact fr_put0D _
        | some t => exact fr_putD t _
      · have hfun : updB (fun k => l.getD k false) i = fun k => (l.setIfInBounds i true).getD k false := by
          funext k
          unfold updB
          by_cases hk : k = i
          · rw [if_pos hk, hk, getD_setI hl]
          · rw [if_neg hk, getD_setN hk]
        refine ⟨by simpa using hI.sz, by rw [← hfun]; exact hS, ?_, ?_, ?_, ?_⟩
        · intro t ht
          cases hx : ops[i].dst with
          | none => exact hI.dom t ht
          | some t' =>
            have : t ≠ t' := by
              rintro rfl
              exact ht (by unfold dstsD; exact List.mem_filterMap.2 ⟨ops[i], by simp, hx⟩)
            show (if t = t' then _ else f t) = none
            rw [if_neg this]; exact hI.dom t ht
        · intro j o t hoj hdt hdone
          by_cases hij : j = i
          · subst hij
            rw [ho] at hoj
            cases hoj
            rw [hdt]
            exact ⟨v, by show (if t = t then some v else f t) = _; rw [if_pos rfl], hu⟩
          · rw [getD_setN hij] at hdone
            have hv := hI.val j o t hoj hdt hdone
            cases hx : ops[i].dst with
            | none => exact hv
            | some t' =>
              have : t ≠ t' := by
                rintro rfl
                exact hij (dst_uniqD hn hoj ho hdt hx)
              show ∃ v', (if t = t' then some v else f t) = some v' ∧ _
              rw [if_neg this]; exact hv
        · intro j o t hoj hdt hnd
          by_cases hij : j = i
          · subst hij
            rw [getD_setI hl] at hnd; cases hnd
          · rw [getD_setN hij] at hnd
            have hv := hI.old j o t hoj hdt hnd
            cases hx : ops[i].dst with
            | none => exact hv
            | some t' =>
              show (if t = t' then some v else f t) = _
              have : t ≠ t' := by
                rintro rfl
                exact hij (dst_uniqD hn hoj ho hdt hx)
              rw [if_neg this]; exact hv
        · intro j o hoj hdone e he' hb
          by_cases hij : j = i
          · subst hij
            rw [ho] at hoj
            cases hoj
            exact getD_setD (hrdy e he' hb)
          · rw [getD_setN hij] at hdone
            exact getD_setD (hI.cl j o hoj hdone e he' hb)
  · rintro l a W ⟨f, rfl, hI⟩ hr
    have hall := ready_nilD hI.sz hd hr
    refine hend _ f W hI.st hall hI.dom (fun i o t ho ht => hI.val i o t ho ht (hall i ?_))
    exact (Array.getElem?_eq_some_iff.1 ho).1
  · rw [Array.toList_replicate]
    exact Nat.le_trans List.count_le_length (by simp)
  · have hff : ∀ i, (Array.replicate ops.size false).getD i false = false := fun i => by
      by_cases hjl : i < ops.size <;> simp [Array.getD, hjl]
    exact ⟨_, (fr_noneD A).symm, by simp, (by rw [show (fun k => (Array.replicate ops.size false).getD k false) = fun _ => false from funext hff]; exact h0), fun _ _ => rfl, (fun i o t ho ht hx => by rw [hff] at hx; cases hx), fun _ _ _ _ _ _ => rfl, (fun i o ho hx => by rw [hff] at hx; cases hx)⟩

/-- As region_detZ, where operations may have no slot; what is assumed may speak of what is done. -/
theorem region_detW {id : Nat} {A : Act} {w : World} (hm : P.follows .mixedOrders = true) (fuel : Nat) (L : List (Option Nat × Option Value)) (S : (Nat → Bool) → (Nat → Option Value) → World → Prop)
    (hL : L.map (·.1) = ops.toList.map (·.dst))
    (hd : ((List.range ops.size).all fun i => ((ops[i]?).map (·.after.all fun e => decide (e.on < i))).getD true) = true)
    (hnb : decide (L.filterMap (·.1)).Nodup = true) (hlt : (L.filterMap (·.1)).all (fun t => decide (t < A.tmps.size)) = true)
    (h0 : S (fun _ => false) (fun _ => none) { w with drawn := w.drawn + 1 })
    (hstep : ∀ (i : Nat) (o : Oper), ops[i]? = some o → ∀ (a : Act) (d : Nat → Bool) (f : Nat → Option Value) (W : World), S d f W → d i = false → (∀ e ∈ o.after, Region.binds .any e = true → d e.on = true) → (∀ j, depB ops fuel i j = true → d j = false) →
      (∀ e ∈ o.after, Region.binds .any e = true → ∀ p, L[e.on]? = some p → ∀ t, p.1 = some t → ∃ v, f t = some v ∧ a.tmps[t]? = some v ∧ ∀ u, p.2 = some u → v = u) →
      (∀ t, (L.filterMap (·.1)).contains t = false → a.tmps[t]? = A.tmps[t]?) →
      (∀ j, depB ops fuel i j = true → ∀ p, L[j]? = some p → ∀ t, p.1 = some t → f t = none ∧ a.tmps[t]? = A.tmps[t]?) →
      ∀ K : Act → World → Prop, (∀ v W', (∀ u, knW L i = some u → v = u) → S (updB d i) (updZ f o.dst v) W' → K (a.put o.dst v) W') → if Region.wanted o (yielded ops a.tmps) = true then Oper.wp P o a W K Q else K (a.put o.dst undef) W)
    (hend : ∀ d f W, S d f W → (∀ i, i < ops.size → d i = true) → (∀ p ∈ L, ∀ t, p.1 = some t → ∃ v, f t = some v ∧ ∀ u, p.2 = some u → v = u) → Q .normal (putsD A (L.filterMap (fun (p : Option Nat × Option Value) => p.1.map (fun t => (t, p.2.getD ((f t).getD undef)))))) W) :
    (Code.region id ops true).wp P Q A w := by
  have hn := of_decide_eq_true hnb
  have hlen : L.length = ops.size := by
    have := congrArg List.length hL
    simpa using this
  have hdst : dstsD ops = L.filterMap (·.1) := by
    unfold dstsD
    have e1 : ops.toList.filterMap (·.dst) = (ops.toList.map (·.dst)).filterMap _root_.id := by rw [List.filterMap_map]; rfl
    have e2 : L.filterMap (·.1) = (L.map (·.1)).filterMap _root_.id := by rw [List.filterMap_map]; rfl
    rw [e1, e2, hL]
  have hdp : ∀ (j : Nat) (p : Option Nat × Option Value), L[j]? = some p → ∃ o, ops[j]? = some o ∧ o.dst = p.1 := by
    intro j p hp
    have hjl : j < ops.size := by rw [← hlen]; exact (List.getElem?_eq_some_iff.1 hp).1
    refine ⟨ops[j], Array.getElem?_eq_getElem hjl, ?_⟩
    have h1 := congrArg (fun l => l[j]?) hL
    simp only [List.getElem?_map] at h1
    rw [hp, show ops.toList[j]? = some ops[j] by rw [Array.getElem?_toList]; exact Array.getElem?_eq_getElem hjl] at h1
    simpa using h1.symm
  have hkn : ∀ (j : Nat) (p : Option Nat × Option Value), L[j]? = some p → knW L j = p.2 := fun j p hp => by unfold knW; rw [hp]; rfl
  refine region_detW0 hm L fuel S hd (by rw [hdst]; exact hn) (by rw [hdst]; exact hlt) h0 ?_ ?_
  · intro i o ho a d f W hS hdi hdn hnd hz hdep hout hold K hK
    refine hstep i o ho a d f W hS hdi hdn hnd ?_ (fun t ht => hout t (by rw [hdst]; intro hm; rw [List.contains_iff_mem.2 hm] at ht; cases ht)) ?_ K hK
    · intro e he hb p hp t ht
      obtain ⟨o', ho', hdt⟩ := hdp e.on p hp
      obtain ⟨v, h1, h2, h3⟩ := hdep e he hb _ ho' t (hdt.trans ht)
      rw [hkn e.on p hp] at h3
      exact ⟨v, h1, h2, h3⟩
    · intro j hj p hp t ht
      obtain ⟨o', ho', hdt⟩ := hdp j p hp
      exact hold j o' hj ho' t (hdt.trans ht)
  · intro d f W hS hall hout hval
    have hp : ∀ p ∈ L, ∀ t, p.1 = some t → ∃ v, f t = some v ∧ ∀ u, p.2 = some u → v = u := by
      intro p hp t ht
      obtain ⟨j, hj, rfl⟩ := List.mem_iff_getElem.1 hp
      obtain ⟨o', ho', hdt⟩ := hdp j _ (List.getElem?_eq_getElem hj)
      obtain ⟨v, h1, h2⟩ := hval j o' t ho' (hdt.trans ht)
      rw [hkn j _ (List.getElem?_eq_getElem hj)] at h2
      exact ⟨v, h1, h2⟩
    have hM : (L.filterMap (fun (p : Option Nat × Option Value) => p.1.map (fun t => (t, p.2.getD ((f t).getD undef))))).map (·.1) = L.filterMap (·.1) := by
      rw [List.map_filterMap]
      congr 1
      funext p
      cases p.1 <;> rfl
    have hf : f = (L.filterMap (fun (p : Option Nat × Option Value) => p.1.map (fun t => (t, p.2.getD ((f t).getD undef))))).foldl updD (fun _ => none) := by
      funext t
      by_cases ht : t ∈ L.filterMap (·.1)
      · have ht2 := ht
        rw [← hM] at ht2
        obtain ⟨i, hi, he⟩ := List.mem_iff_getElem.1 ht2
        have hi2 : i < (L.filterMap (fun (p : Option Nat × Option Value) => p.1.map (fun t => (t, p.2.getD ((f t).getD undef))))).length := by simpa using hi
        have h1 := updD_in (L.filterMap (fun (p : Option Nat × Option Value) => p.1.map (fun t => (t, p.2.getD ((f t).getD undef))))) (fun _ => none) i hi2 (by rw [hM]; exact hn)
        have hm2 := List.getElem_mem hi2
        have he2 : (L.filterMap (fun (p : Option Nat × Option Value) => p.1.map (fun t => (t, p.2.getD ((f t).getD undef)))))[i].1 = t := by simpa using he
        rw [he2] at h1
        rw [h1]
        obtain ⟨p, hpL, hpe⟩ := List.mem_filterMap.1 hm2
        cases hp1 : p.1 with
        | none => rw [hp1] at hpe; cases hpe
        | some t' =>
          rw [hp1] at hpe
          simp only [Option.map_some, Option.some.injEq] at hpe
          have ett : t' = t := by rw [← he2, ← hpe]
          subst ett
          obtain ⟨v, hv, hu⟩ := hp p hpL t' hp1
          rw [← hpe, hv]
          cases hx : p.2 with
          | none => rfl
          | some u => rw [hu u hx]; rfl
      · rw [hout t (by rw [hdst]; exact ht), updD_out _ _ t (by rw [hM]; exact ht)]
    have := hend d f W hS hall hp
    have e : (L.filterMap (fun (p : Option Nat × Option Value) => p.1.map (fun t => (t, p.2.getD ((f t).getD undef))))).foldl (fun a p => a.put (some p.1) p.2) (frD A (fun _ => none)) = frD A f := by rw [putsD_fr, ← hf]
    rw [fr_noneD] at e
    unfold putsD at this
    rw [e] at this
    exact this
end
end Go.Proofs.YtaclgmhinljkbaaGreatDoor
namespace Go.Proofs.YtaclgmhinljkbaaGreatDoor
open Go.RowKit

/-- The letters that can follow a word, of the first k. -/
def leK (G : Gr) (u : ByteArray) (k : Nat) : List UInt8 := ((List.range k).filter (fun a => accA G (wdA u a))).map ltC
theorem leK_yes {G : Gr} {u : ByteArray} {k : Nat} (h : accA G (wdA u k) = true) : leK G u (k + 1) = leK G u k ++ [ltC k] := by
  unfold leK; rw [List.range_succ, List.filter_append]; simp [h]
theorem leK_no {G : Gr} {u : ByteArray} {k : Nat} (h : accA G (wdA u k) = false) : leK G u (k + 1) = leK G u k := by
  unfold leK; rw [List.range_succ, List.filter_append]; simp [h]
theorem leK_len (G : Gr) (u : ByteArray) (k : Nat) : (leK G u k).length ≤ k := by
  unfold leK
  rw [List.length_map]
  exact Nat.le_trans (List.length_filter_le _ _) (by simp)
theorem Sl.kb {b B2 : Nat} {w w' : World} {q : Option Addr} {l : List Int} {p v : Value} {t : TypeId} {fz : Nat × Nat} (h : Sl w (Value.int .i64) q l) (hb : w.heap[b]? = some (.cells #[p, v] t fz)) (hp : ∀ i, p ≠ .int .i64 i) (hv : ∀ i, v ≠ .int .i64 i) (hB : w.heap.size ≤ B2) (k : KB b B2 w w') : Sl w' (Value.int .i64) q l := by
  rcases h with h | ⟨b', off, hq, hlt, hc⟩
  · exact .inl h
  · cases l with
    | nil => exact .inl rfl
    | cons x l =>
      have hne : b' ≠ b := by
        rintro rfl
        have h0 := hc 0 (by simp)
        rw [World.cell?] at h0
        simp only [hb] at h0
        match off, h0 with
        | 0, h0 => simp at h0; exact hp _ h0
        | 1, h0 => simp at h0; exact hv _ h0
        | n + 2, h0 => simp at h0
      have hkb : w'.heap[b']? = w.heap[b']? := by
        rcases Nat.lt_or_gt_of_ne hne with h1 | h1
        · exact k.1.block b' h1
        · exact k.2 b' h1 (by omega)
      exact .inr ⟨b', off, hq, by
        have hs := Array.getElem?_eq_getElem hlt
        rw [hs] at hkb
        exact (Array.getElem?_eq_some_iff.1 hkb).1, fun i hi => (World.cell?_of_block hkb).trans (hc i hi)⟩

set_option maxRecDepth 100000 in
set_option maxHeartbeats 2000000 in
theorem lCollect_any (G : Gr) (p : Option Addr) (c : Nat) (u : ByteArray) (q : Option Addr) (l d b : Nat) (w : World) (hin : ∀ W, RowKit.Below b w W → Sg 3 W edE p G.es) (hst : Sl w (Value.int .i64) q (enA G u)) (hl : l = (enA G u).length) (hv : Vg G) (hq : G.q ≤ 16)
    (hb : w.heap[b]? = some (.cells #[.pointer none, .slice none 0 0] 92 (0, 0))) :
    Calls Tryz.prog 55 #[(.agg #[.int .i64 G.q, .int .i64 G.n, .slice p G.es.length c]), .slice q l d, .func (.func 57) #[] #[.pointer (some ⟨b, 0, none⟩)]] w fun e w' => e = .returned (.tuple #[]) ∧ Lib.IsBuilderF 92 5 b b (Lib.byteCells (leK G u G.q.toNat)) w' ∧ RowKit.Below b w w' := by
  have HIN := hidI hin; have HV := hidI hv; have HL := hidI hl
  have hbl : b < w.heap.size := (Array.getElem?_eq_some_iff.1 hb).1
  obtain ⟨w0, hw0⟩ : ∃ w0, w0 = w.alloc (.cells #[.int .i64 G.q, .int .i64 G.n, .slice p G.es.length c] 29) := ⟨_, rfl⟩
  have b0 : VRow w0 w.heap.size 29 [.int .i64 G.q, .int .i64 G.n, .slice p G.es.length c] := by subst hw0; exact VRow.new w _ _
  have hB0 : RowKit.Below w.heap.size w w0 := by subst hw0; exact (RowKit.Below.refl _ _).alloc (Nat.le_refl _) _
  have hs0 : w0.heap.size = w.heap.size + 1 := by subst hw0; simp
  have hb0 : w0.heap[b]? = some (.cells #[.pointer none, .slice none 0 0] 92 (0, 0)) := (hB0.block b hbl).trans hb
  have HB0 : Hid (w0.heap[b]? = some (.cells #[.pointer none, .slice none 0 0] 92 (0, 0))) := hb0
  have hBd : Bd b w0.heap.size (Lib.byteCells (leK G u 0)) w0 := ⟨by omega, .pointer none, .slice none 0 0, .inl rfl, hb0, World.ownsRowF_nil _ _ _ _⟩
  have HST : Hid (∀ W, KB b w0.heap.size w0 W → Sl W (Value.int .i64) q (enA G u)) := fun W k => (hst.below hB0).kb HB0.out (fun i h => by cases h) (fun i h => by cases h) (Nat.le_refl _) k
  have HBB := hidI (hB0.mono (Nat.le_of_lt hbl))
  have hz : w.heap.size < w0.heap.size := by omega
  have HS0 := hidI hs0
  clear hin hst hv hl hb hb0 hB0 hs0
  go_enter Tryz.func55, Tryz.ntmps55
  go_upto_region 1 with fail
  rw [← hw0]
  clear hw0
  have f0 := b0.at 0 rfl
  go_wp2_with fail
  clear f0
  go_loopw [10] (fun iv wr => ∃ k : Nat, k ≤ G.q.toNat ∧ iv = .int .i64 k ∧ Bd b w0.heap.size (Lib.byteCells (leK G u k)) wr ∧ KB b w0.heap.size w0 wr ∧ w0.heap.size ≤ wr.heap.size) (fun iv _ => G.q.toNat - (intOf iv).toNat)
  case atStart => exact ⟨0, by omega, rfl, hBd, KB.refl _ _ _, Nat.le_refl _⟩
  case round =>
    clear hBd
    obtain ⟨k, hk, rfl, hBd, hKB, hsz⟩ := hrel
    have c0 : VRow wr w.heap.size 29 [.int .i64 G.q, .int .i64 G.n, .slice p G.es.length c] := (hKB.2 _ hbl hz).trans b0
    have f0 := c0.at 0 rfl; have f1 := c0.at 1 rfl; have f2 := c0.at 2 rfl
    by_cases hlt : k < G.q.toNat
    · have hlI : (k : Int) < G.q := by omega
      have HST2 := hidI (lStep_let G p c u q l d k wr (HIN.out wr (HBB.out.trans hKB.1)) (HST.out wr hKB) HL.out HV.out hlI (by omega))
      have hix := run_ltC k (by omega) wr
      have hll := leK_len G u k
      have HACC := hidI (accA_en G (wdA u k))
      have HC : Hid (∀ w2, RowKit.Below wr.heap.size wr w2 → Calls Tryz.prog 57 #[.int .u8 ((ltC k).toNat : Int), .pointer (some ⟨b, 0, none⟩)] w2 fun e w' => e = .returned (.tuple #[]) ∧ Bd b w0.heap.size (Lib.byteCells (leK G u k) ++ [.int .u8 ((ltC k).toNat : Int)]) w' ∧ KB b w0.heap.size w2 w' ∧ w0.heap.size ≤ w'.heap.size) :=
        fun w2 h => lLetters1_any b w0.heap.size _ _ w2 (hBd.below h) (by rw [Lib.byteCells_length]; omega) (Nat.le_trans hsz h.size)
      have HY : accA G (wdA u k) = true → Hid (Lib.byteCells (leK G u (k + 1)) = Lib.byteCells (leK G u k) ++ [.int .u8 ((ltC k).toNat : Int)]) := fun h => by
        unfold Hid; rw [leK_yes h]; simp [Lib.byteCells]
      have HNo : accA G (wdA u k) = false → Hid (leK G u (k + 1) = leK G u k) := fun h => leK_no h
      have HBD := hidI hBd
      have hbw : b ≤ wr.heap.size := by omega
      generalize hlen : (enA G (wdA u k)).length = M at *
      clear hlen hBd
      generalize ((ltC k).toNat : Int) = cc at *
      cases hacc : accA G (wdA u k)
      · have hM0 : M = 0 := by
          have := HACC.out
          rw [hacc] at this
          have := of_decide_eq_false this.symm
          omega
        subst hM0
        have HN := HNo hacc
        clear hacc HY HNo
        go_wp2_with (go_at_call 86; refine HST2.out.mono ?_; rintro e w2 ⟨p2, c2, rfl, hs2, hBs⟩)
        go_roundw
        case rel => exact ⟨k + 1, by omega, by go_num, by rw [HN.out]; exact HBD.out.below hBs, hKB.trans (KB.below hBs hbw hsz), Nat.le_trans hsz hBs.size⟩
        case measure => simp [intOf]; omega
      · have hMI : (0 : Int) < (M : Int) := by
          have := HACC.out
          rw [hacc] at this
          have := of_decide_eq_true this.symm
          omega
        have HN := HY hacc
        clear hacc HY HNo
        go_wp2_with (first
          | (go_at_call 86; refine HST2.out.mono ?_; rintro e w2 ⟨p2, c2, rfl, hs2, hBs⟩)
          | (refine (HC.out w2 hBs).mono ?_; rintro e w3 ⟨rfl, hBd3, hK3, hs3⟩))
        go_roundw
        case rel => exact ⟨k + 1, by omega, by go_num, by rw [HN.out]; exact hBd3, (hKB.trans (KB.below hBs hbw hsz)).trans hK3, hs3⟩
        case measure => simp [intOf]; omega
    · obtain rfl : k = G.q.toNat := by omega
      have hlI : ¬ ((G.q.toNat : Int) < G.q) := by omega
      go_wp2_with fail
      go_end0
      exact ⟨rfl, hBd.isb, HBB.out.trans hKB.1⟩
end Go.Proofs.YtaclgmhinljkbaaGreatDoor
namespace Go.Proofs.YtaclgmhinljkbaaGreatDoor
open Go.RowKit

/-- Where the region stands. -/
structure LS (b : Nat) (w5 : World) (A B : List Int) (bs : List Value) (v17 v19 v21 : Option Value) (W : World) : Prop where
  lb : b ≤ w5.heap.size
  bl : RowKit.Below b w5 W
  be : v21 = none → RowKit.Below w5.heap.size w5 W ∧ (∀ v, v17 = some v → ∃ q d, v = .slice q A.length d ∧ Sl W (Value.int .i64) q A) ∧ (∀ v, v19 = some v → ∃ q d, v = .slice q B.length d ∧ Sl W (Value.int .i64) q B)
  af : v21 ≠ none → Lib.IsBuilderF 92 5 b b bs W
section
variable {b : Nat} {w5 W W' : World} {A B : List Int} {bs : List Value} {v17 v19 v21 : Option Value}
theorem LS.start (h : RowKit.Below w5.heap.size w5 W) (hb : b ≤ w5.heap.size) : LS b w5 A B bs none none none W :=
  ⟨hb, h.mono hb, fun _ => ⟨h, (fun _ e => by cases e), (fun _ e => by cases e)⟩, fun e => absurd rfl e⟩
theorem LS.s17 (h : LS b w5 A B bs v17 v19 v21 W) (hn : v21 = none) (hB : RowKit.Below W.heap.size W W') {q : Option Addr} {d : Nat} (hs : Sl W' (Value.int .i64) q A) : LS b w5 A B bs (some (.slice q A.length d)) v19 v21 W' := by
  obtain ⟨h1, _, h3⟩ := h.be hn
  refine ⟨h.lb, h.bl.trans (hB.mono (Nat.le_trans h.lb h1.size)), fun _ => ⟨h1.trans (hB.mono h1.size), fun v e => ⟨q, d, (Option.some.inj e).symm, hs⟩, fun v e => ?_⟩, fun e => absurd hn e⟩
  obtain ⟨q', d', e1, e2⟩ := h3 v e
  exact ⟨q', d', e1, e2.below hB⟩
theorem LS.s19 (h : LS b w5 A B bs v17 v19 v21 W) (hn : v21 = none) (hB : RowKit.Below W.heap.size W W') {q : Option Addr} {d : Nat} (hs : Sl W' (Value.int .i64) q B) : LS b w5 A B bs v17 (some (.slice q B.length d)) v21 W' := by
  obtain ⟨h1, h3, _⟩ := h.be hn
  refine ⟨h.lb, h.bl.trans (hB.mono (Nat.le_trans h.lb h1.size)), fun _ => ⟨h1.trans (hB.mono h1.size), fun v e => ?_, fun v e => ⟨q, d, (Option.some.inj e).symm, hs⟩⟩, fun e => absurd hn e⟩
  obtain ⟨q', d', e1, e2⟩ := h3 v e
  exact ⟨q', d', e1, e2.below hB⟩
theorem LS.done (h : LS b w5 A B bs v17 v19 v21 W) (hB : RowKit.Below b W W') (hi : Lib.IsBuilderF 92 5 b b bs W') (v : Value) : LS b w5 A B bs v17 v19 (some v) W' :=
  ⟨h.lb, h.bl.trans hB, (fun e => by cases e), fun _ => hi⟩
end

set_option maxRecDepth 100000 in
set_option maxHeartbeats 4000000 in
theorem lLetters_any (G : Gr) (p : Option Addr) (c : Nat) (s : ByteArray) (w : World) (hin : Sg 3 w edE p G.es) (hv : Vg G) (hq : G.q ≤ 16) (hs : s.size ≤ maxLen) (hc : Chg.wchk G.q s.data.toList = 0) (hl : s.size ≤ 65536) :
    Calls Tryz.prog 26 #[(.agg #[.int .i64 G.q, .int .i64 G.n, .slice p G.es.length c]), .string s] w fun e w' => e = .returned (.tuple #[.string ⟨(leK G s G.q.toNat).toArray⟩, .int .i64 0]) ∧ RowKit.Below w.heap.size w w' := by
  have HIN := hidI hin; have HV := hidI hv; have HC := hidI hc
  clear hin hv hc
  obtain ⟨w0, hw0⟩ : ∃ w0, w0 = w.alloc (.cells #[.int .i64 G.q, .int .i64 G.n, .slice p G.es.length c] 29) := ⟨_, rfl⟩
  have b0 : VRow w0 w.heap.size 29 [.int .i64 G.q, .int .i64 G.n, .slice p G.es.length c] := by subst hw0; exact VRow.new w _ _
  have hB0 : RowKit.Below w.heap.size w w0 := by subst hw0; exact (RowKit.Below.refl _ _).alloc (Nat.le_refl _) _
  go_enter Tryz.func26, Tryz.ntmps26
  go_wp2_with fail
  rw [← hw0]
  clear hw0
  refine (lSpells_any G p c s w0 (HIN.out.below hB0) HV.out hq hs).mono ?_
  rw [HC.out]
  rintro e w1 ⟨rfl, hB1⟩
  have x1 := hB0.trans (hB1.mono hB0.size)
  have b1 := b0.below hB1 b0.lt
  go_upto_region 5 with fail
  have zb : w.heap.size < w1.heap.size := b1.lt
  obtain ⟨w5, hw5⟩ : ∃ w5, w5 = w1.alloc (.cells #[.pointer none, .slice none 0 0] 92) := ⟨_, rfl⟩
  have hbb : w5.heap[w1.heap.size]? = some (.cells #[.pointer none, .slice none 0 0] 92 (0, 0)) := by subst hw5; exact World.alloc_heap_new _ _
  have c0 : VRow w5 w.heap.size 29 [.int .i64 G.q, .int .i64 G.n, .slice p G.es.length c] := by subst hw5; exact b1.alloc _
  have y1 : RowKit.Below w1.heap.size w1 w5 := by subst hw5; exact (RowKit.Below.refl _ _).alloc (Nat.le_refl _) _
  have hz5 : w1.heap.size < w5.heap.size := by subst hw5; simp
  rw [← hw5]
  clear hw5
  have HIX : Hid (∀ W, RowKit.Below w1.heap.size w5 W → Sg 3 W edE p G.es) := fun W h => HIN.out.below (x1.trans ((y1.trans h).mono x1.size))
  have HUP := hidI (St.upto HV.out.n1)
  have HOK := hidI (wchk_okw HC.out)
  have HBB := hidI hbb
  clear b0 hB0 hB1 b1 hbb
  have HEN : Hid (endA G (upto G.n.toNat) (ltr s) = enA G s) := rfl
  go_cut [] (fun wx => Lib.IsBuilderF 92 5 w1.heap.size w1.heap.size (Lib.byteCells (leK G s G.q.toNat)) wx ∧ RowKit.Below w1.heap.size w5 wx)
  case first =>
    refine region_detZ (by kernel_rfl) 8 [(14, some (.agg #[.int .i64 G.q, .int .i64 G.n, .slice p G.es.length c])), (15, some (.agg #[.int .i64 G.q, .int .i64 G.n, .slice p G.es.length c])), (16, some (.agg #[.int .i64 G.q, .int .i64 G.n, .slice p G.es.length c])), (17, none), (18, some (.string s)), (19, none), (20, some (.func (.func 57) #[] #[.pointer (some ⟨w1.heap.size, 0, none⟩)])), (21, some (.tuple #[]))] (fun f W => LS w1.heap.size w5 (upto G.n.toNat) (enA G s) (Lib.byteCells (leK G s G.q.toNat)) (f 17) (f 19) (f 21) W) (by kernel_rfl) (by kernel_rfl) (by kernel_rfl) (by kernel_rfl) (LS.start (below_dN (RowKit.Below.refl _ _) 1) (Nat.le_of_lt hz5)) ?_ ?_
    focus
      intro i o ho a f W hS hdep hout hold K hK
      have hc0 := (hS.bl.cell zb).trans (c0.at 0 rfl)
      have hc1 := (hS.bl.cell (p := ⟨w.heap.size, 1, none⟩) zb).trans (c0.at 1 rfl)
      have hc2 := (hS.bl.cell (p := ⟨w.heap.size, 2, none⟩) zb).trans (c0.at 2 rfl)
      have hil : i < 8 := (Array.getElem?_eq_some_iff.1 ho).1
      have hcases : i = 0 ∨ i = 1 ∨ i = 2 ∨ i = 3 ∨ i = 4 ∨ i = 5 ∨ i = 6 ∨ i = 7 := by omega
      clear hil
      have u1 := hout 1 (by kernel_rfl)
      have u2 := hout 2 (by kernel_rfl)
      have u7 := hout 7 (by kernel_rfl)
      simp at u1 u2 u7
      clear hout
      rcases hcases with rfl | rfl | rfl | rfl | rfl | rfl | rfl | rfl
      all_goals (have h21 : f 21 = none := (hold 7 (by kernel_rfl) _ rfl).1)
      all_goals (simp only [List.getElem?_toArray, List.getElem?_cons_succ, List.getElem?_cons_zero, Option.some.injEq] at ho; subst ho; simp [Region.binds] at hdep; (try go_split_ands))
      all_goals go_simp
      all_goals first
        | exact hK _ _ (fun u hu => Option.some.inj hu) hS
        | ((with_reducible refine (lStates_any G p c W HV.out).mono ?_)
           rintro e wa ⟨q, d, rfl, hsl, hBa⟩
           exact hK _ _ (fun u hu => by cases hu) (hS.s17 h21 hBa hsl))
        | (obtain ⟨v, hv, hat⟩ : ∃ v, f 17 = some v ∧ a.tmps[17]? = some v := by assumption
           obtain ⟨hB0, hr17, _⟩ := hS.be h21
           obtain ⟨q, d, rfl, hsl⟩ := hr17 v hv
           rw [hat]
           refine (lEnds_any G p c (upto G.n.toNat) q d s W (HIX.out W hS.bl) hsl HV.out HUP.out HOK.out hl).mono ?_
           rintro e wa ⟨q3, d3, rfl, hs3, hBa⟩
           exact hK _ _ (fun u hu => by cases hu) (hS.s19 h21 hBa hs3))
        | (obtain ⟨v, hv, hat⟩ : ∃ v, f 19 = some v ∧ a.tmps[19]? = some v := by assumption
           obtain ⟨hB0, _, hr19⟩ := hS.be h21
           obtain ⟨q, d, rfl, hsl⟩ := hr19 v hv
           rw [hat]
           refine (lCollect_any G p c s q _ d w1.heap.size W (fun W' h => HIX.out W' (hS.bl.trans h)) hsl rfl HV.out hq ((hB0.block _ hz5).trans HBB.out)).mono ?_
           rintro e w3 ⟨rfl, hi3, hB3⟩
           exact hK _ _ (fun u hu => Option.some.inj hu) (hS.done hB3 hi3 _))
    intro f W hS hf
    obtain ⟨v21, hv21, -⟩ := hf (21, some (.tuple #[])) (by simp)
    have hI := hS.af (by rw [hv21]; simp)
    have hBl := hS.bl
    simp only [putsD, List.map_cons, List.map_nil, Option.getD_some, Option.getD_none, List.foldl_cons, List.foldl_nil, Act.put, List.setIfInBounds_toArray, List.set_cons_zero, List.set_cons_succ]
    generalize (f 17).getD undef = v17
    generalize (f 19).getD undef = v19
    clear hf hv21 hS
    go_wp2_with fail
    go_meet
    exact ⟨hI, hBl⟩
  case rest =>
    obtain ⟨hbd, hB2⟩ := hcut
    have hyy := y1.trans hB2
    have HST := hidI (fun h => Tryz.Builder_String_any_f w1.heap.size w1.heap.size (leK G s G.q.toNat) wc hbd h)
    have hsz := hyy.size
    clear hbd
    go_wp2_with (go_at_call 59; refine (HST.out hsz).mono ?_; rintro e w' ⟨rfl, _, hB3⟩)
    go_ret2
    exact ⟨rfl, x1.trans ((hyy.trans hB3).mono x1.size)⟩
end Go.Proofs.YtaclgmhinljkbaaGreatDoor
namespace Go.Proofs.YtaclgmhinljkbaaGreatDoor
open Go Go.RowKit Go.ChangeMaps Go.MapKept

theorem idx_mem (c : UInt8) : ∀ l : List UInt8, 0 ≤ Lib.indexByte l c ↔ c ∈ l
  | [] => by simp [Lib.indexByte]
  | x :: l => by
    have ih := idx_mem c l
    unfold Lib.indexByte
    by_cases h : x = c
    · subst h; simp
    · have h' : ¬ c = x := fun e => h e.symm
      simp only [List.mem_cons, h', false_or, ← ih]
      have hge := Lib.indexByte_ge l c
      rw [if_neg (by simpa using h)]
      by_cases h1 : Lib.indexByte l c = -1
      · rw [if_pos (by simpa using h1), h1]
      · rw [if_neg (by simpa using h1)]; omega
theorem ltC_inj : ∀ a : Nat, a < 16 → ∀ b : Nat, b < 16 → ltC a = ltC b → a = b := by decide +kernel
theorem ltC_one : ∀ a : Nat, a < 16 → ltB.extract a (a + 1) = ⟨#[ltC a]⟩ := by decide +kernel
theorem le_has {G : Gr} (hq : G.q ≤ 16) (u : ByteArray) {a : Nat} (ha : a < G.q.toNat) : decide (0 ≤ Lib.indexByte (leK G u G.q.toNat) (ltC a)) = accA G (wdA u a) := by
  have hm : ltC a ∈ leK G u G.q.toNat ↔ accA G (wdA u a) = true := by
    unfold leK
    rw [List.mem_map]
    constructor
    · rintro ⟨b, hb, e⟩
      obtain ⟨h1, h2⟩ := List.mem_filter.1 hb
      have := List.mem_range.1 h1
      have := ltC_inj b (by omega) a (by omega) e
      subst this; exact h2
    · intro h
      exact ⟨a, List.mem_filter.2 ⟨List.mem_range.2 ha, h⟩, rfl⟩
  cases hacc : accA G (wdA u a)
  · rw [decide_eq_false_iff_not, idx_mem, hm, hacc]; simp
  · rw [decide_eq_true_eq, idx_mem, hm, hacc]
/-- Whether a word with a letter more is found. -/
def fdP (G : Gr) (k : Nat) (x : ByteArray) : Bool := !accA G x && isF (wk G k) (x.extract 1 x.size)
theorem isF_any (l : List ByteArray) (u : ByteArray) : isF l u = l.any (fun y => decide (y = u)) := by
  unfold isF inF
  by_cases h : l.any (fun y => decide (y = u)) = true
  · rw [if_pos h, h]; rfl
  · rw [if_neg h]
    rw [Bool.not_eq_true] at h
    rw [h]; rfl
def fdR (G : Gr) (k : Nat) (u : ByteArray) (a : Nat) : List ByteArray := ((List.range a).filter (fun a => fdP G k (wdA u a))).map (wdA u)
theorem fdR_all (G : Gr) (k : Nat) (u : ByteArray) : fdR G k u G.q.toNat = fdW G k u := by
  unfold fdR fdW fdP
  simp only [isF_any]
theorem fdR_yes {G : Gr} {k : Nat} {u : ByteArray} {a : Nat} (h : fdP G k (wdA u a) = true) : fdR G k u (a + 1) = fdR G k u a ++ [wdA u a] := by
  unfold fdR; rw [List.range_succ, List.filter_append]; simp [h]
theorem fdR_no {G : Gr} {k : Nat} {u : ByteArray} {a : Nat} (h : fdP G k (wdA u a) = false) : fdR G k u (a + 1) = fdR G k u a := by
  unfold fdR; rw [List.range_succ, List.filter_append]; simp [h]
theorem fdR_len (G : Gr) (k : Nat) (u : ByteArray) (a : Nat) : (fdR G k u a).length ≤ a := by
  unfold fdR
  rw [List.length_map]
  exact Nat.le_trans (List.length_filter_le _ _) (by simp)
def fdJ (G : Gr) (k j : Nat) : List ByteArray := fdN G k ++ ((wk G k).take j).flatMap (fdW G k)
theorem fdJ_zero (G : Gr) (k : Nat) : fdJ G k 0 = fdN G k := by unfold fdJ; simp
theorem fdJ_succ (G : Gr) (k j : Nat) (h : j < (wk G k).length) : fdJ G k (j + 1) = fdJ G k j ++ fdW G k (wk G k)[j] := by
  unfold fdJ
  rw [List.take_succ_eq_append_getElem h, List.flatMap_append, List.append_assoc]
  simp
theorem fdJ_all (G : Gr) (k : Nat) : fdJ G k (wk G k).length = fdN G (k + 1) := by
  unfold fdJ; rw [List.take_length, fdN_succ]; rfl
theorem fdJ_len (G : Gr) (k j : Nat) : (fdJ G k j).length ≤ (fdN G (k + 1)).length := by
  rw [fdN_succ]
  unfold fdJ fdK
  rw [List.length_append, List.length_append]
  have h : (wk G k).flatMap (fdW G k) = ((wk G k).take j).flatMap (fdW G k) ++ ((wk G k).drop j).flatMap (fdW G k) := by
    rw [← List.flatMap_append, List.take_append_drop]
  rw [h, List.length_append]; omega

/-- What stands in memory in the midst of one length. -/
structure FdS (G : Gr) (p : Option Addr) (c : Nat) (w : World) (L : List ByteArray) (F : ByteArray → Option Unit) (mb B : Nat) (pl : Option Addr) (d : Nat) (W : World) : Prop where
  g : VRow W w.heap.size 29 [.int .i64 G.q, .int .i64 G.n, .slice p G.es.length c]
  b : RowKit.Below w.heap.size w W
  l : W.ownsRow B 9 1 (.slice pl L.length d) L.length (L.map Value.string)
  m : MpT W mb F
/-- Two rows lie in different blocks. -/
def NE (v l : Value) : Prop := ∀ j, v.ownBlock = some j → l.ownBlock ≠ some j
theorem NE.kept {v l : Value} (h : NE v l) : l.ownBlock = none ∨ l.ownBlock ≠ v.ownBlock := by
  cases hl : l.ownBlock with
  | none => exact .inl rfl
  | some j => exact .inr (fun e => h j e.symm hl)
theorem own_below {W W' : World} {B e size n : Nat} {v : Value} {xs : List Value} (h : W.ownsRow B e size v n xs) (hB : RowKit.Below W.heap.size W W') : W'.ownsRow B e size v n xs :=
  own_same h (fun j e => hB.block j (h.lt j e).2)
theorem FdS.below {G : Gr} {p : Option Addr} {c : Nat} {w : World} {L : List ByteArray} {F : ByteArray → Option Unit} {mb B : Nat} {pl : Option Addr} {d : Nat} {W W' : World} (h : FdS G p c w L F mb B pl d W) (hB : RowKit.Below W.heap.size W W') : FdS G p c w L F mb B pl d W' :=
  ⟨h.g.below hB h.g.lt, h.b.trans (hB.mono h.b.size), own_below h.l hB, h.m.same (hB.block mb h.m.lt)⟩
theorem FdS.grown {G : Gr} {p : Option Addr} {c : Nat} {w : World} {L : List ByteArray} {F : ByteArray → Option Unit} {mb B : Nat} {pl : Option Addr} {d : Nat} {W W' : World} {v : Value} {xs : List Value} {n : Nat} (h : FdS G p c w L F mb B pl d W) (hg : W.grownBy W' v.ownBlock)
    (hv : W.ownsRow (w.heap.size + 1) 9 1 v n xs) (hne : NE v (.slice pl L.length d)) : FdS G p c w L F mb B pl d W' := by
  obtain ⟨⟨es, clock, hm, _⟩, _⟩ := h.m
  have hmb := own_blk hv hm rfl
  exact ⟨h.g.grown hg (fun e => by have := (hv.lt _ e.symm).1; omega), h.b.grown hg h.b.size (fun j e => by have := (hv.lt j e).1; omega), h.l.kept hg (hne.kept), h.m.same (hg.block mb h.m.lt (fun e => hmb e.symm))⟩
theorem FdS.sl {G : Gr} {p : Option Addr} {c : Nat} {w : World} {L : List ByteArray} {F : ByteArray → Option Unit} {mb B : Nat} {pl : Option Addr} {d : Nat} {W : World} (h : FdS G p c w L F mb B pl d W) : Sl W Value.string pl L := by
  obtain ⟨q, c, e, hs⟩ := own_sl h.l
  cases e; exact hs
end Go.Proofs.YtaclgmhinljkbaaGreatDoor
namespace Go.Proofs.YtaclgmhinljkbaaGreatDoor
open Go.RowKit

theorem okw_wd {q : Int} {u : ByteArray} {a : Nat} (h : Chg.okw q u.data.toList = true) (ha : (a : Int) < q) (h16 : a < 16) : Chg.okw q (wdA u a).data.toList = true := by
  have e : (wdA u a).data.toList = u.data.toList ++ [ltC a] := by
    unfold wdA; rw [ltC_one a h16, ByteArray.data_append, Array.toList_append]
  have hd := ltC_dig a h16
  unfold Chg.okw at h ⊢
  rw [e, List.all_append, h]
  simp [Chg.okc, hd, ha]
theorem wk_okw {G : Gr} (hq : G.q ≤ 16) : ∀ {k : Nat} {u : ByteArray}, u ∈ wk G k → Chg.okw G.q u.data.toList = true
  | 0, u, h => by
    unfold wk at h
    split at h
    · rw [List.mem_singleton] at h
      subst h; rfl
    · cases h
  | k + 1, u, h => by
    obtain ⟨v, hv, a, ha, _, rfl⟩ := mem_wk.1 h
    exact okw_wd (wk_okw hq hv) (by omega) (by omega)
theorem wk_chk {G : Gr} (hv : Vg G) (hq : G.q ≤ 16) {k : Nat} (hk : k ≤ 6) {u : ByteArray} (h : u ∈ wk G k) : Chg.wchk G.q u.data.toList = 0 :=
  Chg.wchk_ok _ _ hv.q1 hq (by have := wk_size hq h; have : u.data.toList.length = u.size := by simp
                               omega) (wk_okw hq h)
/-- What Find answers, in memory. -/
def RetFd (x : List ByteArray × Int) (w : World) (e : Ending) (w' : World) : Prop := ∃ q c, e = .returned (.tuple #[.slice q x.1.length c, .int .i64 x.2]) ∧ Sl w' Value.string q x.1 ∧ RowKit.Below w.heap.size w w'
theorem RetFd.nil {k : Int} {w w' : World} (hB : RowKit.Below w.heap.size w w') : RetFd ([], k) w (.returned (.tuple #[.slice none 0 0, .int .i64 k])) w' := ⟨none, 0, rfl, Sl.nil _ _ _, hB⟩
theorem find_e1 {G : Gr} {n : Int} (h : chkG G ≠ 0) : findA G n = ([], 1) := by unfold findA; rw [if_pos h]
theorem find_e2 {G : Gr} {n : Int} (h : chkG G = 0) (h2 : 16 < G.q) : findA G n = ([], 12) := by unfold findA; rw [if_neg (by simpa using h), if_pos h2]
theorem find_e3 {G : Gr} {n : Int} (h : chkG G = 0) (h2 : ¬ 16 < G.q) (h3 : n < 0 ∨ 32 < n) : findA G n = ([], 2) := by unfold findA; rw [if_neg (by simpa using h), if_neg h2, if_pos h3]
theorem find_ok {G : Gr} {n : Nat} (h : chkG G = 0) (h2 : ¬ 16 < G.q) (h3 : n ≤ 32) : findA G n = (fdN G n, 0) := by
  unfold findA; rw [if_neg (by simpa using h), if_neg h2, if_neg (by omega)]; rfl

set_option maxRecDepth 100000 in
set_option maxHeartbeats 8000000 in
theorem fFind_ok (G : Gr) (p : Option Addr) (c n : Nat) (w : World) (hin : Sg 3 w edE p G.es) (hv : Vg G) (hq : G.q ≤ 3) (hn : n ≤ 6) :
    Calls Tryz.prog 8 #[(.agg #[.int .i64 G.q, .int .i64 G.n, .slice p G.es.length c]), .int .i64 n] w (RetFd (fdN G n, 0) w) := by
  obtain ⟨i0, hi0, hz0, hz1, hz3⟩ := info_parts infoStrF
  have HIN := hidI hin; have HV := hidI hv
  have hl := hv.len
  have hq1 := hv.q1
  clear hin hv
  obtain ⟨w0, hw0⟩ : ∃ w0, w0 = w.alloc (.cells #[.int .i64 G.q, .int .i64 G.n, .slice p G.es.length c] 29) := ⟨_, rfl⟩
  have b0 : VRow w0 w.heap.size 29 [.int .i64 G.q, .int .i64 G.n, .slice p G.es.length c] := by subst hw0; exact VRow.new w _ _
  have hB0 : RowKit.Below w.heap.size w w0 := by subst hw0; exact (RowKit.Below.refl _ _).alloc (Nat.le_refl _) _
  have hmm := @run_makeMap Tryz.prog
  go_enter Tryz.func8, Tryz.ntmps8
  go_wp2_with fail
  rw [← hw0]
  clear hw0
  refine (gCheck_r G p c w0 0 (chkG_ok.2 HV.out) (HIN.out.below hB0) (by omega)).mono ?_
  rintro e w1 ⟨rfl, hB1⟩
  have x1 := hB0.trans (hB1.mono hB0.size)
  have c1 := b0.below hB1 b0.lt
  have f0 := c1.at 0 rfl
  have hq2 : ¬ 16 < G.q := by omega
  have hn0 : ¬ (n : Int) < 0 := by omega
  have hn1 : ¬ (32 : Int) < (n : Int) := by omega
  have hz1' : w.heap.size + 1 ≤ w1.heap.size := c1.lt
  clear b0 hB0 hB1
  go_wp2_with fail
  clear f0
  go_loopw [6, 36] (fun ov iv wr => ∃ k : Nat, k ≤ n ∧ iv = .int .i64 k ∧ wr.ownsRow (w.heap.size + 1) 9 1 ov (fdN G k).length ((fdN G k).map Value.string) ∧ VRow wr w.heap.size 29 [.int .i64 G.q, .int .i64 G.n, .slice p G.es.length c] ∧ RowKit.Below w.heap.size w wr) (fun _ iv _ => n - (intOf iv).toNat)
  case atStart => exact ⟨0, by omega, rfl, World.ownsRow_nil _ _ _ _, c1, x1⟩
  case round =>
    clear c1 x1 hz1'
    obtain ⟨k, hk, rfl, hown, c1, hB⟩ := hrel
    obtain ⟨wo, rfl⟩ : ∃ wo : World, wo = wr := ⟨_, rfl⟩
    by_cases hlt : k < n
    · have hltI : (k : Int) < (n : Int) := by omega
      have HW := hidI (lWords_any G p c k wo (HIN.out.below hB) HV.out hq (by omega))
      have f0 := c1.at 0 rfl; have f1 := c1.at 1 rfl; have f2 := c1.at 2 rfl
      have hfw := wk_few hq (k := k) (by omega)
      have h1092 := fdN_1092 hq (n := k + 1) (by omega)
      have HSZ : Hid (∀ u ∈ wk G k, u.size ≤ 6 ∧ Chg.wchk G.q u.data.toList = 0) := fun u hu => ⟨by have := wk_size (by omega) hu; omega, wk_chk HV.out (by omega) (by omega) hu⟩
      obtain ⟨L, hL⟩ : ∃ L, L = wk G k := ⟨_, rfl⟩
      rw [← hL] at HW hfw HSZ
      have HLL := hidI hL
      clear hL
      go_wp2_with (go_at_call 25; refine HW.out.mono ?_; rintro e w2 ⟨pl, dl, rfl, hrow, hB2⟩)
      have hown2 := own_below hown hB2
      have hne0 : NE u6 (.slice pl L.length dl) := fun j h1 h2 => by
        have := (hown.lt j h1).2; have := (hrow.lt j h2).1; omega
      have hgt : w.heap.size < w2.heap.size := Nat.lt_of_lt_of_le c1.lt hB2.size
      have hF0 : FdS G p c w L (inF (L.take 0)) w2.heap.size wo.heap.size pl dl (w2.alloc (.map #[] 0)) :=
        ⟨(c1.below hB2 c1.lt).alloc _, (hB.trans (hB2.mono hB.size)).alloc (Nat.le_trans hB.size hB2.size) _, hrow.alloc _, (MpT.made w2).congr (fun a => by simp [inF])⟩
      have hownA := hown2.alloc (.map #[] 0)
      have HFD : Hid (fdN G k = fdJ G k 0) := (fdJ_zero G k).symm
      clear hB2 hrow hown2 hown c1 f0 f1 f2 hB HW
      go_loopw [51] (fun iv wr => ∃ j : Nat, j ≤ L.length ∧ iv = .int .i64 j ∧ FdS G p c w L (inF (L.take j)) w2.heap.size wo.heap.size pl dl wr ∧ wr.ownsRow (w.heap.size + 1) 9 1 u6 (fdN G k).length ((fdN G k).map Value.string)) (fun iv _ => L.length - (intOf iv).toNat)
      case atStart => exact ⟨0, by omega, rfl, hF0, hownA⟩
      case round =>
        clear hF0 hownA
        obtain ⟨j, hj, rfl, hF, hown⟩ := hrel
        by_cases hlt2 : j < L.length
        · have hltI2 : (j : Int) < (L.length : Int) := by omega
          obtain ⟨b3, o3, rfl, hb3, e0⟩ := hF.sl.get j hlt2
          have e1 := e0 j hlt2
          have hx := (HSZ.out L[j] (List.getElem_mem hlt2)).1
          have HN := hidI (inF_succ L j hlt2)
          obtain ⟨w3, hrun, hM3, hT⟩ := hF.m.store L[j] (by unfold maxLen; omega)
          have ho5 : ∃ es clock, wr.heap[w2.heap.size]? = some (.map es clock) := by
            obtain ⟨⟨es, clock, hm, _⟩, _⟩ := hF.m
            exact ⟨es, clock, hm⟩
          obtain ⟨es5, cl5, ho5⟩ := ho5
          have hn1 := own_blk hown ho5 rfl
          have hn2 := own_blk hF.l ho5 rfl
          have hF3 : FdS G p c w L (inF (L.take (j + 1))) w2.heap.size wo.heap.size (some ⟨b3, o3, none⟩) dl w3 :=
            ⟨hF.g.grown hT.grown (fun e => by have := Option.some.inj e; omega), hF.b.grown hT.grown hF.b.size (fun i e => by have := Option.some.inj e; omega), hF.l.kept hT.grown (.inr hn2), hM3.congr HN.out⟩
          have hown3 := hown.kept hT.grown (.inr hn1)
          generalize L[j] = x at *
          clear hF hown e0 ho5 hn1 hn2 hM3 hT HN
          go_wp2_with fail
          go_roundw
          case rel => exact ⟨j + 1, by omega, by go_num, hF3, hown3⟩
          case measure => simp [intOf]; omega
        · obtain rfl : j = L.length := by omega
          have hltI2 : ¬ (L.length : Int) < (L.length : Int) := by omega
          rw [List.take_length] at hF
          rw [HFD.out] at hown
          go_wp2_with fail
          go_loopw [6, 60] (fun ov iv wr => ∃ j : Nat, j ≤ L.length ∧ iv = .int .i64 j ∧ FdS G p c w L (inF L) w2.heap.size wo.heap.size pl dl wr ∧ wr.ownsRow (w.heap.size + 1) 9 1 ov (fdJ G k j).length ((fdJ G k j).map Value.string) ∧ NE ov (.slice pl L.length dl)) (fun _ iv _ => L.length - (intOf iv).toNat)
          case atStart => exact ⟨0, by omega, rfl, hF, hown, hne0⟩
          case round =>
            clear hF hown hne0
            obtain ⟨j, hj, rfl, hF, hown, hne⟩ := hrel
            by_cases hlt3 : j < L.length
            · have hltI3 : (j : Int) < (L.length : Int) := by omega
              obtain ⟨b3, o3, rfl, hb3, e0⟩ := hF.sl.get j hlt3
              have e1 := e0 j hlt3
              have hx := HSZ.out L[j] (List.getElem_mem hlt3)
              have hxs := hx.1
              have HS := hidI (fdJ_succ G k j (by rw [← HLL.out]; exact hlt3))
              have hjl := fdJ_len G k (j + 1)
              have hGJ : (wk G k)[j]'(by rw [← HLL.out]; exact hlt3) = L[j] := by simp only [HLL.out]
              rw [hGJ] at HS
              have HLT := hidI (lLetters_any G p c L[j] wr (HIN.out.below hF.b) HV.out (by omega) (by unfold maxLen; omega) hx.2 (by omega))
              have f0 := hF.g.at 0 rfl; have f1 := hF.g.at 1 rfl; have f2 := hF.g.at 2 rfl
              rw [← fdR_all] at HS
              have hjl2 : (fdJ G k j).length + (fdR G k L[j] G.q.toNat).length ≤ 1092 := by
                have := congrArg List.length HS.out
                rw [List.length_append] at this
                omega
              generalize L[j] = x at *
              have HF := hidI hF; have HO := hidI hown
              clear e0 hx hGJ hF hown
              go_wp2_with (go_at_call 26; refine HLT.out.mono ?_; rintro e w3 ⟨rfl, hB3⟩; have f0 := (HF.out.below hB3).g.at 0 rfl)
              have hF3 := HF.out.below hB3
              have hown3 := own_below HO.out hB3
              have HR0 : Hid (fdJ G k j = fdJ G k j ++ fdR G k x 0) := by unfold Hid fdR; simp
              rw [HR0.out] at hown3
              go_loopw [6, 75] (fun ov iv wr => ∃ a : Nat, a ≤ G.q.toNat ∧ iv = .int .i64 a ∧ FdS G p c w L (inF L) w2.heap.size wo.heap.size (some ⟨b3, o3, none⟩) dl wr ∧ wr.ownsRow (w.heap.size + 1) 9 1 ov (fdJ G k j ++ fdR G k x a).length ((fdJ G k j ++ fdR G k x a).map Value.string) ∧ NE ov (.slice (some ⟨b3, o3, none⟩) L.length dl)) (fun _ iv _ => G.q.toNat - (intOf iv).toNat)
              case atStart => exact ⟨0, by omega, rfl, hF3, hown3, hne⟩
              case round =>
                clear hF3 hown3 hne
                obtain ⟨a, ha, rfl, hF, hown, hne⟩ := hrel
                by_cases hlt4 : a < G.q.toNat
                · have haI : (a : Int) < G.q := by omega
                  have ha16 : a < 16 := by omega
                  have hI1 : (a : Int) ≤ (a : Int) + 1 := by omega
                  have hI2 : (a : Int) + 1 ≤ 16 := by omega
                  have hI3 : ((a : Int) + 1).toNat = a + 1 := by omega
                  have HC : Hid (Calls Tryz.prog 27 #[.string ⟨(leK G x G.q.toNat).toArray⟩, .string (({ data := #[48, 49, 50, 51, 52, 53, 54, 55, 56, 57, 97, 98, 99, 100, 101, 102] } : ByteArray).extract a (a + 1))] wr fun e w' => e = .returned (.bool (accA G (wdA x a))) ∧ w' = wr) := by
                    unfold Hid
                    rw [show ({ data := #[48, 49, 50, 51, 52, 53, 54, 55, 56, 57, 97, 98, 99, 100, 101, 102] } : ByteArray).extract a (a + 1) = ⟨#[ltC a]⟩ from ltC_one a ha16]
                    have h := Tryz.strings_Contains_one ⟨(leK G x G.q.toNat).toArray⟩ (ltC a) wr
                    rw [show (⟨(leK G x G.q.toNat).toArray⟩ : ByteArray).data.toList = leK G x G.q.toNat from rfl, le_has (by omega) x hlt4] at h
                    exact h
                  have HWS := hidI (wd_sz x ha16)
                  have HPY := hidI (fun h => fdR_yes (G := G) (k := k) (u := x) (a := a) h)
                  have HPN := hidI (fun h => fdR_no (G := G) (k := k) (u := x) (a := a) h)
                  have hrl := fdR_len G k x a
                  have hfl : (fdJ G k j).length + (fdR G k x a).length ≤ 2000 := by omega
                  have HFP : Hid (fdP G k (wdA x a) = (!accA G (wdA x a) && isF L ((wdA x a).extract 1 (wdA x a).size))) := by unfold Hid fdP; rw [HLL.out]
                  have HWD : Hid (wdA x a = x ++ ({ data := #[48, 49, 50, 51, 52, 53, 54, 55, 56, 57, 97, 98, 99, 100, 101, 102] } : ByteArray).extract a (a + 1)) := rfl
                  have HEL : Hid ((fdJ G k j ++ fdR G k x a).length ≤ 2000) := by unfold Hid; rw [List.length_append]; exact hfl
                  have HF := hidI hF; have HO := hidI hown
                  clear hown hrl hfl HS HR0
                  go_wp2_with fail
                  rw [← HWD.out]
                  generalize wdA x a = wd at *
                  generalize accA G wd = ac at *
                  refine HC.out.mono ?_
                  rintro e w5 ⟨rfl, rfl⟩
                  cases ac
                  · have hw1 : (1 : Int) ≤ (wd.size : Int) := by have := HWS.out; omega
                    have hlk := look_bool hF.m.1 (wd.extract 1 wd.size) (by rw [show (wd.extract 1 wd.size).size = wd.size - 1 by simp]; unfold maxLen; have := HWS.out; omega)
                    rw [show (inF L (wd.extract 1 wd.size)).isSome = isF L (wd.extract 1 wd.size) from rfl] at hlk
                    generalize isF L (wd.extract 1 wd.size) = r at *
                    cases r
                    · have HN' := hidI (HPN.out (by rw [HFP.out]; rfl))
                      clear hF HPY HPN
                      go_wp2_with fail
                      go_roundw
                      case rel => exact ⟨a + 1, by omega, by go_num, HF.out, by rw [HN'.out]; exact HO.out, hne⟩
                      case measure => simp [intOf]; omega
                    · have HY := hidI (HPY.out (by rw [HFP.out]; rfl))
                      have HQ : Hid (fdJ G k j ++ fdR G k x (a + 1) = (fdJ G k j ++ fdR G k x a) ++ [wd]) := by rw [Hid, HY.out, List.append_assoc]
                      have hel := HEL.out
                      generalize fdJ G k j ++ fdR G k x a = E at *
                      have hnew := cell_one_at w5 (.string wd) 9 w5.heap.size rfl
                      have hownA := HO.out.alloc (.cells #[.string wd] 9)
                      have hFb := HF.out.b.size
                      clear hF HPY HPN HY
                      go_wp2_with (at_builtin; refine wpList_append_lies _ rfl _ _ 22 rfl (w.heap.size + 1) 9 i0 (.string ⟨#[]⟩) 1 16 Tryz.underlying22 hi0 hz0 hz1 hz3 rfl (by decide) _ _ _ rfl hownA ⟨w5.heap.size, 0, none⟩ 1 1 [.string wd] rfl rfl hnew (by simp [Value.oneCell']) (by decide) (by unfold maxLen; omega) (by omega) (by rw [World.size_alloc]; omega) (w5.heap.size + 1) (World.size_alloc _ _) ?_; intro g cap w6 hown' hgrow hgH hgl)
                      go_roundw
                      case rel =>
                        refine ⟨a + 1, by omega, by go_num, (HF.out.below ((RowKit.Below.refl _ w5).alloc (Nat.le_refl _) _)).grown hgrow hownA hne, by rw [HQ.out, List.length_append, List.map_append]; exact hown', fun i h1 h2 => ?_⟩
                        obtain rfl : g = i := by simpa [Value.ownBlock] using h1
                        rcases hgH with h | h
                        · exact hne g h h2
                        · have := (HF.out.l.lt g h2).2; omega
                      case measure => simp [intOf]; omega
                  · have HN' := hidI (HPN.out (by rw [HFP.out]; rfl))
                    clear hF HPY HPN
                    go_wp2_with fail
                    go_roundw
                    case rel => exact ⟨a + 1, by omega, by go_num, HF.out, by rw [HN'.out]; exact HO.out, hne⟩
                    case measure => simp [intOf]; omega
                · obtain rfl : a = G.q.toNat := by omega
                  have haI : ¬ ((G.q.toNat : Int) < G.q) := by omega
                  rw [← HS.out] at hown
                  go_wp2_with fail
                  go_roundw
                  case rel => exact ⟨j + 1, by omega, by go_num, hF, hown, hne⟩
                  case measure => simp [intOf]; omega
            · obtain rfl : j = L.length := by omega
              have hltI3 : ¬ (L.length : Int) < (L.length : Int) := by omega
              have HFA : Hid (fdJ G k L.length = fdN G (k + 1)) := by rw [Hid, HLL.out, fdJ_all]
              rw [HFA.out] at hown
              obtain ⟨po, co, rfl, _⟩ := own_sl hown
              have hbI : ¬ (4096 : Int) < ((fdN G (k + 1)).length : Int) := by omega
              go_wp2_with fail
              go_roundw
              case rel => exact ⟨k + 1, by omega, by go_num, hown, hF.g, hF.b⟩
              case measure => simp [intOf]; omega
    · obtain rfl : k = n := by omega
      have hltI : ¬ (k : Int) < (k : Int) := by omega
      go_wp2_with fail
      go_ret2
      obtain ⟨q, c, rfl, hs⟩ := own_sl hown
      exact ⟨q, c, rfl, hs, hB⟩
end Go.Proofs.YtaclgmhinljkbaaGreatDoor
