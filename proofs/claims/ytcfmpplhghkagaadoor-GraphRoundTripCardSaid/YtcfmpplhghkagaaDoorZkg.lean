/-
  Words, plain lemmas and walks, merged: Dv, Jk, Ji, Jm.
-/
import Derived.Test.YtcfmpplhghkagaaDoorZkf
import Derived.Test.YtcfmpplhghkagaaDoorZke
import Derived.Deep.RegionHeld3
import Derived.Test.YtcfmpplhghkagaaDoorZkd
import Derived.Test.YtcfmpplhghkagaaDoorZkb
set_option linter.unusedVariables false
set_option linter.unusedSimpArgs false
namespace Go.Proofs.YtcfmpplhghkagaaDoor
open Go

section
variable {P : Program} {ops : Array Oper} {Q : Exit → Act → World → Prop}
/-- Operation j waits for operation i, or is it. -/
def depB (ops : Array Oper) : Nat → Nat → Nat → Bool
  | 0, i, j => decide (i = j)
  | fuel + 1, i, j => decide (i = j) || ((ops[j]?).map (fun o => o.after.any fun e => Region.binds .any e && depB ops fuel i e.on)).getD false
/-- What stands in a frame under way, with what is not done yet. -/
structure InvX (ops : Array Oper) (vals : Nat → Value) (c : Nat) (S : Bool → World → Prop) (l : Array Bool) (f : Nat → Option Value) (W : World) : Prop where
  sz : l.size = ops.size
  st : S (l.getD c false) W
  dom : ∀ t, t ∉ dstsD ops → f t = none
  val : ∀ i o t, ops[i]? = some o → o.dst = some t → l.getD i false = true → f t = some (vals i)
  old : ∀ i o t, ops[i]? = some o → o.dst = some t → l.getD i false = false → f t = none
  cl : ∀ i o, ops[i]? = some o → l.getD i false = true → ∀ e ∈ o.after, Region.binds .any e = true → l.getD e.on false = true
theorem dep_done {l : Array Bool} (cl : ∀ i o, ops[i]? = some o → l.getD i false = true → ∀ e ∈ o.after, Region.binds .any e = true → l.getD e.on false = true) : ∀ (fuel i j : Nat), depB ops fuel i j = true → l.getD j false = true → l.getD i false = true
  | 0, i, j, h, k => by
    obtain rfl := of_decide_eq_true h
    exact k
  | fuel + 1, i, j, h, k => by
    unfold depB at h
    rw [Bool.or_eq_true] at h
    rcases h with h | h
    · obtain rfl := of_decide_eq_true h
      exact k
    · cases ho : ops[j]? with
      | none => rw [ho] at h; cases h
      | some o =>
        rw [ho] at h
        simp only [Option.map_some, Option.getD_some, Array.any_eq_true] at h
        obtain ⟨m, hm, h1⟩ := h
        rw [Bool.and_eq_true] at h1
        exact dep_done cl fuel i _ h1.2 (cl j o ho k _ (Array.getElem_mem hm) h1.1)
theorem getD_setN {l : Array Bool} {i j : Nat} (hij : j ≠ i) : (l.setIfInBounds i true).getD j false = l.getD j false := by
  by_cases hj : j < l.size
  · simp [Array.getD, hj, Ne.symm hij]
  · simp [Array.getD, hj]
theorem getD_setI {l : Array Bool} {i : Nat} (hi : i < l.size) : (l.setIfInBounds i true).getD i false = true := by simp [Array.getD, hi]
theorem getD_ff {l : Array Bool} {i : Nat} (h : l.getD i true = false) : l.getD i false = false := by
  obtain ⟨hi, he⟩ := getD_falseD h
  simp [Array.getD, hi, he]
theorem region_detX {id : Nat} {A : Act} {w : World} (hm : P.follows .mixedOrders = true) (vals : Nat → Value) (c fuel : Nat) (S : Bool → World → Prop)
    (hd : ((List.range ops.size).all fun i => ((ops[i]?).map (·.after.all fun e => decide (e.on < i))).getD true) = true)
    (hn : (dstsD ops).Nodup) (hlt : (dstsD ops).all (fun t => decide (t < A.tmps.size)) = true)
    (h0 : S false { w with drawn := w.drawn + 1 })
    (hstep : ∀ (i : Nat) (o : Oper), ops[i]? = some o → ∀ (a : Act) (W : World) (b : Bool), S b W → (i = c → b = false) → a.tmps.size = A.tmps.size →
      (∀ e ∈ o.after, Region.binds .any e = true → ∀ o', ops[e.on]? = some o' → ∀ t, o'.dst = some t → a.tmps[t]? = some (vals e.on)) →
      (∀ t, t ∉ dstsD ops → a.tmps[t]? = A.tmps[t]?) →
      (∀ j o', depB ops fuel i j = true → ops[j]? = some o' → ∀ t, o'.dst = some t → a.tmps[t]? = A.tmps[t]?) →
      ∀ K : Act → World → Prop, (∀ W', S (if i = c then true else b) W' → K (a.put o.dst (vals i)) W') → if Region.wanted o (yielded ops a.tmps) = true then Oper.wp P o a W K Q else K (a.put o.dst undef) W)
    (hend : ∀ f W b, S b W → (c < ops.size → b = true) → (∀ t, t ∉ dstsD ops → f t = none) → (∀ i o t, ops[i]? = some o → o.dst = some t → f t = some (vals i)) → Q .normal (frD A f) W) :
    (Code.region id ops true).wp P Q A w := by
  refine wp_region_any hm (wpAny_invD (fun l a W => ∃ f, a = frD A f ∧ InvX ops vals c S l f W) ?_ ?_ _ _ _ _ ?_ ?_)
  · rintro l a W i ⟨f, rfl, hI⟩ hi
    obtain ⟨h1, h2, h3⟩ := mem_readyD.1 hi
    obtain ⟨hl, he⟩ := getD_falseD h2
    have hff := getD_ff h2
    have ho : ops[i]? = some ops[i] := Array.getElem?_eq_getElem h1
    have hrdy : ∀ e ∈ ops[i].after, Region.binds .any e = true → l.getD e.on false = true := by
      intro e he' hb
      unfold rdyAtD at h3
      rw [ho] at h3
      simp only [Option.map_some, Option.getD_some, Array.all_eq_true] at h3
      obtain ⟨k, hk, rfl⟩ := Array.mem_iff_getElem.1 he'
      have := h3 k hk
      rw [Bool.or_eq_true] at this
      rcases this with h5 | h5
      · rw [hb] at h5; cases h5
      · exact h5
    refine wpOp_step ho (fun K hK => ?_)
    refine hstep i ops[i] ho (frD A f) W (l.getD c false) hI.st (fun e => by subst e; exact hff) (by simp [frD]) ?_ ?_ ?_ K ?_
    · intro e he' hb o' hoe t hdt
      have hv := hI.val e.on o' t hoe hdt (hrdy e he' hb)
      have ht : t < A.tmps.size := by
        have := List.all_eq_true.1 hlt t (by unfold dstsD; exact List.mem_filterMap.2 ⟨o', by have := Array.mem_of_getElem? hoe; simpa using this, hdt⟩)
        exact of_decide_eq_true this
      simp only [frD, Array.getElem?_mapIdx, hv, Option.getD_some]
      rw [Array.getElem?_eq_getElem ht]; rfl
    · intro t ht
      simp only [frD, Array.getElem?_mapIdx, hI.dom t ht, Option.getD_none]
      cases A.tmps[t]? <;> rfl
    · intro j o' hdep hj t hdt
      have hnj : l.getD j false = false := by
        cases hx : l.getD j false with
        | false => rfl
        | true =>
          have := dep_done hI.cl fuel i j hdep hx
          rw [hff] at this; cases this
      simp only [frD, Array.getElem?_mapIdx, hI.old j o' t hj hdt hnj, Option.getD_none]
      cases A.tmps[t]? <;> rfl
    · intro W' hS
      refine hK _ _ ⟨(match ops[i].dst with | some t => fun k => if k = t then some (vals i) else f k | none => f), ?_, ?_⟩
      · cases hx : ops[i].dst with
        | none => exact fr_put0D _
        | some t => exact fr_putD t _
      · refine ⟨by simpa using hI.sz, ?_, ?_, ?_, ?_, ?_⟩
        · by_cases hic : i = c
          · subst hic
            rw [if_pos rfl] at hS
            rw [getD_setI hl]; exact hS
          · rw [if_neg hic] at hS
            rw [getD_setN (fun e => hic e.symm)]; exact hS
        · intro t ht
          cases hx : ops[i].dst with
          | none => exact hI.dom t ht
          | some t' =>
            have : t ≠ t' := by
              rintro rfl
              exact ht (by unfold dstsD; exact List.mem_filterMap.2 ⟨ops[i], by simp, hx⟩)
            show (if t = t' then _ else f t) = none
            rw [if_neg this]; exact hI.dom t ht
        · intro j o t hoj hdt hdone
          by_cases hij : j = i
          · subst hij
            rw [ho] at hoj
            cases hoj
            rw [hdt]
            show (if t = t then some (vals j) else f t) = _
            rw [if_pos rfl]
          · rw [getD_setN hij] at hdone
            have hv := hI.val j o t hoj hdt hdone
            cases hx : ops[i].dst with
            | none => exact hv
            | some t' =>
              show (if t = t' then some (vals i) else f t) = _
              have : t ≠ t' := by
                rintro rfl
                exact hij (dst_uniqD hn hoj ho hdt hx)
              rw [if_neg this]; exact hv
        · intro j o t hoj hdt hnd
          by_cases hij : j = i
          · subst hij
            rw [getD_setI hl] at hnd; cases hnd
          · rw [getD_setN hij] at hnd
            have hv := hI.old j o t hoj hdt hnd
            cases hx : ops[i].dst with
            | none => exact hv
            | some t' =>
              show (if t = t' then some (vals i) else f t) = _
              have : t ≠ t' := by
                rintro rfl
                exact hij (dst_uniqD hn hoj ho hdt hx)
              rw [if_neg this]; exact hv
        · intro j o hoj hdone e he' hb
          by_cases hij : j = i
          · subst hij
            rw [ho] at hoj
            cases hoj
            exact getD_setD (hrdy e he' hb)
          · rw [getD_setN hij] at hdone
            exact getD_setD (hI.cl j o hoj hdone e he' hb)
  · rintro l a W ⟨f, rfl, hI⟩ hr
    have hall := ready_nilD hI.sz hd hr
    refine hend f W _ hI.st (fun hc => hall c hc) hI.dom (fun i o t ho ht => hI.val i o t ho ht (hall i ?_))
    exact (Array.getElem?_eq_some_iff.1 ho).1
  · rw [Array.toList_replicate]
    exact Nat.le_trans List.count_le_length (by simp)
  · have hff : ∀ i, (Array.replicate ops.size false).getD i false = false := fun i => by
      by_cases hjl : i < ops.size <;> simp [Array.getD, hjl]
    exact ⟨_, (fr_noneD A).symm, by simp, by rw [hff]; exact h0, fun _ _ => rfl, (fun i o t ho ht hx => by rw [hff] at hx; cases hx), fun _ _ _ _ _ _ => rfl, (fun i o ho hx => by rw [hff] at hx; cases hx)⟩

/-- As region_detX, with a list of what the slots hold: for a region each of whose operations has a slot. -/
theorem region_detY {id : Nat} {A : Act} {w : World} (hm : P.follows .mixedOrders = true) (c fuel : Nat) (L : List (Nat × Value)) (S : Bool → World → Prop)
    (hL : L.map (fun p => some p.1) = ops.toList.map (·.dst))
    (hd : ((List.range ops.size).all fun i => ((ops[i]?).map (·.after.all fun e => decide (e.on < i))).getD true) = true)
    (hnb : decide (L.map (·.1)).Nodup = true) (hlt : (L.map (·.1)).all (fun t => decide (t < A.tmps.size)) = true)
    (h0 : S false { w with drawn := w.drawn + 1 })
    (hstep : ∀ (i : Nat) (o : Oper), ops[i]? = some o → ∀ (a : Act) (W : World) (b : Bool), S b W → (i = c → b = false) →
      (∀ e ∈ o.after, Region.binds .any e = true → ∀ p, L[e.on]? = some p → a.tmps[p.1]? = some p.2) →
      (∀ t, (L.map (·.1)).contains t = false → a.tmps[t]? = A.tmps[t]?) →
      (∀ j, depB ops fuel i j = true → ∀ p, L[j]? = some p → a.tmps[p.1]? = A.tmps[p.1]?) →
      ∀ K : Act → World → Prop, (∀ W', S (if i = c then true else b) W' → K (a.put o.dst ((L[i]?.map (·.2)).getD undef)) W') → if Region.wanted o (yielded ops a.tmps) = true then Oper.wp P o a W K Q else K (a.put o.dst undef) W)
    (hend : ∀ W b, S b W → (c < ops.size → b = true) → Q .normal (putsD A L) W) :
    (Code.region id ops true).wp P Q A w := by
  have hn := of_decide_eq_true hnb
  have hlen : L.length = ops.size := by
    have := congrArg List.length hL
    simpa using this
  have hdst : dstsD ops = L.map (·.1) := by
    unfold dstsD
    have h1 : ∀ (l : List Oper) (M : List (Nat × Value)), M.map (fun p => some p.1) = l.map (·.dst) → l.filterMap (·.dst) = M.map (·.1) := by
      intro l
      induction l with
      | nil => intro M h; cases M with
        | nil => rfl
        | cons p M => simp at h
      | cons o l ih =>
        intro M h
        cases M with
        | nil => simp at h
        | cons p M =>
          simp only [List.map_cons, List.cons.injEq] at h
          rw [List.filterMap_cons, ← h.1, ih M h.2]; rfl
    exact h1 _ _ hL
  have hdp : ∀ (j : Nat) (p : Nat × Value), L[j]? = some p → ∃ o, ops[j]? = some o ∧ o.dst = some p.1 := by
    intro j p hp
    have hjl : j < ops.size := by rw [← hlen]; exact (List.getElem?_eq_some_iff.1 hp).1
    refine ⟨ops[j], Array.getElem?_eq_getElem hjl, ?_⟩
    have h1 := congrArg (fun l => l[j]?) hL
    simp only [List.getElem?_map] at h1
    rw [hp, show ops.toList[j]? = some ops[j] by rw [Array.getElem?_toList]; exact Array.getElem?_eq_getElem hjl] at h1
    simpa using h1.symm
  refine region_detX hm (fun i => (L[i]?.map (·.2)).getD undef) c fuel S hd (by rw [hdst]; exact hn) (by rw [hdst]; exact hlt) h0 ?_ ?_
  · intro i o ho a W b hS hc hz hdep hout hold K hK
    refine hstep i o ho a W b hS hc ?_ (fun t ht => hout t (by rw [hdst]; intro hm; rw [List.contains_iff_mem.2 hm] at ht; cases ht)) ?_ K hK
    · intro e he hb p hp
      obtain ⟨o', ho', hdt⟩ := hdp e.on p hp
      have := hdep e he hb _ ho' p.1 hdt
      rw [this]
      show some ((L[e.on]?.map (·.2)).getD undef) = _
      rw [hp]; rfl
    · intro j hj p hp
      obtain ⟨o', ho', hdt⟩ := hdp j p hp
      exact hold j o' hj ho' p.1 hdt
  · intro f W b hS hb hout hval
    have hf : f = L.foldl updD (fun _ => none) := by
      funext t
      by_cases ht : t ∈ L.map (·.1)
      · obtain ⟨i, hi, he⟩ := List.mem_iff_getElem.1 ht
        have hi' : i < L.length := by simpa using hi
        have h1 := updD_in L (fun _ => none) i hi' hn
        have e2 : L[i].1 = t := by simpa using he
        rw [e2] at h1
        rw [h1]
        obtain ⟨o', ho', hdt⟩ := hdp i _ (List.getElem?_eq_getElem hi')
        have := hval i _ t ho' (by rw [← e2]; exact hdt)
        rw [this, List.getElem?_eq_getElem hi']; rfl
      · rw [hout t (by rw [hdst]; exact ht), updD_out L _ t ht]
    have := hend W b hS hb
    have e : L.foldl (fun a p => a.put (some p.1) p.2) (frD A (fun _ => none)) = frD A f := by rw [putsD_fr, ← hf]
    rw [fr_noneD] at e
    unfold putsD at this
    rw [e] at this
    exact this
end
/-! ### Regions of which some values are not known ahead -/
/-- What an operation is known to yield. -/
def kn (L : List (Nat × Option Value)) (i : Nat) : Option Value := (L[i]?).bind (·.2)
def updZ (f : Nat → Option Value) (d : Option Nat) (v : Value) : Nat → Option Value := match d with
  | some t => fun k => if k = t then some v else f k
  | none => f
section
variable {P : Program} {ops : Array Oper} {Q : Exit → Act → World → Prop}
structure InvZ (ops : Array Oper) (L : List (Nat × Option Value)) (S : (Nat → Option Value) → World → Prop) (l : Array Bool) (f : Nat → Option Value) (W : World) : Prop where
  sz : l.size = ops.size
  st : S f W
  dom : ∀ t, t ∉ dstsD ops → f t = none
  val : ∀ i o t, ops[i]? = some o → o.dst = some t → l.getD i false = true → ∃ v, f t = some v ∧ ∀ u, kn L i = some u → v = u
  old : ∀ i o t, ops[i]? = some o → o.dst = some t → l.getD i false = false → f t = none
  cl : ∀ i o, ops[i]? = some o → l.getD i false = true → ∀ e ∈ o.after, Region.binds .any e = true → l.getD e.on false = true
theorem region_detZ0 {id : Nat} {A : Act} {w : World} (hm : P.follows .mixedOrders = true) (L : List (Nat × Option Value)) (fuel : Nat) (S : (Nat → Option Value) → World → Prop)
    (hd : ((List.range ops.size).all fun i => ((ops[i]?).map (·.after.all fun e => decide (e.on < i))).getD true) = true)
    (hn : (dstsD ops).Nodup) (hlt : (dstsD ops).all (fun t => decide (t < A.tmps.size)) = true)
    (h0 : S (fun _ => none) { w with drawn := w.drawn + 1 })
    (hstep : ∀ (i : Nat) (o : Oper), ops[i]? = some o → ∀ (a : Act) (f : Nat → Option Value) (W : World), S f W → a.tmps.size = A.tmps.size →
      (∀ e ∈ o.after, Region.binds .any e = true → ∀ o', ops[e.on]? = some o' → ∀ t, o'.dst = some t → ∃ v, f t = some v ∧ a.tmps[t]? = some v ∧ ∀ u, kn L e.on = some u → v = u) →
      (∀ t, t ∉ dstsD ops → a.tmps[t]? = A.tmps[t]?) →
      (∀ j o', depB ops fuel i j = true → ops[j]? = some o' → ∀ t, o'.dst = some t → f t = none ∧ a.tmps[t]? = A.tmps[t]?) →
      ∀ K : Act → World → Prop, (∀ v W', (∀ u, kn L i = some u → v = u) → S (updZ f o.dst v) W' → K (a.put o.dst v) W') → if Region.wanted o (yielded ops a.tmps) = true then Oper.wp P o a W K Q else K (a.put o.dst undef) W)
    (hend : ∀ f W, S f W → (∀ t, t ∉ dstsD ops → f t = none) → (∀ i o t, ops[i]? = some o → o.dst = some t → ∃ v, f t = some v ∧ ∀ u, kn L i = some u → v = u) → Q .normal (frD A f) W) :
    (Code.region id ops true).wp P Q A w := by
  refine wp_region_any hm (wpAny_invD (fun l a W => ∃ f, a = frD A f ∧ InvZ ops L S l f W) ?_ ?_ _ _ _ _ ?_ ?_)
  · rintro l a W i ⟨f, rfl, hI⟩ hi
    obtain ⟨h1, h2, h3⟩ := mem_readyD.1 hi
    obtain ⟨hl, he⟩ := getD_falseD h2
    have hff := getD_ff h2
    have ho : ops[i]? = some ops[i] := Array.getElem?_eq_getElem h1
    have hrdy : ∀ e ∈ ops[i].after, Region.binds .any e = true → l.getD e.on false = true := by
      intro e he' hb
      unfold rdyAtD at h3
      rw [ho] at h3
      simp only [Option.map_some, Option.getD_some, Array.all_eq_true] at h3
      obtain ⟨k, hk, rfl⟩ := Array.mem_iff_getElem.1 he'
      have := h3 k hk
      rw [Bool.or_eq_true] at this
      rcases this with h5 | h5
      · rw [hb] at h5; cases h5
      · exact h5
    refine wpOp_step ho (fun K hK => ?_)
    refine hstep i ops[i] ho (frD A f) f W hI.st (by simp [frD]) ?_ ?_ ?_ K ?_
    · intro e he' hb o' hoe t hdt
      obtain ⟨v, hv, hu⟩ := hI.val e.on o' t hoe hdt (hrdy e he' hb)
      have ht : t < A.tmps.size := by
        have := List.all_eq_true.1 hlt t (by unfold dstsD; exact List.mem_filterMap.2 ⟨o', by have := Array.mem_of_getElem? hoe; simpa using this, hdt⟩)
        exact of_decide_eq_true this
      refine ⟨v, hv, ?_, hu⟩
      simp only [frD, Array.getElem?_mapIdx, hv, Option.getD_some]
      rw [Array.getElem?_eq_getElem ht]; rfl
    · intro t ht
      simp only [frD, Array.getElem?_mapIdx, hI.dom t ht, Option.getD_none]
      cases A.tmps[t]? <;> rfl
    · intro j o' hdep hj t hdt
      have hnj : l.getD j false = false := by
        cases hx : l.getD j false with
        | false => rfl
        | true =>
          have := dep_done hI.cl fuel i j hdep hx
          rw [hff] at this; cases this
      have hN := hI.old j o' t hj hdt hnj
      refine ⟨hN, ?_⟩
      simp only [frD, Array.getElem?_mapIdx, hN, Option.getD_none]
      cases A.tmps[t]? <;> rfl
    · intro v W' hu hS
      refine hK _ _ ⟨updZ f ops[i].dst v, ?_, ?_⟩
      · cases hx : ops[i].dst with
        | none => exact fr_put0D _
        | some t => exact fr_putD t _
      · refine ⟨by simpa using hI.sz, hS, ?_, ?_, ?_, ?_⟩
        · intro t ht
          cases hx : ops[i].dst with
          | none => exact hI.dom t ht
          | some t' =>
            have : t ≠ t' := by
              rintro rfl
              exact ht (by unfold dstsD; exact List.mem_filterMap.2 ⟨ops[i], by simp, hx⟩)
            show (if t = t' then _ else f t) = none
            rw [if_neg this]; exact hI.dom t ht
        · intro j o t hoj hdt hdone
          by_cases hij : j = i
          · subst hij
            rw [ho] at hoj
            cases hoj
            rw [hdt]
            exact ⟨v, by show (if t = t then some v else f t) = _; rw [if_pos rfl], hu⟩
          · rw [getD_setN hij] at hdone
            have hv := hI.val j o t hoj hdt hdone
            cases hx : ops[i].dst with
            | none => exact hv
            | some t' =>
              have : t ≠ t' := by
                rintro rfl
                exact hij (dst_uniqD hn hoj ho hdt hx)
              show ∃ v', (if t = t' then some v else f t) = some v' ∧ _
              rw [if_neg this]; exact hv
        · intro j o t hoj hdt hnd
          by_cases hij : j = i
          · subst hij
            rw [getD_setI hl] at hnd; cases hnd
          · rw [getD_setN hij] at hnd
            have hv := hI.old j o t hoj hdt hnd
            cases hx : ops[i].dst with
            | none => exact hv
            | some t' =>
              show (if t = t' then some v else f t) = _
              have : t ≠ t' := by
                rintro rfl
                exact hij (dst_uniqD hn hoj ho hdt hx)
              rw [if_neg this]; exact hv
        · intro j o hoj hdone e he' hb
          by_cases hij : j = i
          · subst hij
            rw [ho] at hoj
            cases hoj
            exact getD_setD (hrdy e he' hb)
          · rw [getD_setN hij] at hdone
            exact getD_setD (hI.cl j o hoj hdone e he' hb)
  · rintro l a W ⟨f, rfl, hI⟩ hr
    have hall := ready_nilD hI.sz hd hr
    refine hend f W hI.st hI.dom (fun i o t ho ht => hI.val i o t ho ht (hall i ?_))
    exact (Array.getElem?_eq_some_iff.1 ho).1
  · rw [Array.toList_replicate]
    exact Nat.le_trans List.count_le_length (by simp)
  · have hff : ∀ i, (Array.replicate ops.size false).getD i false = false := fun i => by
      by_cases hjl : i < ops.size <;> simp [Array.getD, hjl]
    exact ⟨_, (fr_noneD A).symm, by simp, h0, fun _ _ => rfl, (fun i o t ho ht hx => by rw [hff] at hx; cases hx), fun _ _ _ _ _ _ => rfl, (fun i o ho hx => by rw [hff] at hx; cases hx)⟩

/-- As region_detY, where the list says which values are known ahead; what is assumed may speak of the slots written. -/
theorem region_detZ {id : Nat} {A : Act} {w : World} (hm : P.follows .mixedOrders = true) (fuel : Nat) (L : List (Nat × Option Value)) (S : (Nat → Option Value) → World → Prop)
    (hL : L.map (fun p => some p.1) = ops.toList.map (·.dst))
    (hd : ((List.range ops.size).all fun i => ((ops[i]?).map (·.after.all fun e => decide (e.on < i))).getD true) = true)
    (hnb : decide (L.map (·.1)).Nodup = true) (hlt : (L.map (·.1)).all (fun t => decide (t < A.tmps.size)) = true)
    (h0 : S (fun _ => none) { w with drawn := w.drawn + 1 })
    (hstep : ∀ (i : Nat) (o : Oper), ops[i]? = some o → ∀ (a : Act) (f : Nat → Option Value) (W : World), S f W →
      (∀ e ∈ o.after, Region.binds .any e = true → ∀ p, L[e.on]? = some p → ∃ v, f p.1 = some v ∧ a.tmps[p.1]? = some v ∧ ∀ u, p.2 = some u → v = u) →
      (∀ t, (L.map (·.1)).contains t = false → a.tmps[t]? = A.tmps[t]?) →
      (∀ j, depB ops fuel i j = true → ∀ p, L[j]? = some p → f p.1 = none ∧ a.tmps[p.1]? = A.tmps[p.1]?) →
      ∀ K : Act → World → Prop, (∀ v W', (∀ u, kn L i = some u → v = u) → S (updZ f o.dst v) W' → K (a.put o.dst v) W') → if Region.wanted o (yielded ops a.tmps) = true then Oper.wp P o a W K Q else K (a.put o.dst undef) W)
    (hend : ∀ f W, S f W → (∀ p ∈ L, ∃ v, f p.1 = some v ∧ ∀ u, p.2 = some u → v = u) → Q .normal (putsD A (L.map (fun p => (p.1, p.2.getD ((f p.1).getD undef))))) W) :
    (Code.region id ops true).wp P Q A w := by
  have hn := of_decide_eq_true hnb
  have hlen : L.length = ops.size := by
    have := congrArg List.length hL
    simpa using this
  have hdst : dstsD ops = L.map (·.1) := by
    unfold dstsD
    have h1 : ∀ (l : List Oper) (M : List (Nat × Option Value)), M.map (fun p => some p.1) = l.map (·.dst) → l.filterMap (·.dst) = M.map (·.1) := by
      intro l
      induction l with
      | nil => intro M h; cases M with
        | nil => rfl
        | cons p M => simp at h
      | cons o l ih =>
        intro M h
        cases M with
        | nil => simp at h
        | cons p M =>
          simp only [List.map_cons, List.cons.injEq] at h
          rw [List.filterMap_cons, ← h.1, ih M h.2]; rfl
    exact h1 _ _ hL
  have hdp : ∀ (j : Nat) (p : Nat × Option Value), L[j]? = some p → ∃ o, ops[j]? = some o ∧ o.dst = some p.1 := by
    intro j p hp
    have hjl : j < ops.size := by rw [← hlen]; exact (List.getElem?_eq_some_iff.1 hp).1
    refine ⟨ops[j], Array.getElem?_eq_getElem hjl, ?_⟩
    have h1 := congrArg (fun l => l[j]?) hL
    simp only [List.getElem?_map] at h1
    rw [hp, show ops.toList[j]? = some ops[j] by rw [Array.getElem?_toList]; exact Array.getElem?_eq_getElem hjl] at h1
    simpa using h1.symm
  have hkn : ∀ (j : Nat) (p : Nat × Option Value), L[j]? = some p → kn L j = p.2 := fun j p hp => by unfold kn; rw [hp]; rfl
  refine region_detZ0 hm L fuel S hd (by rw [hdst]; exact hn) (by rw [hdst]; exact hlt) h0 ?_ ?_
  · intro i o ho a f W hS hz hdep hout hold K hK
    refine hstep i o ho a f W hS ?_ (fun t ht => hout t (by rw [hdst]; intro hm; rw [List.contains_iff_mem.2 hm] at ht; cases ht)) ?_ K hK
    · intro e he hb p hp
      obtain ⟨o', ho', hdt⟩ := hdp e.on p hp
      obtain ⟨v, h1, h2, h3⟩ := hdep e he hb _ ho' p.1 hdt
      rw [hkn e.on p hp] at h3
      exact ⟨v, h1, h2, h3⟩
    · intro j hj p hp
      obtain ⟨o', ho', hdt⟩ := hdp j p hp
      exact hold j o' hj ho' p.1 hdt
  · intro f W hS hout hval
    have hp : ∀ p ∈ L, ∃ v, f p.1 = some v ∧ ∀ u, p.2 = some u → v = u := by
      intro p hp
      obtain ⟨j, hj, rfl⟩ := List.mem_iff_getElem.1 hp
      obtain ⟨o', ho', hdt⟩ := hdp j _ (List.getElem?_eq_getElem hj)
      obtain ⟨v, h1, h2⟩ := hval j o' _ ho' hdt
      rw [hkn j _ (List.getElem?_eq_getElem hj)] at h2
      exact ⟨v, h1, h2⟩
    have hM : (L.map (fun p => (p.1, p.2.getD ((f p.1).getD undef)))).map (·.1) = L.map (·.1) := by rw [List.map_map]; rfl
    have hf : f = (L.map (fun p => (p.1, p.2.getD ((f p.1).getD undef)))).foldl updD (fun _ => none) := by
      funext t
      by_cases ht : t ∈ L.map (·.1)
      · obtain ⟨i, hi, he⟩ := List.mem_iff_getElem.1 ht
        have hi' : i < L.length := by simpa using hi
        have hi2 : i < (L.map (fun p => (p.1, p.2.getD ((f p.1).getD undef)))).length := by simpa using hi'
        have h1 := updD_in (L.map (fun p => (p.1, p.2.getD ((f p.1).getD undef)))) (fun _ => none) i hi2 (by rw [hM]; exact hn)
        have e2 : L[i].1 = t := by simpa using he
        simp only [List.getElem_map] at h1
        rw [e2] at h1
        rw [h1]
        obtain ⟨v, hv, hu⟩ := hp L[i] (List.getElem_mem hi')
        rw [e2] at hv
        rw [hv]
        cases hx : L[i].2 with
        | none => rfl
        | some u => rw [hu u hx]; rfl
      · rw [hout t (by rw [hdst]; exact ht), updD_out _ _ t (by rw [hM]; exact ht)]
    have := hend f W hS hp
    have e : (L.map (fun p => (p.1, p.2.getD ((f p.1).getD undef)))).foldl (fun a p => a.put (some p.1) p.2) (frD A (fun _ => none)) = frD A f := by rw [putsD_fr, ← hf]
    rw [fr_noneD] at e
    unfold putsD at this
    rw [e] at this
    exact this
end
/-! ### Regions of which some operations have no slot -/
def knW (L : List (Option Nat × Option Value)) (i : Nat) : Option Value := (L[i]?).bind (·.2)
def updB (d : Nat → Bool) (i : Nat) : Nat → Bool := fun k => if k = i then true else d k
section
variable {P : Program} {ops : Array Oper} {Q : Exit → Act → World → Prop}
structure InvW (ops : Array Oper) (L : List (Option Nat × Option Value)) (S : (Nat → Bool) → (Nat → Option Value) → World → Prop) (l : Array Bool) (f : Nat → Option Value) (W : World) : Prop where
  sz : l.size = ops.size
  st : S (fun k => l.getD k false) f W
  dom : ∀ t, t ∉ dstsD ops → f t = none
  val : ∀ i o t, ops[i]? = some o → o.dst = some t → l.getD i false = true → ∃ v, f t = some v ∧ ∀ u, knW L i = some u → v = u
  old : ∀ i o t, ops[i]? = some o → o.dst = some t → l.getD i false = false → f t = none
  cl : ∀ i o, ops[i]? = some o → l.getD i false = true → ∀ e ∈ o.after, Region.binds .any e = true → l.getD e.on false = true
theorem region_detW0 {id : Nat} {A : Act} {w : World} (hm : P.follows .mixedOrders = true) (L : List (Option Nat × Option Value)) (fuel : Nat) (S : (Nat → Bool) → (Nat → Option Value) → World → Prop)
    (hd : ((List.range ops.size).all fun i => ((ops[i]?).map (·.after.all fun e => decide (e.on < i))).getD true) = true)
    (hn : (dstsD ops).Nodup) (hlt : (dstsD ops).all (fun t => decide (t < A.tmps.size)) = true)
    (h0 : S (fun _ => false) (fun _ => none) { w with drawn := w.drawn + 1 })
    (hstep : ∀ (i : Nat) (o : Oper), ops[i]? = some o → ∀ (a : Act) (d : Nat → Bool) (f : Nat → Option Value) (W : World), S d f W → d i = false → (∀ e ∈ o.after, Region.binds .any e = true → d e.on = true) → (∀ j, depB ops fuel i j = true → d j = false) → a.tmps.size = A.tmps.size →
      (∀ e ∈ o.after, Region.binds .any e = true → ∀ o', ops[e.on]? = some o' → ∀ t, o'.dst = some t → ∃ v, f t = some v ∧ a.tmps[t]? = some v ∧ ∀ u, knW L e.on = some u → v = u) →
      (∀ t, t ∉ dstsD ops → a.tmps[t]? = A.tmps[t]?) →
      (∀ j o', depB ops fuel i j = true → ops[j]? = some o' → ∀ t, o'.dst = some t → f t = none ∧ a.tmps[t]? = A.tmps[t]?) →
      ∀ K : Act → World → Prop, (∀ v W', (∀ u, knW L i = some u → v = u) → S (updB d i) (updZ f o.dst v) W' → K (a.put o.dst v) W') → if Region.wanted o (yielded ops a.tmps) = true then Oper.wp P o a W K Q else K (a.put o.dst undef) W)
    (hend : ∀ d f W, S d f W → (∀ i, i < ops.size → d i = true) → (∀ t, t ∉ dstsD ops → f t = none) → (∀ i o t, ops[i]? = some o → o.dst = some t → ∃ v, f t = some v ∧ ∀ u, knW L i = some u → v = u) → Q .normal (frD A f) W) :
    (Code.region id ops true).wp P Q A w := by
  refine wp_region_any hm (wpAny_invD (fun l a W => ∃ f, a = frD A f ∧ InvW ops L S l f W) ?_ ?_ _ _ _ _ ?_ ?_)
  · rintro l a W i ⟨f, rfl, hI⟩ hi
    obtain ⟨h1, h2, h3⟩ := mem_readyD.1 hi
    obtain ⟨hl, he⟩ := getD_falseD h2
    have hff := getD_ff h2
    have ho : ops[i]? = some ops[i] := Array.getElem?_eq_getElem h1
    have hrdy : ∀ e ∈ ops[i].after, Region.binds .any e = true → l.getD e.on false = true := by
      intro e he' hb
      unfold rdyAtD at h3
      rw [ho] at h3
      simp only [Option.map_some, Option.getD_some, Array.all_eq_true] at h3
      obtain ⟨k, hk, rfl⟩ := Array.mem_iff_getElem.1 he'
      have := h3 k hk
      rw [Bool.or_eq_true] at this
      rcases this with h5 | h5
      · rw [hb] at h5; cases h5
      · exact h5
    refine wpOp_step ho (fun K hK => ?_)
    refine hstep i ops[i] ho (frD A f) (fun k => l.getD k false) f W hI.st hff hrdy ?_ (by simp [frD]) ?_ ?_ ?_ K ?_
    · intro j hj
      show l.getD j false = false
      cases hx : l.getD j false with
      | false => rfl
      | true =>
        have := dep_done hI.cl fuel i j hj hx
        rw [hff] at this; cases this
    · intro e he' hb o' hoe t hdt
      obtain ⟨v, hv, hu⟩ := hI.val e.on o' t hoe hdt (hrdy e he' hb)
      have ht : t < A.tmps.size := by
        have := List.all_eq_true.1 hlt t (by unfold dstsD; exact List.mem_filterMap.2 ⟨o', by have := Array.mem_of_getElem? hoe; simpa using this, hdt⟩)
        exact of_decide_eq_true this
      refine ⟨v, hv, ?_, hu⟩
      simp only [frD, Array.getElem?_mapIdx, hv, Option.getD_some]
      rw [Array.getElem?_eq_getElem ht]; rfl
    · intro t ht
      simp only [frD, Array.getElem?_mapIdx, hI.dom t ht, Option.getD_none]
      cases A.tmps[t]? <;> rfl
    · intro j o' hdep hj t hdt
      have hnj : l.getD j false = false := by
        cases hx : l.getD j false with
        | false => rfl
        | true =>
          have := dep_done hI.cl fuel i j hdep hx
          rw [hff] at this; cases this
      have hN := hI.old j o' t hj hdt hnj
      refine ⟨hN, ?_⟩
      simp only [frD, Array.getElem?_mapIdx, hN, Option.getD_none]
      cases A.tmps[t]? <;> rfl
    · intro v W' hu hS
      refine hK _ _ ⟨updZ f ops[i].dst v, ?_, ?_⟩
      · cases hx : ops[i].dst with
        | none => exact fr_put0D _
        | some t => exact fr_putD t _
      · have hfun : updB (fun k => l.getD k false) i = fun k => (l.setIfInBounds i true).getD k false := by
          funext k
          unfold updB
          by_cases hk : k = i
          · rw [if_pos hk, hk, getD_setI hl]
          · rw [if_neg hk, getD_setN hk]
        refine ⟨by simpa using hI.sz, by rw [← hfun]; exact hS, ?_, ?_, ?_, ?_⟩
        · intro t ht
          cases hx : ops[i].dst with
          | none => exact hI.dom t ht
          | some t' =>
            have : t ≠ t' := by
              rintro rfl
              exact ht (by unfold dstsD; exact List.mem_filterMap.2 ⟨ops[i], by simp, hx⟩)
            show (if t = t' then _ else f t) = none
            rw [if_neg this]; exact hI.dom t ht
        · intro j o t hoj hdt hdone
          by_cases hij : j = i
          · subst hij
            rw [ho] at hoj
            cases hoj
            rw [hdt]
            exact ⟨v, by show (if t = t then some v else f t) = _; rw [if_pos rfl], hu⟩
          · rw [getD_setN hij] at hdone
            have hv := hI.val j o t hoj hdt hdone
            cases hx : ops[i].dst with
            | none => exact hv
            | some t' =>
              have : t ≠ t' := by
                rintro rfl
                exact hij (dst_uniqD hn hoj ho hdt hx)
              show ∃ v', (if t = t' then some v else f t) = some v' ∧ _
              rw [if_neg this]; exact hv
        · intro j o t hoj hdt hnd
          by_cases hij : j = i
          · subst hij
            rw [getD_setI hl] at hnd; cases hnd
          · rw [getD_setN hij] at hnd
            have hv := hI.old j o t hoj hdt hnd
            cases hx : ops[i].dst with
            | none => exact hv
            | some t' =>
              show (if t = t' then some v else f t) = _
              have : t ≠ t' := by
                rintro rfl
                exact hij (dst_uniqD hn hoj ho hdt hx)
              rw [if_neg this]; exact hv
        · intro j o hoj hdone e he' hb
          by_cases hij : j = i
          · subst hij
            rw [ho] at hoj
            cases hoj
            exact getD_setD (hrdy e he' hb)
          · rw [getD_setN hij] at hdone
            exact getD_setD (hI.cl j o hoj hdone e he' hb)
  · rintro l a W ⟨f, rfl, hI⟩ hr
    have hall := ready_nilD hI.sz hd hr
    refine hend _ f W hI.st hall hI.dom (fun i o t ho ht => hI.val i o t ho ht (hall i ?_))
    exact (Array.getElem?_eq_some_iff.1 ho).1
  · rw [Array.toList_replicate]
    exact Nat.le_trans List.count_le_length (by simp)
  · have hff : ∀ i, (Array.replicate ops.size false).getD i false = false := fun i => by
      by_cases hjl : i < ops.size <;> simp [Array.getD, hjl]
    exact ⟨_, (fr_noneD A).symm, by simp, (by rw [show (fun k => (Array.replicate ops.size false).getD k false) = fun _ => false from funext hff]; exact h0), fun _ _ => rfl, (fun i o t ho ht hx => by rw [hff] at hx; cases hx), fun _ _ _ _ _ _ => rfl, (fun i o ho hx => by rw [hff] at hx; cases hx)⟩

/-- As region_detZ, where operations may have no slot; what is assumed may speak of what is done. -/
theorem region_detW {id : Nat} {A : Act} {w : World} (hm : P.follows .mixedOrders = true) (fuel : Nat) (L : List (Option Nat × Option Value)) (S : (Nat → Bool) → (Nat → Option Value) → World → Prop)
    (hL : L.map (·.1) = ops.toList.map (·.dst))
    (hd : ((List.range ops.size).all fun i => ((ops[i]?).map (·.after.all fun e => decide (e.on < i))).getD true) = true)
    (hnb : decide (L.filterMap (·.1)).Nodup = true) (hlt : (L.filterMap (·.1)).all (fun t => decide (t < A.tmps.size)) = true)
    (h0 : S (fun _ => false) (fun _ => none) { w with drawn := w.drawn + 1 })
    (hstep : ∀ (i : Nat) (o : Oper), ops[i]? = some o → ∀ (a : Act) (d : Nat → Bool) (f : Nat → Option Value) (W : World), S d f W → d i = false → (∀ e ∈ o.after, Region.binds .any e = true → d e.on = true) → (∀ j, depB ops fuel i j = true → d j = false) →
      (∀ e ∈ o.after, Region.binds .any e = true → ∀ p, L[e.on]? = some p → ∀ t, p.1 = some t → ∃ v, f t = some v ∧ a.tmps[t]? = some v ∧ ∀ u, p.2 = some u → v = u) →
      (∀ t, (L.filterMap (·.1)).contains t = false → a.tmps[t]? = A.tmps[t]?) →
      (∀ j, depB ops fuel i j = true → ∀ p, L[j]? = some p → ∀ t, p.1 = some t → f t = none ∧ a.tmps[t]? = A.tmps[t]?) →
      ∀ K : Act → World → Prop, (∀ v W', (∀ u, knW L i = some u → v = u) → S (updB d i) (updZ f o.dst v) W' → K (a.put o.dst v) W') → if Region.wanted o (yielded ops a.tmps) = true then Oper.wp P o a W K Q else K (a.put o.dst undef) W)
    (hend : ∀ d f W, S d f W → (∀ i, i < ops.size → d i = true) → (∀ p ∈ L, ∀ t, p.1 = some t → ∃ v, f t = some v ∧ ∀ u, p.2 = some u → v = u) → Q .normal (putsD A (L.filterMap (fun (p : Option Nat × Option Value) => p.1.map (fun t => (t, p.2.getD ((f t).getD undef)))))) W) :
    (Code.region id ops true).wp P Q A w := by
  have hn := of_decide_eq_true hnb
  have hlen : L.length = ops.size := by
    have := congrArg List.length hL
    simpa using this
  have hdst : dstsD ops = L.filterMap (·.1) := by
    unfold dstsD
    have e1 : ops.toList.filterMap (·.dst) = (ops.toList.map (·.dst)).filterMap _root_.id := by rw [List.filterMap_map]; rfl
    have e2 : L.filterMap (·.1) = (L.map (·.1)).filterMap _root_.id := by rw [List.filterMap_map]; rfl
    rw [e1, e2, hL]
  have hdp : ∀ (j : Nat) (p : Option Nat × Option Value), L[j]? = some p → ∃ o, ops[j]? = some o ∧ o.dst = p.1 := by
    intro j p hp
    have hjl : j < ops.size := by rw [← hlen]; exact (List.getElem?_eq_some_iff.1 hp).1
    refine ⟨ops[j], Array.getElem?_eq_getElem hjl, ?_⟩
    have h1 := congrArg (fun l => l[j]?) hL
    simp only [List.getElem?_map] at h1
    rw [hp, show ops.toList[j]? = some ops[j] by rw [Array.getElem?_toList]; exact Array.getElem?_eq_getElem hjl] at h1
    simpa using h1.symm
  have hkn : ∀ (j : Nat) (p : Option Nat × Option Value), L[j]? = some p → knW L j = p.2 := fun j p hp => by unfold knW; rw [hp]; rfl
  refine region_detW0 hm L fuel S hd (by rw [hdst]; exact hn) (by rw [hdst]; exact hlt) h0 ?_ ?_
  · intro i o ho a d f W hS hdi hdn hnd hz hdep hout hold K hK
    refine hstep i o ho a d f W hS hdi hdn hnd ?_ (fun t ht => hout t (by rw [hdst]; intro hm; rw [List.contains_iff_mem.2 hm] at ht; cases ht)) ?_ K hK
    · intro e he hb p hp t ht
      obtain ⟨o', ho', hdt⟩ := hdp e.on p hp
      obtain ⟨v, h1, h2, h3⟩ := hdep e he hb _ ho' t (hdt.trans ht)
      rw [hkn e.on p hp] at h3
      exact ⟨v, h1, h2, h3⟩
    · intro j hj p hp t ht
      obtain ⟨o', ho', hdt⟩ := hdp j p hp
      exact hold j o' hj ho' t (hdt.trans ht)
  · intro d f W hS hall hout hval
    have hp : ∀ p ∈ L, ∀ t, p.1 = some t → ∃ v, f t = some v ∧ ∀ u, p.2 = some u → v = u := by
      intro p hp t ht
      obtain ⟨j, hj, rfl⟩ := List.mem_iff_getElem.1 hp
      obtain ⟨o', ho', hdt⟩ := hdp j _ (List.getElem?_eq_getElem hj)
      obtain ⟨v, h1, h2⟩ := hval j o' t ho' (hdt.trans ht)
      rw [hkn j _ (List.getElem?_eq_getElem hj)] at h2
      exact ⟨v, h1, h2⟩
    have hM : (L.filterMap (fun (p : Option Nat × Option Value) => p.1.map (fun t => (t, p.2.getD ((f t).getD undef))))).map (·.1) = L.filterMap (·.1) := by
      rw [List.map_filterMap]
      congr 1
      funext p
      cases p.1 <;> rfl
    have hf : f = (L.filterMap (fun (p : Option Nat × Option Value) => p.1.map (fun t => (t, p.2.getD ((f t).getD undef))))).foldl updD (fun _ => none) := by
      funext t
      by_cases ht : t ∈ L.filterMap (·.1)
      · have ht2 := ht
        rw [← hM] at ht2
        obtain ⟨i, hi, he⟩ := List.mem_iff_getElem.1 ht2
        have hi2 : i < (L.filterMap (fun (p : Option Nat × Option Value) => p.1.map (fun t => (t, p.2.getD ((f t).getD undef))))).length := by simpa using hi
        have h1 := updD_in (L.filterMap (fun (p : Option Nat × Option Value) => p.1.map (fun t => (t, p.2.getD ((f t).getD undef))))) (fun _ => none) i hi2 (by rw [hM]; exact hn)
        have hm2 := List.getElem_mem hi2
        have he2 : (L.filterMap (fun (p : Option Nat × Option Value) => p.1.map (fun t => (t, p.2.getD ((f t).getD undef)))))[i].1 = t := by simpa using he
        rw [he2] at h1
        rw [h1]
        obtain ⟨p, hpL, hpe⟩ := List.mem_filterMap.1 hm2
        cases hp1 : p.1 with
        | none => rw [hp1] at hpe; cases hpe
        | some t' =>
          rw [hp1] at hpe
          simp only [Option.map_some, Option.some.injEq] at hpe
          have ett : t' = t := by rw [← he2, ← hpe]
          subst ett
          obtain ⟨v, hv, hu⟩ := hp p hpL t' hp1
          rw [← hpe, hv]
          cases hx : p.2 with
          | none => rfl
          | some u => rw [hu u hx]; rfl
      · rw [hout t (by rw [hdst]; exact ht), updD_out _ _ t (by rw [hM]; exact ht)]
    have := hend d f W hS hall hp
    have e : (L.filterMap (fun (p : Option Nat × Option Value) => p.1.map (fun t => (t, p.2.getD ((f t).getD undef))))).foldl (fun a p => a.put (some p.1) p.2) (frD A (fun _ => none)) = frD A f := by rw [putsD_fr, ← hf]
    rw [fr_noneD] at e
    unfold putsD at this
    rw [e] at this
    exact this
end
end Go.Proofs.YtcfmpplhghkagaaDoor
namespace Go.Proofs.YtcfmpplhghkagaaDoor
open Go.RowKit Go.Sort Go.Shelf Go.Lib

theorem itB_sz {v : Int} (h : 0 ≤ v ∧ v ≤ 999999999) : (itB v).size ≤ 1000 := by
  have := dec_len (u := v.toNat) (by omega)
  show (Lib.decDigits v.toNat).toArray.size ≤ 1000
  have e : (Lib.decDigits v.toNat).toArray.size = (dec v.toNat).length := by simp
  omega
theorem itoaI_any (v : Int) (h : 0 ≤ v ∧ v ≤ 999999999) (w : World) (hm : LM w) : Calls Tryd.prog 18 #[.int .i64 v] w fun e w' => e = .returned (.string (itB v)) ∧ RowKit.Below w.heap.size w w' := by
  have := itoaG_any v h w hm
  rw [itoa_pos h.1] at this
  exact this
theorem txt_same (G : Gr) : txtG G = txtN G := by
  have e : ∀ l : List Ed, (l.map edT).flatten = bodyT (l.map edN) := by
    intro l
    induction l with
    | nil => rfl
    | cons x l ih =>
      rw [List.map_cons, List.flatten_cons, ih]
      have : edT x = lineT (edN x) := by unfold edT; rw [lineB_three]; simp [itB, lineT, edN]
      rw [this]
      simp [bodyT]
  unfold txtG txtN prT
  rw [e, lineB_three]
  simp [itB, grapB, graphT]

/-- What a line's region has done. -/
structure SG (w1 W0 : World) (B : Nat) (bs : List UInt8) (row : List Value) (a b : Option Value) (W : World) : Prop where
  bl : RowKit.Below w1.heap.size w1 W
  be : b = none → RowKit.Below W0.heap.size W0 W ∧ ∀ v, a = some v → ∃ k, v = .slice (some ⟨k, 0, none⟩) 3 3 ∧ VRow W k 9 row
  af : b ≠ none → Lib.IsBuilderF 48 5 B B (Lib.byteCells bs) W
theorem SG.start {w1 W0 W : World} {B : Nat} {bs : List UInt8} {row : List Value} (h1 : RowKit.Below w1.heap.size w1 W) (h2 : RowKit.Below W0.heap.size W0 W) : SG w1 W0 B bs row none none W :=
  ⟨h1, fun _ => ⟨h2, (fun v h => by cases h)⟩, fun h => absurd rfl h⟩
theorem SG.step {w1 W0 W W' : World} {B : Nat} {bs : List UInt8} {row : List Value} {a b : Option Value} (h : SG w1 W0 B bs row a b W) (hB : RowKit.Below W.heap.size W W') : SG w1 W0 B bs row a b W' :=
  ⟨h.bl.trans (hB.mono h.bl.size), fun e => by
    obtain ⟨h1, h2⟩ := h.be e
    refine ⟨h1.trans (hB.mono h1.size), fun v hv => ?_⟩
    obtain ⟨k, e1, e2⟩ := h2 v hv
    exact ⟨k, e1, e2.below hB e2.lt⟩, fun e => isb_below (h.af e) hB⟩
theorem SG.made {w1 W0 W : World} {B : Nat} {bs : List UInt8} {row : List Value} {a b : Option Value} (h : SG w1 W0 B bs row a b W) : SG w1 W0 B bs row (some (.slice (some ⟨W.heap.size, 0, none⟩) 3 3)) b (W.alloc (.cells row.toArray 9)) := by
  have h2 := h.step ((RowKit.Below.refl _ W).alloc (Nat.le_refl _) (.cells row.toArray 9))
  exact ⟨h2.bl, fun e => ⟨(h2.be e).1, fun v hv => by cases hv; exact ⟨_, rfl, VRow.new W _ _⟩⟩, h2.af⟩
theorem SG.done {w1 W0 W W' : World} {B : Nat} {bs : List UInt8} {row : List Value} {a b : Option Value} {v : Value} (h : SG w1 W0 B bs row a b W) (hB : RowKit.Below w1.heap.size W W') (hi : Lib.IsBuilderF 48 5 B B (Lib.byteCells bs) W') : SG w1 W0 B bs row a (some v) W' :=
  ⟨h.bl.trans hB, (fun e => by cases e), fun _ => hi⟩

set_option maxRecDepth 100000 in
set_option maxHeartbeats 4000000 in
theorem gPrint_ok (G : Gr) (p : Option Addr) (c : Nat) (w : World) (hin : Sg 3 w edE p G.es) (hv : Vg G) (hm : LM w) :
    Calls Tryd.prog 6 #[(.agg #[.int .i64 G.q, .int .i64 G.n, .slice p G.es.length c])] w fun e w' => e = .returned (.tuple #[.string ⟨(txtG G).toArray⟩, .int .i64 0]) ∧ RowKit.Below w.heap.size w w' := by
  have HIN := hidI hin; have HV := hidI hv; have HM := hidI hm
  have HS : Hid ((0 ≤ G.q ∧ G.q ≤ 999999999) ∧ (0 ≤ G.n ∧ G.n ≤ 999999999) ∧ ∀ x ∈ G.es, (0 ≤ x.f ∧ x.f ≤ 999999999) ∧ (0 ≤ x.l ∧ x.l ≤ 999999999) ∧ (0 ≤ x.t ∧ x.t ≤ 999999999)) := by
    have h1 := hv.q1; have h2 := hv.q2; have h3 := hv.n1; have h4 := hv.n2
    refine ⟨by omega, by omega, fun x hx => ?_⟩
    have := hv.ins x hx
    omega
  have hl := hv.len
  clear hin hv hm
  have b0 : VRow (w.alloc (.cells #[.int .i64 G.q, .int .i64 G.n, .slice p G.es.length c] 24)) w.heap.size 24 [.int .i64 G.q, .int .i64 G.n, .slice p G.es.length c] := VRow.new w _ _
  have hB0 : RowKit.Below w.heap.size w (w.alloc (.cells #[.int .i64 G.q, .int .i64 G.n, .slice p G.es.length c] 24)) := (RowKit.Below.refl _ _).alloc (Nat.le_refl _) _
  go_enter Tryd.func6, Tryd.ntmps6
  go_wp2_with fail
  refine (gCheck_r G p c _ 0 (chkG_ok.2 HV.out) (HIN.out.below hB0) (by omega)).mono ?_
  rintro e w1 ⟨rfl, hB1⟩
  have x1 := hB0.trans (hB1.mono hB0.size)
  have c0 := b0.below hB1 b0.lt
  clear hB1 b0 hB0
  have hz : w.heap.size < w1.heap.size := c0.lt
  go_upto_region 5 with fail
  obtain ⟨W0, hW0⟩ : ∃ W0, W0 = w1.alloc (.cells #[.pointer none, .slice none 0 0] 48) := ⟨_, rfl⟩
  have hbd : Lib.IsBuilderF 48 5 w1.heap.size w1.heap.size (Lib.byteCells []) W0 := by
    subst hW0
    exact Lib.IsBuilderF.of (.inl ⟨Nat.le_refl _, .slice none 0 0, World.alloc_heap_new _ _, World.ownsRow_nil _ _ _ _, by simp [Value.ownBlock]⟩)
  have d0 : VRow W0 w.heap.size 24 [.int .i64 G.q, .int .i64 G.n, .slice p G.es.length c] := by subst hW0; exact c0.alloc _
  have y2 : RowKit.Below w1.heap.size w1 W0 := by subst hW0; exact (RowKit.Below.refl _ _).alloc (Nat.le_refl _) _
  rw [← hW0]
  clear hW0
  have HBD := hidI hbd
  have HLM : Hid (LM w1) := HM.out.below x1
  clear hbd
  go_cut [20] (fun s20 wx => Lib.IsBuilderF 48 5 w1.heap.size w1.heap.size (Lib.byteCells (lineB [grapB, itB G.q, itB G.n])) wx ∧ RowKit.Below w1.heap.size w1 wx)
  case first =>
    refine region_detZ (by kernel_rfl) 9 [(12, some (.func (.func 15) #[] #[.pointer (some ⟨w1.heap.size, 0, none⟩)])), (13, some (.pointer (some ⟨w.heap.size, 0, none⟩))), (14, some (.int .i64 G.q)), (15, some (.string (itB G.q))), (16, some (.pointer (some ⟨w.heap.size, 1, none⟩))), (17, some (.int .i64 G.n)), (18, some (.string (itB G.n))), (19, none), (20, some (.tuple #[]))] (fun f W => SG w1 W0 w1.heap.size (lineB [grapB, itB G.q, itB G.n]) [.string grapB, .string (itB G.q), .string (itB G.n)] (f 19) (f 20) W) (by kernel_rfl) (by kernel_rfl) (by kernel_rfl) (by kernel_rfl) (SG.start (y2.trans (below_dN (RowKit.Below.refl _ _) 1)) (below_dN (RowKit.Below.refl _ _) 1)) ?_ ?_
    focus
      intro i o ho a f W hS hdep hout hold K hK
      have hc0 := (hS.bl.cell hz).trans (c0.at 0 rfl)
      have hc1 := (hS.bl.cell (p := ⟨w.heap.size, 1, none⟩) hz).trans (c0.at 1 rfl)
      have hlm := HLM.out.below hS.bl
      have hil : i < 9 := (Array.getElem?_eq_some_iff.1 ho).1
      have hcases : i = 0 ∨ i = 1 ∨ i = 2 ∨ i = 3 ∨ i = 4 ∨ i = 5 ∨ i = 6 ∨ i = 7 ∨ i = 8 := by omega
      clear hil
      have u1 := hout 1 (by kernel_rfl)
      have u5 := hout 5 (by kernel_rfl)
      simp at u1 u5
      clear hout
      rcases hcases with rfl | rfl | rfl | rfl | rfl | rfl | rfl | rfl | rfl
      all_goals (simp only [List.getElem?_toArray, List.getElem?_cons_succ, List.getElem?_cons_zero, Option.some.injEq] at ho; subst ho; simp [Region.binds] at hdep; (try go_split_ands))
      all_goals go_simp
      all_goals first
        | exact hK _ _ (fun u hu => Option.some.inj hu) hS
        | ((with_reducible refine (itoaI_any G.q HS.out.1 W hlm).mono ?_); rintro e wa ⟨rfl, hBa⟩; exact hK _ _ (fun u hu => Option.some.inj hu) (hS.step hBa))
        | ((with_reducible refine (itoaI_any G.n HS.out.2.1 W hlm).mono ?_); rintro e wa ⟨rfl, hBa⟩; exact hK _ _ (fun u hu => Option.some.inj hu) (hS.step hBa))
        | exact hK _ _ (fun u hu => by cases hu) (SG.made hS)
        | (obtain ⟨v, hv, hat⟩ : ∃ v, f 19 = some v ∧ a.tmps[19]? = some v := by assumption
           obtain ⟨hB0, hrow⟩ := hS.be (hold 8 (by kernel_rfl) _ rfl).1
           obtain ⟨kb, rfl, hr⟩ := hrow v hv
           rw [hat]
           refine (gLine_any w1.heap.size w1.heap.size kb 3 [] grapB (itB G.q) (itB G.n) W (isb_below HBD.out hB0) hr (Nat.le_refl _) (by decide) (itB_sz HS.out.1) (itB_sz HS.out.2.1) (by simp) hS.bl.size).mono ?_
           rintro e w3 ⟨rfl, HB3, hB3, _⟩
           exact hK _ _ (fun u hu => Option.some.inj hu) (hS.done hB3 HB3))
    intro f W hS hf
    obtain ⟨v20, hv20, -⟩ := hf (20, some (.tuple #[])) (by simp)
    have hI := hS.af (by rw [hv20]; simp)
    have hBl := hS.bl
    simp only [putsD, List.map_cons, List.map_nil, Option.getD_some, Option.getD_none, List.foldl_cons, List.foldl_nil, Act.put, List.setIfInBounds_toArray, List.set_cons_zero, List.set_cons_succ]
    generalize (f 19).getD undef = v19
    clear hf hv20 hS
    go_wp2_with fail
    go_meet
    exact ⟨hI, hBl⟩
  case rest =>
    obtain ⟨hbd, hB2⟩ := hcut
    have d2 := (c0.below hB2 hz).at 2 rfl
    clear d0 HBD y2
    go_wp2
    go_loopw [24] (fun iv wr => ∃ k : Nat, k ≤ G.es.length ∧ iv = .int .i64 k ∧ Lib.IsBuilderF 48 5 w1.heap.size w1.heap.size (Lib.byteCells (lineB [grapB, itB G.q, itB G.n] ++ ((G.es.take k).map edT).flatten)) wr ∧ RowKit.Below w1.heap.size w1 wr ∧ Hid ((lineB [grapB, itB G.q, itB G.n] ++ ((G.es.take k).map edT).flatten).length ≤ 3003 * (k + 1))) (fun iv _ => G.es.length - (intOf iv).toNat)
    case atStart => exact ⟨0, by omega, rfl, by simpa using hbd, hB2, by unfold Hid; have := line_size (a := grapB) (by decide) (itB_sz HS.out.1) (itB_sz HS.out.2.1); simpa using this⟩
    case round =>
      obtain ⟨k, hk, rfl, hbk, hB, HL⟩ := hrel
      have HBK := hidI hbk
      clear hbk
      by_cases hlt : k < G.es.length
      · obtain ⟨b3, o3, rfl, hb3, e0, e1, e2⟩ := (HIN.out.below (x1.trans (hB.mono x1.size))).get3 k hlt rfl
        have HT : Hid (lineB [grapB, itB G.q, itB G.n] ++ ((G.es.take (k + 1)).map edT).flatten = (lineB [grapB, itB G.q, itB G.n] ++ ((G.es.take k).map edT).flatten) ++ edT G.es[k]) := by
          unfold Hid; rw [txt_snoc G.es k hlt, List.append_assoc]
        have HX := hidI (HS.out.2.2 G.es[k] (List.getElem_mem hlt))
        have hbz := hB.size
        generalize lineB [grapB, itB G.q, itB G.n] ++ ((G.es.take k).map edT).flatten = M at *
        generalize G.es[k] = x at *
        go_upto_region 9 with fail
        obtain ⟨W1, hW1⟩ : ∃ W1, W1 = wr.alloc (.cells #[.int .i64 x.f, .int .i64 x.l, .int .i64 x.t] 40) := ⟨_, rfl⟩
        have y0 : VRow W1 wr.heap.size 40 [.int .i64 x.f, .int .i64 x.l, .int .i64 x.t] := by subst hW1; exact VRow.new wr _ _
        have HB1 : Hid (Lib.IsBuilderF 48 5 w1.heap.size w1.heap.size (Lib.byteCells M) W1) := by subst hW1; exact HBK.out.alloc _
        have hb1 : RowKit.Below w1.heap.size w1 W1 := by subst hW1; exact hB.alloc hbz _
        rw [← hW1]
        clear hW1 e0 e1 e2
        have g0 := y0.at 0 rfl; have g1 := y0.at 1 rfl; have g2 := y0.at 2 rfl
        have hzz := hb1.size
        have hlm1 : Hid (LM w1) := HM.out.below x1
        refine region_detZ (by kernel_rfl) 12 [(28, some (.func (.func 15) #[] #[.pointer (some ⟨w1.heap.size, 0, none⟩)])), (29, some (.pointer (some ⟨wr.heap.size, 0, none⟩))), (30, some (.int .i64 x.f)), (31, some (.string (itB x.f))), (32, some (.pointer (some ⟨wr.heap.size, 1, none⟩))), (33, some (.int .i64 x.l)), (34, some (.string (itB x.l))), (35, some (.pointer (some ⟨wr.heap.size, 2, none⟩))), (36, some (.int .i64 x.t)), (37, some (.string (itB x.t))), (38, none), (39, some (.tuple #[]))] (fun f W => SG w1 W1 w1.heap.size (M ++ lineB [itB x.f, itB x.l, itB x.t]) [.string (itB x.f), .string (itB x.l), .string (itB x.t)] (f 38) (f 39) W ∧ KT W1 W) (by kernel_rfl) (by kernel_rfl) (by kernel_rfl) (by kernel_rfl) ⟨SG.start (hb1.trans (below_dN (RowKit.Below.refl _ _) 1)) (below_dN (RowKit.Below.refl _ _) 1), KT.below (below_dN (RowKit.Below.refl _ _) 1)⟩ ?_ ?_
        focus
          intro i o ho a f W hS' hdep hout hold K hK
          obtain ⟨hS, hkt⟩ := hS'
          have hy := hkt.vrow y0
          have hc0 := hy.at 0 rfl; have hc1 := hy.at 1 rfl; have hc2 := hy.at 2 rfl
          have hlm := hlm1.out.below hS.bl
          have hil : i < 12 := (Array.getElem?_eq_some_iff.1 ho).1
          have hcases : i = 0 ∨ i = 1 ∨ i = 2 ∨ i = 3 ∨ i = 4 ∨ i = 5 ∨ i = 6 ∨ i = 7 ∨ i = 8 ∨ i = 9 ∨ i = 10 ∨ i = 11 := by omega
          clear hil
          have u1 := hout 5 (by kernel_rfl)
          have u5 := hout 7 (by kernel_rfl)
          simp at u1 u5
          clear hout g0 g1 g2
          rcases hcases with rfl | rfl | rfl | rfl | rfl | rfl | rfl | rfl | rfl | rfl | rfl | rfl
          all_goals (simp only [List.getElem?_toArray, List.getElem?_cons_succ, List.getElem?_cons_zero, Option.some.injEq] at ho; subst ho; simp [Region.binds] at hdep; (try go_split_ands))
          all_goals go_simp
          all_goals first
            | exact hK _ _ (fun u hu => Option.some.inj hu) ⟨hS, hkt⟩
            | ((with_reducible refine (itoaI_any x.f HX.out.1 W hlm).mono ?_); rintro e wa ⟨rfl, hBa⟩; exact hK _ _ (fun u hu => Option.some.inj hu) ⟨hS.step hBa, hkt.trans (KT.below hBa)⟩)
            | ((with_reducible refine (itoaI_any x.l HX.out.2.1 W hlm).mono ?_); rintro e wa ⟨rfl, hBa⟩; exact hK _ _ (fun u hu => Option.some.inj hu) ⟨hS.step hBa, hkt.trans (KT.below hBa)⟩)
            | ((with_reducible refine (itoaI_any x.t HX.out.2.2 W hlm).mono ?_); rintro e wa ⟨rfl, hBa⟩; exact hK _ _ (fun u hu => Option.some.inj hu) ⟨hS.step hBa, hkt.trans (KT.below hBa)⟩)
            | exact hK _ _ (fun u hu => by cases hu) ⟨SG.made hS, hkt.trans (KT.below ((RowKit.Below.refl _ W).alloc (Nat.le_refl _) _))⟩
            | (obtain ⟨v, hv, hat⟩ : ∃ v, f 38 = some v ∧ a.tmps[38]? = some v := by assumption
               obtain ⟨hB0, hrow⟩ := hS.be (hold 11 (by kernel_rfl) _ rfl).1
               obtain ⟨kb, rfl, hr⟩ := hrow v hv
               rw [hat]
               refine (gLine_any w1.heap.size w1.heap.size kb 3 M (itB x.f) (itB x.l) (itB x.t) W (isb_below HB1.out hB0) hr (Nat.le_refl _) (itB_sz HX.out.1) (itB_sz HX.out.2.1) (itB_sz HX.out.2.2) (by have := HL.out; omega) hS.bl.size).mono ?_
               rintro e w3 ⟨rfl, HB3, hB3, kt3⟩
               exact hK _ _ (fun u hu => Option.some.inj hu) ⟨hS.done hB3 HB3, hkt.trans kt3⟩)
        intro f W hS' hf
        obtain ⟨hS, -⟩ := hS'
        obtain ⟨v39, hv39, -⟩ := hf (39, some (.tuple #[])) (by simp)
        have hI := hidI (hS.af (by rw [hv39]; simp))
        have hBl := hidI hS.bl
        simp only [putsD, List.map_cons, List.map_nil, Option.getD_some, Option.getD_none, List.foldl_cons, List.foldl_nil, Act.put, List.setIfInBounds_toArray, List.set_cons_zero, List.set_cons_succ]
        generalize (f 38).getD undef = v38
        clear hf hv39 hS g0 g1 g2
        go_wp2_with fail
        go_roundw
        case rel => exact ⟨k + 1, by omega, by go_num, by rw [HT.out]; exact hI.out, hBl.out, by rw [Hid, HT.out, List.length_append]; have := line_size (itB_sz HX.out.1) (itB_sz HX.out.2.1) (itB_sz HX.out.2.2); have := HL.out; unfold edT; omega⟩
        case measure => simp [intOf]; omega
      · obtain rfl : k = G.es.length := by omega
        rw [List.take_length] at HBK
        have hbz := hB.size
        go_wp2_with (go_at_call 19; refine (Tryd.Builder_String_any_f w1.heap.size w1.heap.size _ wr HBK.out hbz).mono ?_; rintro e w4 ⟨rfl, hbd4, hB4⟩)
        go_ret2
        exact ⟨rfl, x1.trans ((hB.trans hB4).mono x1.size)⟩

set_option maxRecDepth 100000 in
set_option maxHeartbeats 1000000 in
theorem gPrint_any (G : Gr) (p : Option Addr) (c : Nat) (w : World) (hin : Sg 3 w edE p G.es) (hl : G.es.length ≤ 10000) (hm : LM w) :
    Calls Tryd.prog 6 #[(.agg #[.int .i64 G.q, .int .i64 G.n, .slice p G.es.length c])] w fun e w' => e = .returned (.tuple #[.string (prA G).1, .int .i64 (prA G).2]) ∧ RowKit.Below w.heap.size w w' := by
  obtain ⟨r, hr⟩ : ∃ r, chkG G = r := ⟨_, rfl⟩
  by_cases hr0 : r = 0
  · subst hr0
    have HK : Hid (prA G = (⟨(txtN G).toArray⟩, 0)) := if_pos hr
    rw [show prA G = _ from HK.out]
    have := gPrint_ok G p c w hin (chkG_ok.1 hr) hm
    rw [txt_same] at this
    exact this
  · have HK : Hid (prA G = (⟨#[]⟩, 1)) := by unfold Hid prA; rw [if_neg (by rw [hr]; exact hr0)]
    rw [show prA G = _ from HK.out]
    have hB0 : RowKit.Below w.heap.size w (w.alloc (.cells #[.int .i64 G.q, .int .i64 G.n, .slice p G.es.length c] 24)) := (RowKit.Below.refl _ _).alloc (Nat.le_refl _) _
    have hrb : (r == 0) = false := by simpa using hr0
    have HR := hidI hr
    clear hr
    go_enter Tryd.func6, Tryd.ntmps6
    go_wp2_with fail
    refine (gCheck_r G p c _ r HR.out (hin.below hB0) (by omega)).mono ?_
    rintro e w1 ⟨rfl, hB1⟩
    have x1 := hB0.trans (hB1.mono hB0.size)
    go_wp2
    go_ret2
    exact ⟨rfl, x1⟩
end Go.Proofs.YtcfmpplhghkagaaDoor
namespace Go.Proofs.YtcfmpplhghkagaaDoor
open Go.RowKit Go.Sort Go.Shelf Go.Lib

theorem infoNm : (Tryd.prog.info? 3).map (fun i => (i.zero, i.size, i.bytes)) = some (some (.int .i64 0), 1, 8) := by kernel_rfl
def natV (n : Nat) : Value := .int .i64 (n : Int)
/-- The numbers of a line, and whether it has them. -/
def RetNs (r : Option (List Nat)) (w : World) (e : Ending) (w' : World) : Prop :=
  match r with
  | some l => ∃ p c, e = .returned (.tuple #[.slice p l.length c, .bool true]) ∧ Sl w' natV p l ∧ l.length ≤ c ∧ RowKit.Below w.heap.size w w'
  | none => e = .returned (.tuple #[.slice none 0 0, .bool false]) ∧ RowKit.Below w.heap.size w w'
theorem RetNs.no {r : Option (List Nat)} {w w' : World} (h : r = none) (hB : RowKit.Below w.heap.size w w') : RetNs r w (.returned (.tuple #[.slice none 0 0, .bool false])) w' := by
  subst h; exact ⟨rfl, hB⟩
theorem RetNs.yes {r : Option (List Nat)} {l : List Nat} {w w' : World} {v : Value} {B : Nat} (h : r = some l) (ho : w'.ownsRow B 3 1 v l.length (l.map natV)) (hB : RowKit.Below w.heap.size w w') : RetNs r w (.returned (.tuple #[v, .bool true])) w' := by
  subst h
  obtain ⟨p, c, rfl, hs⟩ := own_sl ho
  exact ⟨p, c, rfl, hs, own_cap ho _ _ _ rfl, hB⟩
theorem pieces_sum : ∀ (c : UInt8) (s : List UInt8), ∀ p ∈ spl c s, p.length ≤ s.length
  | c, [], p, h => by
    simp only [spl, List.mem_singleton] at h
    subst h; simp
  | c, b :: r, p, h => by
    have ih := pieces_sum c r
    unfold spl at h
    split at h
    · rcases List.mem_cons.1 h with rfl | h
      · simp
      · have := ih p h; simp; omega
    · split at h
      · rename_i h0; exact absurd h0 (spl_ne c r)
      · rename_i p' q h0
        rw [h0] at ih
        rcases List.mem_cons.1 h with rfl | h
        · have := ih p' (by simp); simp; omega
        · have := ih p (List.mem_cons_of_mem _ h); simp; omega
theorem spl_len_le (c : UInt8) (s : List UInt8) : (spl c s).length ≤ s.length + 1 := by
  rw [spl_len]
  have := List.count_le_length (a := c) (l := s)
  omega
/-- What has been read of a line's words. -/
def numK (ls : List ByteArray) (k : Nat) : List Nat := (ls.take k).map (fun x => valD x.data.toList)
theorem numK_len {ls : List ByteArray} {k : Nat} (h : k ≤ ls.length) : (numK ls k).length = k := by unfold numK; rw [List.length_map, List.length_take]; omega
theorem numK_succ {ls : List ByteArray} {k : Nat} (h : k < ls.length) : numK ls (k + 1) = numK ls k ++ [valD ls[k].data.toList] := by
  unfold numK; rw [List.take_succ_eq_append_getElem h, List.map_append]; rfl
theorem nums_yes {ls : List ByteArray} {s : List UInt8} (hls : ls.map (·.data.toList) = spl 32 s) {n : Nat} (hn : ls.length = n) (h : ∀ i (hi : i < ls.length), wordN ls[i].data.toList = true) : numsP s n = some (numK ls ls.length) := by
  unfold numsP
  rw [← hls, if_pos]
  · unfold numK; rw [List.take_length, List.map_map]; rfl
  · refine ⟨by rw [List.length_map]; exact hn, ?_⟩
    rw [List.all_map, List.all_eq_true]
    intro x hx
    obtain ⟨i, hi, rfl⟩ := List.mem_iff_getElem.1 hx
    exact h i hi
theorem nums_no {ls : List ByteArray} {s : List UInt8} (hls : ls.map (·.data.toList) = spl 32 s) {n i : Nat} (hi : i < ls.length) (h : wordN ls[i].data.toList = false) : numsP s n = none := by
  unfold numsP
  rw [← hls, if_neg]
  rintro ⟨_, ha⟩
  rw [List.all_map, List.all_eq_true] at ha
  have := ha ls[i] (List.getElem_mem hi)
  simp [h] at this
theorem nums_short {ls : List ByteArray} {s : List UInt8} (hls : ls.map (·.data.toList) = spl 32 s) {n : Nat} (hn : ls.length ≠ n) : numsP s n = none := by
  unfold numsP
  rw [← hls, if_neg]
  rintro ⟨h, _⟩
  rw [List.length_map] at h
  exact hn h

set_option maxRecDepth 100000 in
set_option maxHeartbeats 2000000 in
theorem gNums_any (s : ByteArray) (n : Nat) (w : World) (hs : s.size ≤ 100000) (hn : n ≤ 1000) (hm : LM w) : Calls Tryd.prog 23 #[.string s, .int .i64 n] w (RetNs (numsP s.data.toList n) w) := by
  obtain ⟨i0, hi0, hz0, hz1, hz3⟩ := info_parts infoNm
  have HM := hidI hm
  clear hm
  obtain ⟨R, hR⟩ : ∃ R, numsP s.data.toList n = R := ⟨_, rfl⟩
  have HR := hidI hR
  rw [hR]
  clear hR
  go_enter Tryd.func23, Tryd.ntmps23
  go_wp2_with fail
  refine (split_any 32 s w (by omega) HM.out).mono ?_
  rintro e w1 ⟨ls, hls, rfl, hsl, hB1⟩
  have HLS := hidI hls
  have HSL := hidI hsl
  have hlen : ls.length ≤ 100001 := by
    have h1 := congrArg List.length hls
    rw [List.length_map] at h1
    have h2 := spl_len_le 32 s.data.toList
    have h3 : s.data.toList.length = s.size := by simp
    omega
  have HZ : Hid (∀ i (hi : i < ls.length), ls[i].size ≤ 100000) := fun i hi => by
    have hm : ls[i].data.toList ∈ spl 32 s.data.toList := by rw [← HLS.out]; exact List.mem_map_of_mem (List.getElem_mem hi)
    have h1 := pieces_sum 32 _ _ hm
    have h3 : s.data.toList.length = s.size := by simp
    have h4 : ls[i].data.toList.length = ls[i].size := by simp
    omega
  clear hls hsl
  by_cases hnl : ls.length = n
  · have hb : ((ls.length : Int) != (n : Int)) = false := by simp [hnl]
    have hb2 : ((ls.length : Int) == (n : Int)) = true := by simp [hnl]
    have HN := hidI hnl
    clear hnl
    have hz1' := hB1.size
    go_wp2
    go_loopw [7, 20] (fun ov iv wr => ∃ k : Nat, k ≤ ls.length ∧ iv = .int .i64 k ∧ wr.ownsRow w1.heap.size 3 1 ov k ((numK ls k).map natV) ∧ Hid (∀ i (hi : i < ls.length), i < k → wordN ls[i].data.toList = true) ∧ RowKit.Below w1.heap.size w1 wr) (fun _ iv _ => ls.length - (intOf iv).toNat)
    case atStart => exact ⟨0, by omega, rfl, World.ownsRow_nil _ _ _ _, fun i hi h => absurd h (by omega), RowKit.Below.refl _ _⟩
    case round =>
      obtain ⟨k, hk, rfl, hown, HW, hB⟩ := hrel
      have xr := hB1.trans (hB.mono hB1.size)
      by_cases hlt : k < ls.length
      · obtain ⟨b3, o3, hpo, hb3, hc3⟩ := (HSL.out.below hB).get k hlt
        cases hpo
        have e0 := hc3 k hlt
        rw [Nat.zero_add] at e0
        clear hc3
        have hxz := HZ.out k hlt
        have hm := HM.out.below xr
        have HMr := hidI hm
        clear hm
        have HN := hidI (numK_succ hlt)
        have HWK : Hid (wordN ls[k].data.toList = true → ∀ i (hi : i < ls.length), i < k + 1 → wordN ls[i].data.toList = true) := fun h i hi hik => by
          by_cases e : i = k
          · subst e; exact h
          · exact HW.out i hi (by omega)
        have HNO : Hid (wordN ls[k].data.toList = false → R = none) := fun h => HR.out.symm.trans (nums_no HLS.out hlt h)
        generalize ls[k] = x at *
        by_cases hw : wordN x.data.toList = true
        · have HA := hidI (atoi_yes x (by omega) hw wr)
          have hv : (valD x.data.toList : Int) ≤ 999999999 := (atoi_word hw).2
          have HB := hidI (word_back hw)
          have HWK2 := hidI (HWK.out hw)
          clear hw
          generalize valD x.data.toList = v at *
          have d1 : decide ((v : Int) < 0) = false := decide_eq_false (by omega)
          have d2 : decide (999999999 < (v : Int)) = false := decide_eq_false (by omega)
          have hown0 := hidI hown
          have HNN := hidI HN
          go_wp2_with fail
          refine HA.out.mono ?_
          rintro e w2 ⟨rfl, hB2⟩
          have e2 := (hB2.cell (World.block_lt_of_cell? wr _ e0)).trans e0
          have own2 := hown.below hB2
          have hB12 := hB.trans (hB2.mono hB.size)
          clear hown hown0 e0
          go_wp2_with fail
          refine (itoaG_any (v : Int) (by omega) w2 (HMr.out.below hB2)).mono ?_
          rintro e w3 ⟨rfl, hB3⟩
          have own3 := own2.below hB3
          have hB13 := hB12.trans (hB3.mono hB12.size)
          have hq : (⟨(Lib.itoa (v : Int)).toArray⟩ : ByteArray) = x := by rw [HB.out]
          rw [hq]
          have hbx : (x.toList == x.toList) = true := by simp
          have hbx2 : (x.toList != x.toList) = false := by simp
          clear hq own2
          have hnew := cell_one_at w3 (.int .i64 (v : Int)) 3 w3.heap.size rfl
          go_wp2_with (at_builtin; refine wpList_append_own _ rfl _ _ 41 rfl w1.heap.size 3 i0 (.int .i64 0) 1 8 Tryd.underlying41 hi0 hz0 hz1 hz3 rfl (by decide) _ _ _ rfl (own3.alloc _) ⟨w3.heap.size, 0, none⟩ 1 1 [.int .i64 (v : Int)] rfl rfl hnew (by simp [Value.oneCell']) (by simp [maxLen]; omega) (by omega) (by rw [World.size_alloc]; have := hB13.size; omega) ?_; intro v' w4 hown' hgrow _)
          go_roundw
          case rel => exact ⟨k + 1, by omega, by go_num, by rw [HNN.out.out, List.map_append]; exact hown', HWK2.out, (hB13.alloc hB13.size _).grown hgrow (Nat.le_trans hB13.size (by simp)) (fun j e => (own3.lt j e).1)⟩
          case measure => simp [intOf]; omega
        · have hwf : wordN x.data.toList = false := by simpa using hw
          have HA := hidI (atoi_no x (by omega) hwf wr HMr.out)
          have hr := HNO.out hwf
          have HRN := hidI hr
          clear hw hwf hr HNO HWK
          go_wp2_with fail
          refine HA.out.mono ?_
          rintro e w2 ⟨v, g, rfl, hg, hB2⟩
          have xr2 := xr.trans (hB2.mono xr.size)
          have e2 := (hB2.cell (World.block_lt_of_cell? wr _ e0)).trans e0
          clear e0 hown
          rcases hg with ⟨rfl, hgv⟩ | ⟨tt, pp, rfl⟩
          · have HG := hidI hgv
            clear hgv
            by_cases h0 : 0 ≤ v
            · have d1 : decide (v < 0) = false := decide_eq_false (by omega)
              by_cases h9 : v ≤ 999999999
              · have d2 : decide (999999999 < v) = false := decide_eq_false (by omega)
                have hne := HG.out h0 h9
                have hbx := bts_f hne
                have hbx2 : ((⟨(Lib.itoa v).toArray⟩ : ByteArray).toList != x.toList) = true := by unfold bne; rw [hbx]; rfl
                have HI := hidI (itoaG_any v ⟨h0, h9⟩ w2 (HMr.out.below hB2))
                generalize (⟨(Lib.itoa v).toArray⟩ : ByteArray) = y at *
                clear hne HG
                go_wp2_with fail
                refine HI.out.mono ?_
                rintro e w3 ⟨rfl, hB3⟩
                have xr3 := xr2.trans (hB3.mono xr2.size)
                go_wp2
                go_ret2
                exact RetNs.no HRN.out xr3
              · have d2 : decide (999999999 < v) = true := decide_eq_true (by omega)
                go_wp2
                go_ret2
                exact RetNs.no HRN.out xr2
            · have d1 : decide (v < 0) = true := decide_eq_true (by omega)
              go_wp2
              go_ret2
              exact RetNs.no HRN.out xr2
          · go_wp2
            go_ret2
            exact RetNs.no HRN.out xr2
      · obtain rfl : k = ls.length := by omega
        have HRY : Hid (R = some (numK ls ls.length)) := HR.out.symm.trans (nums_yes HLS.out HN.out (fun i hi => HW.out i hi hi))
        have HKL : Hid ((numK ls ls.length).length = ls.length) := numK_len (Nat.le_refl _)
        go_wp2
        go_ret2
        exact RetNs.yes HRY.out (by rw [HKL.out]; exact hown) xr
  · have hr : R = none := HR.out.symm.trans (nums_short HLS.out hnl)
    have hne : (ls.length : Int) ≠ (n : Int) := by omega
    have hb : ((ls.length : Int) != (n : Int)) = true := by simpa using hne
    have hb2 : ((ls.length : Int) == (n : Int)) = false := by simpa using hne
    clear hnl hne
    have HRN := hidI hr
    clear hr
    go_wp2
    go_ret2
    exact RetNs.no HRN.out hB1
end Go.Proofs.YtcfmpplhghkagaaDoor
namespace Go.Proofs.YtcfmpplhghkagaaDoor
open Go.RowKit Go.Sort Go.Shelf Go.Lib

theorem nil_of_size {r : ByteArray} (h : r.size = 0) : r.data.toList = [] := by
  have e : r.data.toList.length = r.size := by simp
  exact List.length_eq_zero_iff.1 (by omega)
theorem ne_of_size {r : ByteArray} (h : r.size ≠ 0) : r.data.toList ≠ [] := fun e => h (by
  have e1 : r.data.toList.length = r.size := by simp
  rw [e] at e1
  simpa using e1.symm)
def strZ : Value → Nat
  | .string s => s.size
  | _ => 0
theorem body_ge : ∀ es : List (Nat × Nat × Nat), es.length ≤ (bodyT es).length
  | [] => by simp
  | e :: es => by
    have h1 := body_ge es
    have h2 : 0 < (lineT e).length := List.length_pos_iff.2 (lineT_ne e)
    have e1 : bodyT (e :: es) = lineT e ++ bodyT es := by simp [bodyT]
    rw [e1, List.length_append, List.length_cons]; omega
theorem prT_ge (q n : Nat) (es : List (Nat × Nat × Nat)) : es.length ≤ (prT q n es).length := by
  have := body_ge es
  unfold prT
  simp only [List.length_append, List.length_cons]; omega
theorem rd_len {s : List UInt8} {q n : Nat} {es : List (Nat × Nat × Nat)} {r : List UInt8} (h : Rd s q n es r) : es.length ≤ s.length := by
  have := prT_ge q n es
  rw [h.1, List.length_append]; omega
theorem RetGr.of0 {x : Gr × Int} {k : Int} {w w' : World} (hr : x = (gr0, k)) (hB : RowKit.Below w.heap.size w w') : RetGr x.1 x.2 w (.returned (.tuple #[.agg #[.int .i64 0, .int .i64 0, .slice none 0 0], .int .i64 k])) w' :=
  RetGr.of (G' := gr0) hr (Sg.nil _ _ _ _) (Nat.le_refl _) hB
/-- What stands in memory while a graph is read. -/
structure PaM (w : World) (q n : Int) (l : List Ed) (p : Option Addr) (m c : Nat) (wr : World) : Prop where
  z : VRow wr w.heap.size 24 [.int .i64 0, .int .i64 0, .slice none 0 0]
  g : VRow wr (w.heap.size + 1) 24 [.int .i64 q, .int .i64 n, .slice p m c]
  o : wr.ownsRow (w.heap.size + 1 + 1) 40 3 (.slice p m c) l.length (cat l)
  b : RowKit.Below w.heap.size w wr
  s : w.heap.size + 1 + 1 ≤ wr.heap.size
theorem PaM.dr {w : World} {q n : Int} {l : List Ed} {p : Option Addr} {m c : Nat} {wr w' : World} (h : PaM w q n l p m c wr) (hD : Dr wr w') : PaM w q n l p m c w' :=
  ⟨h.z.dr hD, h.g.dr hD, h.o.dr hD, h.b.trans (hD.below _), by rw [hD.size]; exact h.s⟩
theorem PaM.below {w : World} {q n : Int} {l : List Ed} {p : Option Addr} {m c : Nat} {wr w' : World} (h : PaM w q n l p m c wr) (hB : RowKit.Below wr.heap.size wr w') : PaM w q n l p m c w' :=
  ⟨h.z.below hB h.z.lt, h.g.below hB h.g.lt, h.o.below hB, h.b.trans (hB.mono h.b.size), Nat.le_trans h.s hB.size⟩

end Go.Proofs.YtcfmpplhghkagaaDoor
