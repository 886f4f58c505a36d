/-
  Words, plain lemmas and walks, merged: Dt, Xg, Xa, Xh.
-/
import Derived.Test.YtjpilmedlecdhaaGreatZxc
import Derived.Orders
import Derived.RegionTactic
import Derived.Test.YtjpilmedlecdhaaGreatZxi
import Derived.Test.YtjpilmedlecdhaaGreatZxj
import Derived.Test.YtjpilmedlecdhaaGreatZxh
import Derived.Test.YtjpilmedlecdhaaGreatZxb
import Derived.OwnWalk
import Derived.Maps.AppendAt
set_option linter.unusedVariables false
set_option linter.unusedSimpArgs false
namespace Go.Proofs.YtjpilmedlecdhaaGreat
open Go

section
variable {P : Program} {ops : Array Oper} {Q : Exit → Act → World → Prop} {md : Region.Mode}
/-- All that an operation waits for is done. -/
def rdyAtD (md : Region.Mode) (ops : Array Oper) (listed : Array Bool) (i : Nat) : Bool := ((ops[i]?).map (·.after.all fun e => !Region.binds md e || listed.getD e.on false)).getD false
theorem mem_readyD {listed : Array Bool} {i : Nat} : i ∈ Region.ready md ops listed ↔ i < ops.size ∧ listed.getD i true = false ∧ rdyAtD md ops listed i = true := by
  unfold Region.ready rdyAtD
  rw [List.mem_filter, List.mem_range, Bool.and_eq_true, Bool.not_eq_true']
theorem getD_falseD {listed : Array Bool} {i : Nat} (h : listed.getD i true = false) : ∃ hi : i < listed.size, listed[i] = false := by
  by_cases hi : i < listed.size
  · refine ⟨hi, ?_⟩
    simpa [Array.getD, hi] using h
  · simp [Array.getD, hi] at h
theorem wpAny_invD (Inv : Array Bool → Act → World → Prop)
    (hstep : ∀ listed a w i, Inv listed a w → i ∈ Region.ready md ops listed → wpOp P ops Q i (Inv (listed.setIfInBounds i true)) a w)
    (hend : ∀ listed a w, Inv listed a w → Region.ready md ops listed = [] → Q .normal a w) :
    ∀ (fuel : Nat) (listed : Array Bool) (a : Act) (w : World), listed.toList.count false ≤ fuel → Inv listed a w → wpAny P md ops Q fuel listed a w
  | 0, listed, a, w, hc, hI => by
    have hr : Region.ready md ops listed = [] := by
      rw [List.eq_nil_iff_forall_not_mem]
      intro i hi
      obtain ⟨hl, he⟩ := getD_falseD (mem_readyD.1 hi).2.1
      have hm : false ∈ listed.toList := by rw [← he]; exact Array.getElem_mem_toList hl
      have := List.count_pos_iff.2 hm
      omega
    exact ⟨hr, hend _ _ _ hI hr⟩
  | fuel + 1, listed, a, w, hc, hI => ⟨hend _ _ _ hI, fun i hi => wpOp_mono (fun a' w' h => wpAny_invD Inv hstep hend fuel _ a' w' (by
      obtain ⟨hl, he⟩ := getD_falseD (mem_readyD.1 hi).2.1
      rw [Array.toList_setIfInBounds, List.count_set (by simpa using hl)]
      have hm : false ∈ listed.toList := by rw [← he]; exact Array.getElem_mem_toList hl
      have := List.count_pos_iff.2 hm
      have e2 : (listed.toList[i]'(by simpa using hl)) = false := by simpa using he
      rw [e2]
      rw [if_pos (by rfl), if_neg (by decide)]
      omega) h) (hstep _ _ _ i hI hi)⟩
/-- Where nothing is ready, all is done. -/
theorem ready_nilD {listed : Array Bool} (hs : listed.size = ops.size) (hd : ((List.range ops.size).all fun i => ((ops[i]?).map (·.after.all fun e => decide (e.on < i))).getD true) = true)
    (h : Region.ready md ops listed = []) : ∀ i, i < ops.size → listed.getD i false = true := by
  intro i
  induction i using Nat.strongRecOn with
  | ind i ih =>
    intro hi
    cases hx : listed.getD i false with
    | true => rfl
    | false =>
      exfalso
      have hl : i < listed.size := by omega
      have hx2 : listed.getD i true = false := by simpa [Array.getD, hl] using hx
      have : i ∈ Region.ready md ops listed := by
        rw [mem_readyD]
        refine ⟨hi, hx2, ?_⟩
        have h1 := List.all_eq_true.1 hd i (List.mem_range.2 hi)
        unfold rdyAtD
        rw [Array.getElem?_eq_getElem hi] at h1 ⊢
        simp only [Option.map_some, Option.getD_some, Array.all_eq_true] at h1 ⊢
        intro j hj
        have h2 := of_decide_eq_true (h1 j hj)
        rw [ih _ h2 (by omega), Bool.or_true]
      rw [h] at this
      cases this
end

/-! ### Frames of which some slots are written -/
def frD (A : Act) (f : Nat → Option Value) : Act := { A with tmps := A.tmps.mapIdx fun i v => (f i).getD v }
theorem fr_noneD (A : Act) : frD A (fun _ => none) = A := by
  unfold frD
  have : (A.tmps.mapIdx fun i v => ((none : Option Value)).getD v) = A.tmps := by apply Array.ext <;> simp
  rw [this]
theorem fr_putD {A : Act} {f : Nat → Option Value} (t : Nat) (v : Value) : (frD A f).put (some t) v = frD A (fun i => if i = t then some v else f i) := by
  unfold frD Act.put
  simp only
  congr 1
  apply Array.ext
  · simp
  · intro i h1 h2
    by_cases e : t = i
    · subst e; simp
    · have e' : ¬ i = t := fun h => e h.symm
      rw [Array.getElem_setIfInBounds_ne (by simpa using h2) e]
      simp [e']
theorem fr_put0D {A : Act} {f : Nat → Option Value} (v : Value) : (frD A f).put none v = frD A f := rfl
theorem fr_eval0D {A : Act} {f : Nat → Option Value} {t : Nat} (h : f t = none) : (frD A f).eval (.tmp t) = A.eval (.tmp t) := by
  show (A.tmps.mapIdx fun i v => (f i).getD v).getD t undef = A.tmps.getD t undef
  by_cases ht : t < A.tmps.size
  · simp [Array.getD, ht, h]
  · simp [Array.getD, ht]
theorem fr_eval1D {A : Act} {f : Nat → Option Value} {t : Nat} {v : Value} (h : f t = some v) (ht : t < A.tmps.size) : (frD A f).eval (.tmp t) = v := by
  show (A.tmps.mapIdx fun i v => (f i).getD v).getD t undef = v
  simp [Array.getD, ht, h]

theorem frD_eval {A : Act} {f : Nat → Option Value} {t : Nat} {v : Value} (h : f t = some v) (ht : t < A.tmps.size) : (frD A f).eval (.tmp t) = v := fr_eval1D h ht
theorem frD_eval_out {A : Act} {f : Nat → Option Value} {t : Nat} (h : f t = none) : (frD A f).eval (.tmp t) = A.eval (.tmp t) := fr_eval0D h
theorem dst_uniqD {ops : Array Oper} (hn : (ops.toList.filterMap (·.dst)).Nodup) {i j : Nat} {o o' : Oper} {t : Nat} (hi : ops[i]? = some o) (hj : ops[j]? = some o') (ht : o.dst = some t) (ht' : o'.dst = some t) : i = j := by
  have key : ∀ (l : List Oper), (l.filterMap (·.dst)).Nodup → ∀ (i j : Nat) (o o' : Oper), l[i]? = some o → l[j]? = some o' → o.dst = some t → o'.dst = some t → i = j := by
    intro l
    induction l with
    | nil => intro _ i j o o' h; simp at h
    | cons x l ih =>
      intro hn i j o o' hi hj h1 h2
      have hn' : (l.filterMap (·.dst)).Nodup := by
        rw [List.filterMap_cons] at hn
        split at hn
        · exact hn
        · exact (List.nodup_cons.1 hn).2
      have hx : ∀ (k : Nat) (o'' : Oper), l[k]? = some o'' → o''.dst = some t → x.dst ≠ some t := by
        intro k o'' hk ho'' he
        rw [List.filterMap_cons, he] at hn
        exact (List.nodup_cons.1 hn).1 (List.mem_filterMap.2 ⟨o'', List.mem_of_getElem? hk, ho''⟩)
      cases i with
      | zero =>
        cases j with
        | zero => rfl
        | succ j => simp at hi hj; subst hi; exact absurd h1 (hx j o' hj h2)
      | succ i =>
        cases j with
        | zero => simp at hi hj; subst hj; exact absurd h2 (hx i o hi h1)
        | succ j => simp at hi hj; rw [ih hn' i j o o' hi hj h1 h2]
  exact key ops.toList hn i j o o' (by simpa using hi) (by simpa using hj) ht ht'

/-- The slots that the region writes: each once. -/
def dstsD (ops : Array Oper) : List Nat := ops.toList.filterMap (·.dst)
section
variable {P : Program} {ops : Array Oper} {Q : Exit → Act → World → Prop}
theorem getD_setD {l : Array Bool} {i j : Nat} (h : l.getD j false = true) : (l.setIfInBounds i true).getD j false = true := by
  by_cases hj : j < l.size
  · by_cases e : i = j
    · subst e; simp [Array.getD, hj]
    · simp [Array.getD, hj] at h
      simp [Array.getD, hj, e, h]
  · simp [Array.getD, hj] at h
/-- What stands in a frame under way: what is done has written its value; nothing else is written. -/
structure InvD (ops : Array Oper) (vals : Nat → Value) (S : World → Prop) (l : Array Bool) (f : Nat → Option Value) (W : World) : Prop where
  sz : l.size = ops.size
  st : S W
  dom : ∀ t, t ∉ dstsD ops → f t = none
  val : ∀ i o t, ops[i]? = some o → o.dst = some t → l.getD i false = true → f t = some (vals i)
/-- A drawn region of which each operation yields a known value, whatever else is done. -/
theorem region_det {id : Nat} {A : Act} {w : World} (hm : P.follows .mixedOrders = true) (vals : Nat → Value) (S : World → Prop)
    (hd : ((List.range ops.size).all fun i => ((ops[i]?).map (·.after.all fun e => decide (e.on < i))).getD true) = true)
    (hn : (dstsD ops).Nodup) (hlt : (dstsD ops).all (fun t => decide (t < A.tmps.size)) = true)
    (h0 : S { w with drawn := w.drawn + 1 })
    (hstep : ∀ (i : Nat) (o : Oper), ops[i]? = some o → ∀ (a : Act) (W : World), S W → a.tmps.size = A.tmps.size →
      (∀ e ∈ o.after, Region.binds .any e = true → ∀ o', ops[e.on]? = some o' → ∀ t, o'.dst = some t → a.tmps[t]? = some (vals e.on)) →
      (∀ t, t ∉ dstsD ops → a.tmps[t]? = A.tmps[t]?) →
      ∀ K : Act → World → Prop, (∀ W', S W' → K (a.put o.dst (vals i)) W') → if Region.wanted o (yielded ops a.tmps) = true then Oper.wp P o a W K Q else K (a.put o.dst undef) W)
    (hend : ∀ f W, S W → (∀ t, t ∉ dstsD ops → f t = none) → (∀ i o t, ops[i]? = some o → o.dst = some t → f t = some (vals i)) → Q .normal (frD A f) W) :
    (Code.region id ops true).wp P Q A w := by
  refine wp_region_any hm (wpAny_invD (fun l a W => ∃ f, a = frD A f ∧ InvD ops vals S l f W) ?_ ?_ _ _ _ _ ?_ ?_)
  · rintro l a W i ⟨f, rfl, hI⟩ hi
    obtain ⟨h1, h2, h3⟩ := mem_readyD.1 hi
    obtain ⟨hl, he⟩ := getD_falseD h2
    have ho : ops[i]? = some ops[i] := Array.getElem?_eq_getElem h1
    refine wpOp_step ho (fun K hK => ?_)
    refine hstep i ops[i] ho (frD A f) W hI.st (by simp [frD]) ?_ ?_ K ?_
    · intro e he' hb o' hoe t hdt
      have h4 : l.getD e.on false = true := by
        unfold rdyAtD at h3
        rw [ho] at h3
        simp only [Option.map_some, Option.getD_some, Array.all_eq_true] at h3
        obtain ⟨k, hk, rfl⟩ := Array.mem_iff_getElem.1 he'
        have := h3 k hk
        rw [Bool.or_eq_true] at this
        rcases this with h5 | h5
        · rw [hb] at h5; cases h5
        · exact h5
      have hv := hI.val e.on o' t hoe hdt h4
      have ht : t < A.tmps.size := by
        have := List.all_eq_true.1 hlt t (by unfold dstsD; exact List.mem_filterMap.2 ⟨o', by have := Array.mem_of_getElem? hoe; simpa using this, hdt⟩)
        exact of_decide_eq_true this
      simp only [frD, Array.getElem?_mapIdx, hv, Option.getD_some]
      rw [Array.getElem?_eq_getElem ht]; rfl
    · intro t ht
      simp only [frD, Array.getElem?_mapIdx, hI.dom t ht, Option.getD_none]
      cases A.tmps[t]? <;> rfl
    · intro W' hS
      refine hK _ _ ⟨(match ops[i].dst with | some t => fun k => if k = t then some (vals i) else f k | none => f), ?_, ?_⟩
      · cases hx : ops[i].dst with
        | none => exact fr_put0D _
        | some t => exact fr_putD t _
      · refine ⟨by simpa using hI.sz, hS, ?_, ?_⟩
        · intro t ht
          cases hx : ops[i].dst with
          | none => exact hI.dom t ht
          | some t' =>
            have : t ≠ t' := by
              rintro rfl
              exact ht (by unfold dstsD; exact List.mem_filterMap.2 ⟨ops[i], by simp, hx⟩)
            show (if t = t' then _ else f t) = none
            rw [if_neg this]; exact hI.dom t ht
        · intro j o t hoj hdt hdone
          by_cases hij : j = i
          · subst hij
            rw [ho] at hoj
            cases hoj
            rw [hdt]
            show (if t = t then some (vals j) else f t) = _
            rw [if_pos rfl]
          · have hold : l.getD j false = true := by
              by_cases hjl : j < l.size
              · simp [Array.getD, hjl, Ne.symm hij] at hdone
                simp [Array.getD, hjl, hdone]
              · simp [Array.getD, hjl] at hdone
            have hv := hI.val j o t hoj hdt hold
            cases hx : ops[i].dst with
            | none => exact hv
            | some t' =>
              show (if t = t' then some (vals i) else f t) = _
              have : t ≠ t' := by
                rintro rfl
                exact hij (dst_uniqD hn hoj ho hdt hx)
              rw [if_neg this]; exact hv
  · rintro l a W ⟨f, rfl, hI⟩ hr
    have hall := ready_nilD hI.sz hd hr
    refine hend f W hI.st hI.dom (fun i o t ho ht => hI.val i o t ho ht (hall i ?_))
    exact (Array.getElem?_eq_some_iff.1 ho).1
  · rw [Array.toList_replicate]
    exact Nat.le_trans List.count_le_length (by simp)
  · exact ⟨_, (fr_noneD A).symm, by simp, h0, fun _ _ => rfl, fun i o t ho ht hx => by
      by_cases hjl : i < ops.size <;> simp [Array.getD, hjl] at hx⟩

/-- The writing of slots, one after the other. -/
def putsD (A : Act) (L : List (Nat × Value)) : Act := L.foldl (fun a p => a.put (some p.1) p.2) A
def updD (g : Nat → Option Value) (p : Nat × Value) : Nat → Option Value := fun k => if k = p.1 then some p.2 else g k
theorem putsD_fr {A : Act} : ∀ (L : List (Nat × Value)) (g : Nat → Option Value), L.foldl (fun a p => a.put (some p.1) p.2) (frD A g) = frD A (L.foldl updD g)
  | [], _ => rfl
  | p :: L, g => by
    rw [List.foldl_cons, List.foldl_cons, fr_putD]
    exact putsD_fr L _
theorem updD_out : ∀ (L : List (Nat × Value)) (g : Nat → Option Value) (t : Nat), t ∉ L.map (·.1) → L.foldl updD g t = g t
  | [], _, _, _ => rfl
  | p :: L, g, t, h => by
    rw [List.map_cons, List.mem_cons, not_or] at h
    rw [List.foldl_cons, updD_out L _ t h.2]
    show (if t = p.1 then some p.2 else g t) = g t
    rw [if_neg h.1]
theorem updD_in : ∀ (L : List (Nat × Value)) (g : Nat → Option Value) (i : Nat) (h : i < L.length), (L.map (·.1)).Nodup → L.foldl updD g L[i].1 = some L[i].2
  | [], _, i, h, _ => by simp at h
  | p :: L, g, 0, _, hn => by
    rw [List.foldl_cons]
    show L.foldl updD (updD g p) p.1 = some p.2
    rw [updD_out L _ p.1 (List.nodup_cons.1 hn).1]
    show (if p.1 = p.1 then some p.2 else g p.1) = some p.2
    rw [if_pos rfl]
  | p :: L, g, i + 1, h, hn => by
    rw [List.foldl_cons]
    exact updD_in L _ i (by simpa using h) (List.nodup_cons.1 hn).2
/-- As region_det, with a list of what the slots hold: for a region each of whose operations has a slot. -/
theorem region_detL {id : Nat} {A : Act} {w : World} (hm : P.follows .mixedOrders = true) (L : List (Nat × Value)) (S : World → Prop)
    (hL : L.map (fun p => some p.1) = ops.toList.map (·.dst))
    (hd : ((List.range ops.size).all fun i => ((ops[i]?).map (·.after.all fun e => decide (e.on < i))).getD true) = true)
    (hnb : decide (L.map (·.1)).Nodup = true) (hlt : (L.map (·.1)).all (fun t => decide (t < A.tmps.size)) = true)
    (h0 : S { w with drawn := w.drawn + 1 })
    (hstep : ∀ (i : Nat) (o : Oper), ops[i]? = some o → ∀ (a : Act) (W : World), S W →
      (∀ e ∈ o.after, Region.binds .any e = true → ∀ p, L[e.on]? = some p → a.tmps[p.1]? = some p.2) →
      (∀ t, (L.map (·.1)).contains t = false → a.tmps[t]? = A.tmps[t]?) →
      ∀ K : Act → World → Prop, (∀ W', S W' → K (a.put o.dst ((L[i]?.map (·.2)).getD undef)) W') → if Region.wanted o (yielded ops a.tmps) = true then Oper.wp P o a W K Q else K (a.put o.dst undef) W)
    (hend : ∀ W, S W → Q .normal (putsD A L) W) :
    (Code.region id ops true).wp P Q A w := by
  have hn := of_decide_eq_true hnb
  have hlen : L.length = ops.size := by
    have := congrArg List.length hL
    simpa using this
  have hdst : dstsD ops = L.map (·.1) := by
    unfold dstsD
    have h1 : ∀ (l : List Oper) (M : List (Nat × Value)), M.map (fun p => some p.1) = l.map (·.dst) → l.filterMap (·.dst) = M.map (·.1) := by
      intro l
      induction l with
      | nil => intro M h; cases M with
        | nil => rfl
        | cons p M => simp at h
      | cons o l ih =>
        intro M h
        cases M with
        | nil => simp at h
        | cons p M =>
          simp only [List.map_cons, List.cons.injEq] at h
          rw [List.filterMap_cons, ← h.1, ih M h.2]; rfl
    exact h1 _ _ hL
  have hat : ∀ (i : Nat) (o : Oper) (t : Nat), ops[i]? = some o → o.dst = some t → ∃ v, L[i]? = some (t, v) := by
    intro i o t ho ht
    have h1 := congrArg (fun l => l[i]?) hL
    simp only [List.getElem?_map] at h1
    rw [show ops.toList[i]? = some o by simpa using ho] at h1
    cases hx : L[i]? with
    | none => rw [hx] at h1; simp at h1
    | some p =>
      rw [hx] at h1
      simp only [Option.map_some, Option.some.injEq] at h1
      rw [ht] at h1
      obtain ⟨a, b⟩ := p
      cases h1
      exact ⟨b, rfl⟩
  refine region_det hm (fun i => (L[i]?.map (·.2)).getD undef) S hd (by rw [hdst]; exact hn) (by rw [hdst]; exact hlt) h0 ?_ ?_
  · intro i o ho a W hS hz hdep hout K hK
    refine hstep i o ho a W hS ?_ (fun t ht => hout t (by rw [hdst]; intro hm; rw [List.contains_iff_mem.2 hm] at ht; cases ht)) K hK
    intro e he hb p hp
    have hel : e.on < ops.size := by rw [← hlen]; exact (List.getElem?_eq_some_iff.1 hp).1
    have ho' : ops[e.on]? = some ops[e.on] := Array.getElem?_eq_getElem hel
    have hdp : ops[e.on].dst = some p.1 := by
      have h1 := congrArg (fun l => l[e.on]?) hL
      simp only [List.getElem?_map] at h1
      rw [hp, show ops.toList[e.on]? = some ops[e.on] by rw [Array.getElem?_toList]; exact ho'] at h1
      simpa using h1.symm
    have := hdep e he hb _ ho' p.1 hdp
    rw [this]
    show some ((L[e.on]?.map (·.2)).getD undef) = _
    rw [hp]; rfl
  · intro f W hS hout hval
    have hf : f = L.foldl updD (fun _ => none) := by
      funext t
      by_cases ht : t ∈ L.map (·.1)
      · obtain ⟨i, hi, he⟩ := List.mem_iff_getElem.1 ht
        have hi' : i < L.length := by simpa using hi
        have h1 := updD_in L (fun _ => none) i hi' hn
        have e2 : L[i].1 = t := by simpa using he
        rw [e2] at h1
        rw [h1]
        have hio : i < ops.size := by omega
        have ho' : ops[i]? = some ops[i] := Array.getElem?_eq_getElem hio
        have hdp : ops[i].dst = some t := by
          have h1 := congrArg (fun l => l[i]?) hL
          simp only [List.getElem?_map] at h1
          rw [List.getElem?_eq_getElem hi', show ops.toList[i]? = some ops[i] by rw [Array.getElem?_toList]; exact ho'] at h1
          simp only [Option.map_some, Option.some.injEq] at h1
          rw [← h1, e2]
        have := hval i _ t ho' hdp
        rw [this, List.getElem?_eq_getElem hi']; rfl
      · rw [hout t (by rw [hdst]; exact ht), updD_out L _ t ht]
    have := hend W hS
    have e : L.foldl (fun a p => a.put (some p.1) p.2) (frD A (fun _ => none)) = frD A f := by rw [putsD_fr, ← hf]
    rw [fr_noneD] at e
    unfold putsD at this
    rw [e] at this
    exact this
end
end Go.Proofs.YtjpilmedlecdhaaGreat
namespace Go.Proofs.YtjpilmedlecdhaaGreat
open Go.RowKit Go.Sort Go.Shelf Go.Lib

/-! ### The bad pairs, as numbers and as lists -/
def prL (p : Nat × Nat) : List Int := [(p.1 : Int), (p.2 : Int)]
theorem badR_map (T : Tb) (G : Gr) (i k : Nat) : badR T G i k = (((List.range k).filter (fun j => bdP T G i j)).map (fun j => (i, j))).map prL := by
  unfold badR bdP
  induction k with
  | zero => rfl
  | succ k ih =>
    rw [List.range_succ, List.flatMap_append, ih, List.filter_append, List.map_append, List.map_append]
    congr 1
    cases h : accA G (bget T.base i ++ bget T.base k) <;> simp [h, prL]
theorem badN_map (T : Tb) (G : Gr) (k : Nat) : badN T G k = (bdN T G k).map prL := by
  unfold badN bdN
  rw [List.map_flatMap]
  congr 1
  funext i
  exact badR_map T G i _
theorem bdN_mem {T : Tb} {G : Gr} {k : Nat} {p : Nat × Nat} : p ∈ bdN T G k ↔ p.1 < k ∧ p.2 < T.base.length ∧ bdP T G p.1 p.2 = true := by
  obtain ⟨a, b⟩ := p
  unfold bdN
  simp only [List.mem_flatMap, List.mem_range, List.mem_map, List.mem_filter, Prod.mk.injEq]
  constructor
  · rintro ⟨i, hi, j, ⟨hj, hb⟩, rfl, rfl⟩
    exact ⟨hi, hj, hb⟩
  · rintro ⟨h1, h2, h3⟩
    exact ⟨a, h1, b, ⟨h2, h3⟩, rfl, rfl⟩
theorem bad_any {T : Tb} {G : Gr} {b i : Nat} (hb : b < T.base.length) (hi : i < T.base.length) : (badL T G).any (prI (b : Int) (i : Int)) = bdP T G b i := by
  unfold badL
  rw [badN_map, Bool.eq_iff_iff, List.any_map]
  simp only [List.any_eq_true, Function.comp_apply]
  constructor
  · rintro ⟨p, hp, he⟩
    have := bdN_mem.1 hp
    simp only [prI, prL, List.getD_cons_zero, List.getD_cons_succ, Bool.and_eq_true, decide_eq_true_eq] at he
    have e1 : p.1 = b := by omega
    have e2 : p.2 = i := by omega
    rw [← e1, ← e2]; exact this.2.2
  · intro h
    exact ⟨(b, i), bdN_mem.2 ⟨hb, hi, h⟩, by simp [prI, prL]⟩
theorem isE_prog {T : Tb} {G : Gr} {b i : Nat} (hb : b < T.base.length) (hi : i < T.base.length) : ((badL T G).any (prI (b : Int) (i : Int)) || isSw T.swaps b i) = isE T G T.swaps b i := by
  rw [bad_any hb hi]; rfl

/-! ### What the function value reads -/
structure ExtE (W : World) (T out : Tb) (G : Gr) (i j : Nat) (X : List LE) (bt bg bf bpr bp bo : Nat) (p1 p2 o1 o2 pg pL q : Option Addr) (c1 c2 d1 d2 cg cL cq : Nat) : Prop where
  tb : VRow W bt 25 [.int .i64 T.q, .int .i64 T.n, .slice p1 T.base.length c1, .slice p2 T.swaps.length c2]
  gb : VRow W bg 28 [.int .i64 G.q, .int .i64 G.n, .slice pg G.es.length cg]
  fb : VRow W bf 55 [.func (.func 17) #[] #[.pointer (some ⟨bpr, 0, none⟩), .pointer (some ⟨bt, 0, none⟩)]]
  rb : VRow W bpr 47 [.slice pL (badL T G).length cL]
  pb : VRow W bp 40 [.slice q 2 cq]
  ob : VRow W bo 25 [.int .i64 out.q, .int .i64 out.n, .slice o1 out.base.length d1, .slice o2 out.swaps.length d2]
  tin : TbIn W T p1 p2 c1 c2
  oin : TbIn W out o1 o2 d1 d2
  gin : Sg 3 W edE pg G.es
  lin : LLr W pL (badL T G) X
  qin : Sl W (Value.int .i64) q [(i : Int), (j : Int)]
section
variable {W W' : World} {T out : Tb} {G : Gr} {i j : Nat} {X : List LE} {bt bg bf bpr bp bo : Nat} {p1 p2 o1 o2 pg pL q : Option Addr} {c1 c2 d1 d2 cg cL cq : Nat}
theorem ExtE.below (h : ExtE W T out G i j X bt bg bf bpr bp bo p1 p2 o1 o2 pg pL q c1 c2 d1 d2 cg cL cq) (hB : RowKit.Below W.heap.size W W') : ExtE W' T out G i j X bt bg bf bpr bp bo p1 p2 o1 o2 pg pL q c1 c2 d1 d2 cg cL cq :=
  ⟨h.tb.below hB h.tb.lt, h.gb.below hB h.gb.lt, h.fb.below hB h.fb.lt, h.rb.below hB h.rb.lt, h.pb.below hB h.pb.lt, h.ob.below hB h.ob.lt, h.tin.below hB, h.oin.below hB, h.gin.below hB, h.lin.below hB, h.qin.below hB⟩
/-- The asking for a pair, in these words. -/
theorem ExtE.ask (h : ExtE W T out G i j X bt bg bf bpr bp bo p1 p2 o1 o2 pg pL q c1 c2 d1 d2 cg cL cq) (hf : fmd T = true) {b : Nat} (hb : b < T.base.length) (hi : i < T.base.length) (r : Bool) (hr : isE T G T.swaps b i = r) :
    Calls Tryz.prog 17 #[.int .i64 b, .int .i64 i, .pointer (some ⟨bpr, 0, none⟩), .pointer (some ⟨bt, 0, none⟩)] W fun e w' => e = .returned (.bool r) ∧ RowKit.Below W.heap.size W w' := by
  have hN := pre_all (fmd_split hf).1
  have hl := badN_len T G T.base.length
  have h2 : T.base.length * T.base.length ≤ 16 * 16 := Nat.mul_le_mul (by omega) (by omega)
  exact lkExt1_any (badL T G) X T.swaps b i pL p2 cL c2 bpr bt W h.lin (by show (badN T G T.base.length).length ≤ _; omega) badN_two h.tin.swaps (by omega) (h.rb.at 0 rfl) (h.tb.at 3 rfl) h.rb.lt h.tb.lt r (by rw [isE_prog hb hi]; exact hr)
end
theorem app_okw {q : Int} {a b : ByteArray} (h1 : 1 ≤ q) (h2 : q ≤ 16) (ha : a.size ≤ 16) (hb : b.size ≤ 16) (oa : Chg.okw q a.data.toList = true) (ob : Chg.okw q b.data.toList = true) : Chg.wchk q (a ++ b).data.toList = 0 ∧ (a ++ b).size ≤ 32 := by
  have hs : (a ++ b).size ≤ 32 := by rw [ByteArray.size_append]; omega
  exact ⟨Chg.wchk_ok _ _ (by omega) (by omega) (by rw [toL_len]; omega) (by rw [toL_app]; exact okw_app oa ob), hs⟩

theorem okB_all {T : Tb} {G : Gr} {S : List Sw} {i k : Nat} {v : ByteArray} : (List.range (k + 1)).all (okB T G S i v) = ((List.range k).all (okB T G S i v) && okB T G S i v k) := by
  rw [List.range_succ, List.all_append, List.all_cons, List.all_nil, Bool.and_true]
theorem okB_not {T : Tb} {G : Gr} {S : List Sw} {i k n : Nat} {v : ByteArray} (hk : k < n) (h : okB T G S i v k = false) : (List.range n).all (okB T G S i v) = false := by
  rw [List.all_eq_false]; exact ⟨k, List.mem_range.2 hk, by rw [h]; simp⟩
theorem insW_wd {l : List Sw} {s : Sw} (h : ∀ j (h : j < l.length), l[j].wd.size ≤ maxLen) (hs : s.wd.size ≤ maxLen) : ∀ j (h : j < (insW l s).length), (insW l s)[j].wd.size ≤ maxLen := by
  intro j hj
  rcases insW_mem.1 (List.getElem_mem hj) with e | e
  · rw [e]; exact hs
  · obtain ⟨k, hk, e2⟩ := List.mem_iff_getElem.1 e
    rw [← e2]; exact h k hk
theorem tb_with {W : World} {out : Tb} {s : Sw} {o1 o2 pn : Option Addr} {d1 d2 cn : Nat} (h : TbIn W out o1 o2 d1 d2) (hs : Sg 3 W swE pn (insW out.swaps s)) (hv : s.wd.size ≤ maxLen) (hl : out.swaps.length ≤ 1000) : TbIn W (wthT out s) o1 pn d1 cn :=
  ⟨h.base, hs, h.cap1, h.l1, by show (insW out.swaps s).length ≤ _; rw [insW_len]; omega, h.z1, insW_wd h.z2 hv⟩
theorem okE_eq {T out : Tb} {G : Gr} {S : List Sw} {i j : Nat} {v : ByteArray} (h : (List.range T.base.length).all (okB T G S i v) = true) : okE T G S out i j v = (fmd (wthT out ⟨i, j, v⟩) && rdbl (wthT out ⟨i, j, v⟩)) := by
  unfold okE; rw [h, Bool.true_and]
set_option maxRecDepth 100000 in
set_option maxHeartbeats 4000000 in
theorem lkExt3_any {w : World} {T out : Tb} {G : Gr} {i j : Nat} {X : List LE} {bt bg bf bpr bp bo : Nat} {p1 p2 o1 o2 pg pL q : Option Addr} {c1 c2 d1 d2 cg cL cq : Nat} (hE : ExtE w T out G i j X bt bg bf bpr bp bo p1 p2 o1 o2 pg pL q c1 c2 d1 d2 cg cL cq)
    (hf : fmd T = true) (hv : Vg G) (hgq : G.q = T.q) (hi : i < T.base.length) (v : ByteArray) (hvs : v.size ≤ 16) (hvo : Chg.okw T.q v.data.toList = true) (hos : SrtW out.swaps) (hol : out.swaps.length ≤ 1000) :
    Calls Tryz.prog 26 #[.string v, .pointer (some ⟨bt, 0, none⟩), .pointer (some ⟨bg, 0, none⟩), .pointer (some ⟨bf, 0, none⟩), .pointer (some ⟨bp, 0, none⟩), .pointer (some ⟨bo, 0, none⟩)] w fun e w' => e = .returned (.bool (okE T G T.swaps out i j v)) ∧ RowKit.Below w.heap.size w w' := by
  have hN := pre_all (fmd_split hf).1
  have hN16 : T.base.length ≤ 16 := by omega
  have hq16 : G.q ≤ 16 := by rw [hgq]; omega
  have HE := hidI hE
  have HBO := hidI (fun (k : Nat) (hk : k < T.base.length) => show (bget T.base k).size ≤ 8 ∧ Chg.okw T.q (bget T.base k).data.toList = true from ⟨by have := base_sz hf k hk; omega, by have := baseW_okw hf (x := (k : Int)) (by omega) (by omega); simpa [baseW] using this⟩)
  have HAC := hidI (fun (s : ByteArray) (W : World) (hB : RowKit.Below w.heap.size w W) (h1 : Chg.wchk T.q s.data.toList = 0 ∧ s.size ≤ 32) => lkAccepts_any G pg cg s W (hE.gin.below hB) hv hq16 (by unfold maxLen; omega) (by rw [hgq]; exact h1.1) (by omega))
  have HASK := hidI (fun (b : Nat) (hb : b < T.base.length) (W : World) (hB : RowKit.Below w.heap.size w W) => (hE.below hB).ask hf hb hi)
  have HBG := hidI (fun (k : Nat) (hk : k < T.base.length) => bget_eq T.base k hk)
  have HT2 : 1 ≤ T.q ∧ T.q ≤ 16 := by omega
  have HVO := hidI hvo
  have f2 := hE.tb.at 2 rfl
  clear hE hN hgq hvo
  go_enter Tryz.func26, Tryz.ntmps26
  go_wp2_with fail
  clear f2
  go_loopw [14] (fun iv W => ∃ k : Nat, k ≤ T.base.length ∧ iv = .int .i64 k ∧ Hid ((List.range k).all (okB T G T.swaps i v) = true) ∧ RowKit.Below w.heap.size w W) (fun iv _ => T.base.length - (intOf iv).toNat)
  case atStart => exact ⟨0, by omega, rfl, rfl, RowKit.Below.refl _ _⟩
  case round =>
    obtain ⟨k, hk, rfl, hok, hB⟩ := hrel
    by_cases hlt : k < T.base.length
    · have hltI : (k : Int) < (T.base.length : Int) := by omega
      have hEw := HE.out.below hB
      obtain ⟨bb, oo, rfl, hb1, hc1⟩ := hEw.tin.base.get k hlt
      have e0 := hc1 k hlt
      rw [← HBG.out k hlt] at e0
      obtain ⟨bq, oq, rfl, hbq, hcq⟩ := hEw.qin.get 0 (by simp)
      have q0 := hcq 0 (by simp)
      simp only [List.getElem_cons_zero, Nat.add_zero] at q0
      have g0 := hEw.gb.at 0 rfl; have g1 := hEw.gb.at 1 rfl; have g2 := hEw.gb.at 2 rfl
      have n0 := hEw.fb.at 0 rfl
      have m0 := hEw.pb.at 0 rfl
      have zg := hEw.gb.lt; have zf := hEw.fb.lt; have zp := hEw.pb.lt; have zq := hbq
      obtain ⟨hbs, hbo⟩ := HBO.out k hlt
      have h12 := app_okw HT2.1 HT2.2 hvs (show (bget T.base k).size ≤ 16 by omega) HVO.out hbo
      have h21 := app_okw HT2.1 HT2.2 (show (bget T.base k).size ≤ 16 by omega) hvs hbo HVO.out
      have hm1 : v.size + (bget T.base k).size ≤ maxLen := by unfold maxLen; omega
      have hm2 : (bget T.base k).size + v.size ≤ maxLen := by unfold maxLen; omega
      have HON := hidI (okB_all (T := T) (G := G) (S := T.swaps) (i := i) (k := k) (v := v))
      have HNO := hidI (okB_not (T := T) (G := G) (S := T.swaps) (i := i) (v := v) hlt)
      have HOD : Hid (okB T G T.swaps i v k = (accA G (v ++ bget T.base k) && (isE T G T.swaps k i || accA G (bget T.base k ++ v)))) := rfl
      obtain ⟨r1, hr1⟩ : ∃ r1, accA G (v ++ bget T.base k) = r1 := ⟨_, rfl⟩
      obtain ⟨r2, hr2⟩ : ∃ r2, accA G (bget T.base k ++ v) = r2 := ⟨_, rfl⟩
      obtain ⟨rI, hrI⟩ : ∃ rI, isE T G T.swaps k i = rI := ⟨_, rfl⟩
      have HC1 := hidI (fun W (h : RowKit.Below wr.heap.size wr W) => HAC.out (v ++ bget T.base k) W (hB.trans (h.mono hB.size)) h12)
      have HC2 := hidI (fun W (h : RowKit.Below wr.heap.size wr W) => HAC.out (bget T.base k ++ v) W (hB.trans (h.mono hB.size)) h21)
      have HCI := hidI (fun W (h : RowKit.Below wr.heap.size wr W) => HASK.out k hlt W (hB.trans (h.mono hB.size)) rI hrI)
      rw [hr1] at HC1 HOD
      rw [hr2] at HC2 HOD
      rw [hrI] at HOD
      have HBB := hidI hB
      clear hr1 hr2 hrI hEw hc1 hcq hbo h12 h21 HE HBO HAC HASK hB hb1 hbq
      generalize bget T.base k = b at *
      cases r1
      · have HX := hidI (HNO.out HOD.out)
        clear HON HNO HOD hok
        go_upto_region 4 with fail
        have hm3 : ¬ (9223372036854775807 < v.size + b.size) := by unfold maxLen at hm1; omega
        (refine region_detL (by kernel_rfl) [(19, .agg #[.int .i64 G.q, .int .i64 G.n, .slice pg G.es.length cg]), (20, .string v), (21, .string b), (22, .string (v ++ b)), (23, .bool false), (24, .bool true), (25, .bool true), (26, undef), (27, undef), (28, undef), (29, undef), (30, undef), (31, undef), (32, undef), (33, undef), (34, undef), (35, undef), (36, undef), (37, undef), (38, undef), (39, undef), (40, undef), (41, .bool true)] (fun W => RowKit.Below wr.heap.size wr W) (by kernel_rfl) (by kernel_rfl) (by kernel_rfl) (by kernel_rfl) (below_dN (RowKit.Below.refl _ _) 1) ?_ ?_; focus (intro i o ho a W hS hdep hout K hK; have hc0 := (hS.cell zg).trans g0; have hc1 := (hS.cell (p := ⟨bg, 1, none⟩) zg).trans g1; have hc2 := (hS.cell (p := ⟨bg, 2, none⟩) zg).trans g2; have hc3 := (hS.cell (p := ⟨bf, 0, none⟩) zf).trans n0; have hc4 := (hS.cell (p := ⟨bp, 0, none⟩) zp).trans m0; have hc5 := (hS.cell (p := ⟨bq, oq, none⟩) zq).trans q0; have hil : i < 23 := (Array.getElem?_eq_some_iff.1 ho).1; have hcases : i = 0 ∨ i = 1 ∨ i = 2 ∨ i = 3 ∨ i = 4 ∨ i = 5 ∨ i = 6 ∨ i = 7 ∨ i = 8 ∨ i = 9 ∨ i = 10 ∨ i = 11 ∨ i = 12 ∨ i = 13 ∨ i = 14 ∨ i = 15 ∨ i = 16 ∨ i = 17 ∨ i = 18 ∨ i = 19 ∨ i = 20 ∨ i = 21 ∨ i = 22 := (by omega); clear hil; have u0 := hout 0 (by kernel_rfl); have u1 := hout 1 (by kernel_rfl); have u2 := hout 2 (by kernel_rfl); have u3 := hout 3 (by kernel_rfl); have u4 := hout 4 (by kernel_rfl); have u8 := hout 8 (by kernel_rfl); have u9 := hout 9 (by kernel_rfl); simp at u0 u1 u2 u3 u4 u8 u9; clear hout; rcases hcases with rfl | rfl | rfl | rfl | rfl | rfl | rfl | rfl | rfl | rfl | rfl | rfl | rfl | rfl | rfl | rfl | rfl | rfl | rfl | rfl | rfl | rfl | rfl; all_goals (simp only [List.getElem?_toArray, List.getElem?_cons_succ, List.getElem?_cons_zero, Option.some.injEq] at ho; subst ho; simp [Region.binds] at hdep; (try go_split_ands)); all_goals go_simp; all_goals first | exact hK _ hS | ((with_reducible refine (HC1.out W hS).mono ?_); rintro e wa ⟨rfl, hBa⟩; exact hK _ (hS.trans (hBa.mono hS.size))) | ((with_reducible refine (HC2.out W hS).mono ?_); rintro e wa ⟨rfl, hBa⟩; exact hK _ (hS.trans (hBa.mono hS.size))) | ((with_reducible refine (HCI.out W hS).mono ?_); rintro e wa ⟨rfl, hBa⟩; exact hK _ (hS.trans (hBa.mono hS.size)))))
        (intro W hB9; simp only [putsD, List.foldl_cons, List.foldl_nil, Act.put, List.setIfInBounds_toArray, List.set_cons_zero, List.set_cons_succ]; clear q0 g0 g1 g2 n0 m0 e0; go_wp2_with fail)
        go_ret
        exact ⟨ret_bool (by unfold okE; rw [HX.out]; rfl), HBB.out.trans (hB9.mono HBB.out.size)⟩
      · have hm4 : ¬ (9223372036854775807 < b.size + v.size) := by unfold maxLen at hm2; omega
        have hm3 : ¬ (9223372036854775807 < v.size + b.size) := by unfold maxLen at hm1; omega
        cases rI
        · cases r2
          · have HX := hidI (HNO.out HOD.out)
            clear HON HNO HOD hok
            go_upto_region 4 with fail
            (refine region_detL (by kernel_rfl) [(19, .agg #[.int .i64 G.q, .int .i64 G.n, .slice pg G.es.length cg]), (20, .string v), (21, .string b), (22, .string (v ++ b)), (23, .bool true), (24, .bool false), (25, .bool false), (26, .func (.func 17) #[] #[.pointer (some ⟨bpr, 0, none⟩), .pointer (some ⟨bt, 0, none⟩)]), (27, .int .i64 k), (28, .slice (some ⟨bq, oq, none⟩) 2 cq), (29, .pointer (some ⟨bq, oq, none⟩)), (30, .int .i64 i), (31, .bool false), (32, .bool true), (33, .bool true), (34, .agg #[.int .i64 G.q, .int .i64 G.n, .slice pg G.es.length cg]), (35, .string b), (36, .string v), (37, .string (b ++ v)), (38, .bool false), (39, .bool true), (40, .bool true), (41, .bool true)] (fun W => RowKit.Below wr.heap.size wr W) (by kernel_rfl) (by kernel_rfl) (by kernel_rfl) (by kernel_rfl) (below_dN (RowKit.Below.refl _ _) 1) ?_ ?_; focus (intro i o ho a W hS hdep hout K hK; have hc0 := (hS.cell zg).trans g0; have hc1 := (hS.cell (p := ⟨bg, 1, none⟩) zg).trans g1; have hc2 := (hS.cell (p := ⟨bg, 2, none⟩) zg).trans g2; have hc3 := (hS.cell (p := ⟨bf, 0, none⟩) zf).trans n0; have hc4 := (hS.cell (p := ⟨bp, 0, none⟩) zp).trans m0; have hc5 := (hS.cell (p := ⟨bq, oq, none⟩) zq).trans q0; have hil : i < 23 := (Array.getElem?_eq_some_iff.1 ho).1; have hcases : i = 0 ∨ i = 1 ∨ i = 2 ∨ i = 3 ∨ i = 4 ∨ i = 5 ∨ i = 6 ∨ i = 7 ∨ i = 8 ∨ i = 9 ∨ i = 10 ∨ i = 11 ∨ i = 12 ∨ i = 13 ∨ i = 14 ∨ i = 15 ∨ i = 16 ∨ i = 17 ∨ i = 18 ∨ i = 19 ∨ i = 20 ∨ i = 21 ∨ i = 22 := (by omega); clear hil; have u0 := hout 0 (by kernel_rfl); have u1 := hout 1 (by kernel_rfl); have u2 := hout 2 (by kernel_rfl); have u3 := hout 3 (by kernel_rfl); have u4 := hout 4 (by kernel_rfl); have u8 := hout 8 (by kernel_rfl); have u9 := hout 9 (by kernel_rfl); simp at u0 u1 u2 u3 u4 u8 u9; clear hout; rcases hcases with rfl | rfl | rfl | rfl | rfl | rfl | rfl | rfl | rfl | rfl | rfl | rfl | rfl | rfl | rfl | rfl | rfl | rfl | rfl | rfl | rfl | rfl | rfl; all_goals (simp only [List.getElem?_toArray, List.getElem?_cons_succ, List.getElem?_cons_zero, Option.some.injEq] at ho; subst ho; simp [Region.binds] at hdep; (try go_split_ands)); all_goals go_simp; all_goals first | exact hK _ hS | ((with_reducible refine (HC1.out W hS).mono ?_); rintro e wa ⟨rfl, hBa⟩; exact hK _ (hS.trans (hBa.mono hS.size))) | ((with_reducible refine (HC2.out W hS).mono ?_); rintro e wa ⟨rfl, hBa⟩; exact hK _ (hS.trans (hBa.mono hS.size))) | ((with_reducible refine (HCI.out W hS).mono ?_); rintro e wa ⟨rfl, hBa⟩; exact hK _ (hS.trans (hBa.mono hS.size)))))
            (intro W hB9; simp only [putsD, List.foldl_cons, List.foldl_nil, Act.put, List.setIfInBounds_toArray, List.set_cons_zero, List.set_cons_succ]; clear q0 g0 g1 g2 n0 m0 e0; go_wp2_with fail)
            go_ret
            exact ⟨ret_bool (by unfold okE; rw [HX.out]; rfl), HBB.out.trans (hB9.mono HBB.out.size)⟩
          · have HX : Hid ((List.range (k + 1)).all (okB T G T.swaps i v) = true) := by rw [Hid, HON.out, hok.out, HOD.out]; rfl
            clear HON HNO HOD hok
            go_upto_region 4 with fail
            (refine region_detL (by kernel_rfl) [(19, .agg #[.int .i64 G.q, .int .i64 G.n, .slice pg G.es.length cg]), (20, .string v), (21, .string b), (22, .string (v ++ b)), (23, .bool true), (24, .bool false), (25, .bool false), (26, .func (.func 17) #[] #[.pointer (some ⟨bpr, 0, none⟩), .pointer (some ⟨bt, 0, none⟩)]), (27, .int .i64 k), (28, .slice (some ⟨bq, oq, none⟩) 2 cq), (29, .pointer (some ⟨bq, oq, none⟩)), (30, .int .i64 i), (31, .bool false), (32, .bool true), (33, .bool true), (34, .agg #[.int .i64 G.q, .int .i64 G.n, .slice pg G.es.length cg]), (35, .string b), (36, .string v), (37, .string (b ++ v)), (38, .bool true), (39, .bool false), (40, .bool false), (41, .bool false)] (fun W => RowKit.Below wr.heap.size wr W) (by kernel_rfl) (by kernel_rfl) (by kernel_rfl) (by kernel_rfl) (below_dN (RowKit.Below.refl _ _) 1) ?_ ?_; focus (intro i o ho a W hS hdep hout K hK; have hc0 := (hS.cell zg).trans g0; have hc1 := (hS.cell (p := ⟨bg, 1, none⟩) zg).trans g1; have hc2 := (hS.cell (p := ⟨bg, 2, none⟩) zg).trans g2; have hc3 := (hS.cell (p := ⟨bf, 0, none⟩) zf).trans n0; have hc4 := (hS.cell (p := ⟨bp, 0, none⟩) zp).trans m0; have hc5 := (hS.cell (p := ⟨bq, oq, none⟩) zq).trans q0; have hil : i < 23 := (Array.getElem?_eq_some_iff.1 ho).1; have hcases : i = 0 ∨ i = 1 ∨ i = 2 ∨ i = 3 ∨ i = 4 ∨ i = 5 ∨ i = 6 ∨ i = 7 ∨ i = 8 ∨ i = 9 ∨ i = 10 ∨ i = 11 ∨ i = 12 ∨ i = 13 ∨ i = 14 ∨ i = 15 ∨ i = 16 ∨ i = 17 ∨ i = 18 ∨ i = 19 ∨ i = 20 ∨ i = 21 ∨ i = 22 := (by omega); clear hil; have u0 := hout 0 (by kernel_rfl); have u1 := hout 1 (by kernel_rfl); have u2 := hout 2 (by kernel_rfl); have u3 := hout 3 (by kernel_rfl); have u4 := hout 4 (by kernel_rfl); have u8 := hout 8 (by kernel_rfl); have u9 := hout 9 (by kernel_rfl); simp at u0 u1 u2 u3 u4 u8 u9; clear hout; rcases hcases with rfl | rfl | rfl | rfl | rfl | rfl | rfl | rfl | rfl | rfl | rfl | rfl | rfl | rfl | rfl | rfl | rfl | rfl | rfl | rfl | rfl | rfl | rfl; all_goals (simp only [List.getElem?_toArray, List.getElem?_cons_succ, List.getElem?_cons_zero, Option.some.injEq] at ho; subst ho; simp [Region.binds] at hdep; (try go_split_ands)); all_goals go_simp; all_goals first | exact hK _ hS | ((with_reducible refine (HC1.out W hS).mono ?_); rintro e wa ⟨rfl, hBa⟩; exact hK _ (hS.trans (hBa.mono hS.size))) | ((with_reducible refine (HC2.out W hS).mono ?_); rintro e wa ⟨rfl, hBa⟩; exact hK _ (hS.trans (hBa.mono hS.size))) | ((with_reducible refine (HCI.out W hS).mono ?_); rintro e wa ⟨rfl, hBa⟩; exact hK _ (hS.trans (hBa.mono hS.size)))))
            (intro W hB9; simp only [putsD, List.foldl_cons, List.foldl_nil, Act.put, List.setIfInBounds_toArray, List.set_cons_zero, List.set_cons_succ]; clear q0 g0 g1 g2 n0 m0 e0; go_wp2_with fail)
            have hB10 := hidI (HBB.out.trans (hB9.mono HBB.out.size))
            go_roundw
            case rel => exact ⟨k + 1, by omega, by go_num, HX, hB10.out⟩
            case measure => simp [intOf]; omega
        · have HX : Hid ((List.range (k + 1)).all (okB T G T.swaps i v) = true) := by rw [Hid, HON.out, hok.out, HOD.out]; rfl
          clear HON HNO HOD hok
          go_upto_region 4 with fail
          (refine region_detL (by kernel_rfl) [(19, .agg #[.int .i64 G.q, .int .i64 G.n, .slice pg G.es.length cg]), (20, .string v), (21, .string b), (22, .string (v ++ b)), (23, .bool true), (24, .bool false), (25, .bool false), (26, .func (.func 17) #[] #[.pointer (some ⟨bpr, 0, none⟩), .pointer (some ⟨bt, 0, none⟩)]), (27, .int .i64 k), (28, .slice (some ⟨bq, oq, none⟩) 2 cq), (29, .pointer (some ⟨bq, oq, none⟩)), (30, .int .i64 i), (31, .bool true), (32, .bool false), (33, .bool false), (34, undef), (35, undef), (36, undef), (37, undef), (38, undef), (39, undef), (40, .bool false), (41, .bool false)] (fun W => RowKit.Below wr.heap.size wr W) (by kernel_rfl) (by kernel_rfl) (by kernel_rfl) (by kernel_rfl) (below_dN (RowKit.Below.refl _ _) 1) ?_ ?_; focus (intro i o ho a W hS hdep hout K hK; have hc0 := (hS.cell zg).trans g0; have hc1 := (hS.cell (p := ⟨bg, 1, none⟩) zg).trans g1; have hc2 := (hS.cell (p := ⟨bg, 2, none⟩) zg).trans g2; have hc3 := (hS.cell (p := ⟨bf, 0, none⟩) zf).trans n0; have hc4 := (hS.cell (p := ⟨bp, 0, none⟩) zp).trans m0; have hc5 := (hS.cell (p := ⟨bq, oq, none⟩) zq).trans q0; have hil : i < 23 := (Array.getElem?_eq_some_iff.1 ho).1; have hcases : i = 0 ∨ i = 1 ∨ i = 2 ∨ i = 3 ∨ i = 4 ∨ i = 5 ∨ i = 6 ∨ i = 7 ∨ i = 8 ∨ i = 9 ∨ i = 10 ∨ i = 11 ∨ i = 12 ∨ i = 13 ∨ i = 14 ∨ i = 15 ∨ i = 16 ∨ i = 17 ∨ i = 18 ∨ i = 19 ∨ i = 20 ∨ i = 21 ∨ i = 22 := (by omega); clear hil; have u0 := hout 0 (by kernel_rfl); have u1 := hout 1 (by kernel_rfl); have u2 := hout 2 (by kernel_rfl); have u3 := hout 3 (by kernel_rfl); have u4 := hout 4 (by kernel_rfl); have u8 := hout 8 (by kernel_rfl); have u9 := hout 9 (by kernel_rfl); simp at u0 u1 u2 u3 u4 u8 u9; clear hout; rcases hcases with rfl | rfl | rfl | rfl | rfl | rfl | rfl | rfl | rfl | rfl | rfl | rfl | rfl | rfl | rfl | rfl | rfl | rfl | rfl | rfl | rfl | rfl | rfl; all_goals (simp only [List.getElem?_toArray, List.getElem?_cons_succ, List.getElem?_cons_zero, Option.some.injEq] at ho; subst ho; simp [Region.binds] at hdep; (try go_split_ands)); all_goals go_simp; all_goals first | exact hK _ hS | ((with_reducible refine (HC1.out W hS).mono ?_); rintro e wa ⟨rfl, hBa⟩; exact hK _ (hS.trans (hBa.mono hS.size))) | ((with_reducible refine (HC2.out W hS).mono ?_); rintro e wa ⟨rfl, hBa⟩; exact hK _ (hS.trans (hBa.mono hS.size))) | ((with_reducible refine (HCI.out W hS).mono ?_); rintro e wa ⟨rfl, hBa⟩; exact hK _ (hS.trans (hBa.mono hS.size)))))
          (intro W hB9; simp only [putsD, List.foldl_cons, List.foldl_nil, Act.put, List.setIfInBounds_toArray, List.set_cons_zero, List.set_cons_succ]; clear q0 g0 g1 g2 n0 m0 e0; go_wp2_with fail)
          have hB10 := hidI (HBB.out.trans (hB9.mono HBB.out.size))
          go_roundw
          case rel => exact ⟨k + 1, by omega, by go_num, HX, hB10.out⟩
          case measure => simp [intOf]; omega
    · obtain rfl : k = T.base.length := by omega
      have hltI : ¬ (T.base.length : Int) < (T.base.length : Int) := by omega
      have hEw := HE.out.below hB
      obtain ⟨bq, oq, rfl, hbq, hcq⟩ := hEw.qin.get 0 (by simp)
      have q0 := hcq 0 (by simp); have q1 := hcq 1 (by simp)
      simp only [List.getElem_cons_zero, List.getElem_cons_succ, Nat.add_zero] at q0 q1
      have m0 := hEw.pb.at 0 rfl
      have o0 := hEw.ob.at 0 rfl; have o1' := hEw.ob.at 1 rfl; have o2' := hEw.ob.at 2 rfl; have o3' := hEw.ob.at 3 rfl
      have zo := hEw.ob.lt; have zp := hEw.pb.lt; have zq := hbq
      have HW := hidI (fun W (hW : RowKit.Below wr.heap.size wr W) => lkWith_any out ⟨i, j, v⟩ o1 o2 d1 d2 W (hEw.oin.swaps.below hW) hol hos)
      have hOK := hidI hok.out
      have HOI := hidI hEw.oin
      have HBB := hidI hB
      clear hEw hcq HE HBO HAC HASK hB hok HBG
      go_upto_region 7 with fail
      have KS := hidI (fun (W : World) (hW : RowKit.Below wr.heap.size wr W) => show W.cell? ⟨bo, 0, none⟩ = some (.int .i64 out.q) ∧ W.cell? ⟨bo, 1, none⟩ = some (.int .i64 out.n) ∧ W.cell? ⟨bo, 2, none⟩ = some (.slice o1 out.base.length d1) ∧ W.cell? ⟨bo, 3, none⟩ = some (.slice o2 out.swaps.length d2) ∧ W.cell? ⟨bp, 0, none⟩ = some (.slice (some ⟨bq, oq, none⟩) 2 cq) ∧ W.cell? ⟨bq, oq, none⟩ = some (.int .i64 i) ∧ W.cell? ⟨bq, oq + 1, none⟩ = some (.int .i64 j) ∧ RowKit.Below wr.heap.size wr W from
        ⟨(hW.cell zo).trans o0, (hW.cell (p := ⟨bo, 1, none⟩) zo).trans o1', (hW.cell (p := ⟨bo, 2, none⟩) zo).trans o2', (hW.cell (p := ⟨bo, 3, none⟩) zo).trans o3', (hW.cell (p := ⟨bp, 0, none⟩) zp).trans m0, (hW.cell (p := ⟨bq, oq, none⟩) zq).trans q0, (hW.cell (p := ⟨bq, oq + 1, none⟩) zq).trans q1, hW⟩)
      (go_region_held3 (fun W => W.cell? ⟨bo, 0, none⟩ = some (.int .i64 out.q) ∧ W.cell? ⟨bo, 1, none⟩ = some (.int .i64 out.n) ∧ W.cell? ⟨bo, 2, none⟩ = some (.slice o1 out.base.length d1) ∧ W.cell? ⟨bo, 3, none⟩ = some (.slice o2 out.swaps.length d2) ∧ W.cell? ⟨bp, 0, none⟩ = some (.slice (some ⟨bq, oq, none⟩) 2 cq) ∧ W.cell? ⟨bq, oq, none⟩ = some (.int .i64 i) ∧ W.cell? ⟨bq, oq + 1, none⟩ = some (.int .i64 j) ∧ RowKit.Below wr.heap.size wr W)
        (first | (go_split_ands; exact KS.out _ (by first | assumption | exact below_dN (RowKit.Below.refl _ _) 1 | exact RowKit.Below.trans (by assumption) (hBa.mono (RowKit.Below.size (by assumption))) | exact RowKit.Below.alloc (by assumption) (RowKit.Below.size (by assumption)) _ | exact hBx.out.alloc hBx.out.size _ | exact (((hBx.out.setCell (Nat.le_refl _) _).setCell (Nat.le_refl _) _).setCell (Nat.le_refl _) _).setCell (Nat.le_refl _) _)) | fail)
        (first | (go_at_call 28; go_split_ands; (with_reducible refine (HW.out _ (by assumption)).mono ?_); rintro e wa ⟨pn, cn, rfl, hSn, hBa⟩; have hBx : Hid (RowKit.Below wr.heap.size wr wa) := RowKit.Below.trans (by assumption) (hBa.mono (RowKit.Below.size (by assumption))); (try (have nb : VRow wa wr.heap.size 25 [.int .i64 0, .int .i64 0, .slice none 0 0, .slice none 0 0] := (VRow.new wr.drew _ _).below hBa (by simp); have nb0 := nb.at 0 rfl; have nb1 := nb.at 1 rfl; have nb2 := nb.at 2 rfl; have nb3 := nb.at 3 rfl; have nf0 := nb.frozen 0; have nf1 := nb.frozen 1; have nf2 := nb.frozen 2; have nf3 := nb.frozen 3))) | fail))
      · have hSg := RetWith.sg hSn
        have rowF : VRow (wa.alloc (.cells #[.int .i64 out.q, .int .i64 out.n, .slice o1 out.base.length d1, .slice pn (out.swaps.length + 1) cn] 25)) wa.heap.size 25 [.int .i64 out.q, .int .i64 out.n, .slice o1 out.base.length d1, .slice pn (out.swaps.length + 1) cn] := VRow.new wa _ _
        have hal := (RowKit.Below.refl wa.heap.size wa).alloc (Nat.le_refl _) (.cells #[.int .i64 out.q, .int .i64 out.n, .slice o1 out.base.length d1, .slice pn (out.swaps.length + 1) cn] 25)
        have HTF := hidI (tb_with (cn := cn) (s := ⟨i, j, v⟩) ((HOI.out.below hBx.out).below hal) (hSg.below hal) (show v.size ≤ maxLen by unfold maxLen; omega) hol)
        have HXF := hidI ((HBB.out.trans (hBx.out.mono HBB.out.size)).trans (hal.mono (Nat.le_trans HBB.out.size hBx.out.size)))
        generalize wa.alloc (.cells #[.int .i64 out.q, .int .i64 out.n, .slice o1 out.base.length d1, .slice pn (out.swaps.length + 1) cn] 25) = WF at *
        generalize wa.heap.size = nk at *
        clear hSn hSg hal
        replace rowF : VRow WF nk 25 [.int .i64 (wthT out ⟨i, j, v⟩).q, .int .i64 (wthT out ⟨i, j, v⟩).n, .slice o1 (wthT out ⟨i, j, v⟩).base.length d1, .slice pn (wthT out ⟨i, j, v⟩).swaps.length cn] := by
          have e := insW_len out.swaps ⟨i, j, v⟩
          simpa [wthT, e] using rowF
        have HOE := hidI (okE_eq (out := out) (j := j) hOK.out)
        have hrd := hidI (fun W hW (h : fmd (wthT out ⟨i, j, v⟩) = true) => callsIn_wide.1 (lkReadable_in (wthT out ⟨i, j, v⟩) o1 pn d1 cn W (HTF.out.below hW) h))
        have hfm := hidI (lkFormed_any (wthT out ⟨i, j, v⟩) o1 pn d1 cn WF HTF.out)
        have a0 := rowF.at 0 rfl; have a1 := rowF.at 1 rfl; have a2 := rowF.at 2 rfl; have a3 := rowF.at 3 rfl
        obtain ⟨rf, hrf⟩ : ∃ rf, fmd (wthT out ⟨i, j, v⟩) = rf := ⟨_, rfl⟩
        have hrf2 := hidI hrf
        rw [hrf] at hfm HOE
        clear hrf q0 q1 m0 o0 o1' o2' o3' KS HW HOI hOK
        generalize wthT out ⟨i, j, v⟩ = TN at *
        cases rf
        · clear hrd
          go_wp2_with fail
          refine hfm.out.mono ?_
          rintro e w1 ⟨rfl, hB1⟩
          go_wp2
          go_ret
          exact ⟨ret_bool (by rw [HOE.out]; rfl), HXF.out.trans (hB1.mono HXF.out.size)⟩
        · go_wp2_with fail
          refine hfm.out.mono ?_
          rintro e w1 ⟨rfl, hB1⟩
          have t1 := rowF.below hB1 rowF.lt
          have hx1 := HXF.out.trans (hB1.mono HXF.out.size)
          have hrd2 := hidI (hrd.out w1 hB1 hrf2.out)
          clear a0 a1 a2 a3 hrd hfm
          have a0 := t1.at 0 rfl; have a1 := t1.at 1 rfl; have a2 := t1.at 2 rfl; have a3 := t1.at 3 rfl
          go_wp2_with fail
          refine hrd2.out.mono ?_
          rintro e w2 ⟨rfl, hB2⟩
          go_wp2
          go_ret
          exact ⟨ret_bool (by rw [HOE.out]; rfl), hx1.trans (hB2.mono hx1.size)⟩
      · have hSn2 := ownsRow_setCell_below (a := ⟨wr.heap.size, 3, none⟩) (ownsRow_setCell_below (a := ⟨wr.heap.size, 2, none⟩) (ownsRow_setCell_below (a := ⟨wr.heap.size, 1, none⟩) (ownsRow_setCell_below (a := ⟨wr.heap.size, 0, none⟩) hSn (by simp) (.int .i64 out.q)) (by simp) (.int .i64 out.n)) (by simp) (.slice o1 out.base.length d1)) (by simp) (.slice pn (out.swaps.length + 1) cn)
        have hSg := RetWith.sg hSn2
        have rowF := VRow.set (i := 3) (.slice pn (out.swaps.length + 1) cn) (VRow.set (i := 2) (.slice o1 out.base.length d1) (VRow.set (i := 1) (.int .i64 out.n) (VRow.set (i := 0) (.int .i64 out.q) nb)))
        have hBy : RowKit.Below wr.heap.size wr ((((wa.setCell ⟨wr.heap.size, 0, none⟩ (.int .i64 out.q)).setCell ⟨wr.heap.size, 1, none⟩ (.int .i64 out.n)).setCell ⟨wr.heap.size, 2, none⟩ (.slice o1 out.base.length d1)).setCell ⟨wr.heap.size, 3, none⟩ (.slice pn (out.swaps.length + 1) cn)) := (((hBx.out.setCell (Nat.le_refl _) _).setCell (Nat.le_refl _) _).setCell (Nat.le_refl _) _).setCell (Nat.le_refl _) _
        have HTF := hidI (tb_with (cn := cn) (s := ⟨i, j, v⟩) (HOI.out.below hBy) hSg (show v.size ≤ maxLen by unfold maxLen; omega) hol)
        have HXF := hidI (HBB.out.trans (hBy.mono HBB.out.size))
        generalize (((wa.setCell ⟨wr.heap.size, 0, none⟩ (.int .i64 out.q)).setCell ⟨wr.heap.size, 1, none⟩ (.int .i64 out.n)).setCell ⟨wr.heap.size, 2, none⟩ (.slice o1 out.base.length d1)).setCell ⟨wr.heap.size, 3, none⟩ (.slice pn (out.swaps.length + 1) cn) = WF at *
        generalize wr.heap.size = nk at *
        clear hSn hSn2 hSg hBy
        replace rowF : VRow WF nk 25 [.int .i64 (wthT out ⟨i, j, v⟩).q, .int .i64 (wthT out ⟨i, j, v⟩).n, .slice o1 (wthT out ⟨i, j, v⟩).base.length d1, .slice pn (wthT out ⟨i, j, v⟩).swaps.length cn] := by
          have e := insW_len out.swaps ⟨i, j, v⟩
          simpa [wthT, e] using rowF
        have HOE := hidI (okE_eq (out := out) (j := j) hOK.out)
        have hrd := hidI (fun W hW (h : fmd (wthT out ⟨i, j, v⟩) = true) => callsIn_wide.1 (lkReadable_in (wthT out ⟨i, j, v⟩) o1 pn d1 cn W (HTF.out.below hW) h))
        have hfm := hidI (lkFormed_any (wthT out ⟨i, j, v⟩) o1 pn d1 cn WF HTF.out)
        have a0 := rowF.at 0 rfl; have a1 := rowF.at 1 rfl; have a2 := rowF.at 2 rfl; have a3 := rowF.at 3 rfl
        obtain ⟨rf, hrf⟩ : ∃ rf, fmd (wthT out ⟨i, j, v⟩) = rf := ⟨_, rfl⟩
        have hrf2 := hidI hrf
        rw [hrf] at hfm HOE
        clear hrf q0 q1 m0 o0 o1' o2' o3' KS HW HOI hOK
        generalize wthT out ⟨i, j, v⟩ = TN at *
        cases rf
        · clear hrd
          go_wp2_with fail
          refine hfm.out.mono ?_
          rintro e w1 ⟨rfl, hB1⟩
          go_wp2
          go_ret
          exact ⟨ret_bool (by rw [HOE.out]; rfl), HXF.out.trans (hB1.mono HXF.out.size)⟩
        · go_wp2_with fail
          refine hfm.out.mono ?_
          rintro e w1 ⟨rfl, hB1⟩
          have t1 := rowF.below hB1 rowF.lt
          have hx1 := HXF.out.trans (hB1.mono HXF.out.size)
          have hrd2 := hidI (hrd.out w1 hB1 hrf2.out)
          clear a0 a1 a2 a3 hrd hfm
          have a0 := t1.at 0 rfl; have a1 := t1.at 1 rfl; have a2 := t1.at 2 rfl; have a3 := t1.at 3 rfl
          go_wp2_with fail
          refine hrd2.out.mono ?_
          rintro e w2 ⟨rfl, hB2⟩
          go_wp2
          go_ret
          exact ⟨ret_bool (by rw [HOE.out]; rfl), hx1.trans (hB2.mono hx1.size)⟩
end Go.Proofs.YtjpilmedlecdhaaGreat
namespace Go.Proofs.YtjpilmedlecdhaaGreat
open Go.RowKit Go.Sort Go.Shelf Go.Lib

def extW (q : Nat) (l : List ByteArray) : List ByteArray := l.flatMap (fun w => (List.range q).map (fun c => w ++ letb1 c))
def rowW (w : ByteArray) (c : Nat) : List ByteArray := (List.range c).map (fun c => w ++ letb1 c)
theorem extW_succ {q : Nat} {l : List ByteArray} {i : Nat} (h : i < l.length) : extW q (l.take (i + 1)) = extW q (l.take i) ++ rowW l[i] q := by
  unfold extW rowW
  rw [List.take_succ_eq_append_getElem h, List.flatMap_append, List.flatMap_cons, List.flatMap_nil, List.append_nil]
theorem rowW_succ (w : ByteArray) (c : Nat) : rowW w (c + 1) = rowW w c ++ [w ++ letb1 c] := by
  unfold rowW; rw [List.range_succ, List.map_append]; rfl
theorem rowW_len (w : ByteArray) (c : Nat) : (rowW w c).length = c := by unfold rowW; rw [List.length_map, List.length_range]
theorem extW_len (q : Nat) : ∀ l : List ByteArray, (extW q l).length = l.length * q
  | [] => by simp [extW]
  | x :: l => by
    have := extW_len q l
    unfold extW at this ⊢
    rw [List.flatMap_cons, List.length_append, this, List.length_map, List.length_range, List.length_cons, Nat.succ_mul]; omega
theorem allF_over {q m : Nat} {l : List ByteArray} (h : allF q m = some l) (hl : 4096 < l.length * q) : ∀ k, m < k → allF q k = none
  | 0, hk => by omega
  | k + 1, hk => by
    rw [allF]
    by_cases e : k = m
    · subst e; rw [h]; show (if _ then _ else _) = _; rw [if_pos hl]
    · rw [allF_over h hl k (by omega)]; rfl
theorem allF_next {q m : Nat} {l : List ByteArray} (h : allF q m = some l) (hl : ¬ 4096 < l.length * q) : allF q (m + 1) = some (extW q l) := by
  rw [allF, h]; show (if _ then _ else _) = _; rw [if_neg hl]; rfl

/-- All words, or none where they are too many. -/
def RetAll (r : Option (List ByteArray)) (w : World) (e : Ending) (w' : World) : Prop :=
  RowKit.Below w.heap.size w w' ∧ match r with
  | none => e = .returned (.tuple #[.slice none 0 0, .int .i64 4])
  | some l => ∃ p c, e = .returned (.tuple #[.slice p l.length c, .int .i64 0]) ∧ Sl w' Value.string p l
theorem RetAll.over {r : Option (List ByteArray)} {w w' : World} (hr : r = none) (hB : RowKit.Below w.heap.size w w') : RetAll r w (.returned (.tuple #[.slice none 0 0, .int .i64 4])) w' := by subst hr; exact ⟨hB, rfl⟩
theorem RetAll.words {r : Option (List ByteArray)} {l : List ByteArray} {p : Option Addr} {c : Nat} {w w' : World} (hr : r = some l) (hs : Sl w' Value.string p l) (hB : RowKit.Below w.heap.size w w') : RetAll r w (.returned (.tuple #[.slice p l.length c, .int .i64 0])) w' := by subst hr; exact ⟨hB, p, c, rfl, hs⟩
theorem infoStrA : (Tryz.prog.info? 9).map (fun i => (i.zero, i.size, i.bytes)) = some (some (.string ⟨#[]⟩), 1, 16) := by kernel_rfl
theorem known_yes (q : Int) (h1 : 1 ≤ q) (h2 : q ≤ 16) (w : World) : Calls Tryz.prog 46 #[.int .i64 q] w fun e w' => e = .returned (.bool true) ∧ w = w' := by
  go_enter Tryz.func46, Tryz.ntmps46
  go_wp2
  go_ret
  exact ⟨rfl, rfl⟩

set_option maxRecDepth 100000 in
set_option maxHeartbeats 2000000 in
theorem wAll_any (q n : Nat) (w : World) (h2 : 2 ≤ q) (h16 : q ≤ 16) (hn : n ≤ 65536) :
    Calls Tryz.prog 15 #[.int .i64 q, .int .i64 n] w (RetAll (allF q n) w) := by
  obtain ⟨i0, hi0, hz0, hz1, hz3⟩ := info_parts infoStrA
  have HOV := hidI (fun (m : Nat) (l : List ByteArray) => @allF_over q m l)
  have HNX := hidI (fun (m : Nat) (l : List ByteArray) => @allF_next q m l)
  have HOK := hidI (allF_ok q h16)
  have h1 : ¬ ((q : Int) = 1) := by omega
  go_enter Tryz.func15, Tryz.ntmps15
  go_wp2_with fail
  refine (known_yes (q : Int) (by omega) (by omega) w).mono ?_
  rintro e w1 ⟨rfl, rfl⟩
  go_wp2_with fail
  go_loopw [6, 28] (fun v6 iv W => ∃ (k : Nat) (L : List ByteArray) (p : Option Addr) (c : Nat), k ≤ n ∧ iv = .int .i64 k ∧ v6 = .slice p L.length c ∧ Hid (allF q k = some L) ∧ Sl W Value.string p L ∧ RowKit.Below w.heap.size w W) (fun _ iv _ => n - (intOf iv).toNat)
  case atStart => 
    refine ⟨0, [⟨#[]⟩], _, _, by omega, rfl, rfl, rfl, ?_, (RowKit.Below.refl _ _).alloc (Nat.le_refl _) _⟩
    exact Sl.of_vrow (t := 9) (VRow.new w _ _)
  case round =>
    obtain ⟨k, L, p, c, hk, rfl, rfl, hL, hs, hB⟩ := hrel
    obtain ⟨W, rfl⟩ : ∃ W : World, W = wr := ⟨_, rfl⟩
    have hL16 := (HOK.out k L hL.out).1
    have HSZ := hidI (HOK.out k L hL.out).2
    by_cases hlt : k < n
    · have hltI : (k : Int) < (n : Int) := by omega
      obtain ⟨M, hM⟩ : ∃ M, M = L.length * q := ⟨_, rfl⟩
      have hwr : IntKind.i64.wrap ((L.length : Int) * (q : Int)) = (M : Int) := by
        rw [hM, Int.natCast_mul]
        refine IntWalk.i64_in _ ?_
        have : L.length * q ≤ 4096 * 16 := Nat.mul_le_mul hL16 h16
        have h2 : ((L.length * q : Nat) : Int) ≤ 4096 * 16 := by omega
        rw [Int.natCast_mul] at h2
        have h3 : (0 : Int) ≤ ((L.length * q : Nat) : Int) := by omega
        rw [Int.natCast_mul] at h3
        omega
      by_cases hov : 4096 < M
      · have hovI : (4096 : Int) < (M : Int) := by omega
        have HR := hidI (HOV.out k L hL.out (by omega) n hlt)
        clear hM
        go_wp2
        go_ret2
        exact RetAll.over HR.out hB
      · have hovI : ¬ (4096 : Int) < (M : Int) := by omega
        have HR := hidI (HNX.out k L hL.out (by omega))
        have HM := hidI hM
        clear hM
        go_wp2_with (first | (at_make; refine wpList_make_own _ rfl _ _ 22 rfl W.heap.size 9 i0 (.string ⟨#[]⟩) 1 Tryz.underlying22 hi0 hz0 hz1 .i64 .i64 _ M rfl rfl rfl (by rw [hz3]; omega) (by unfold maxLen; omega) (Nat.le_refl _) ?_; intro w3 hown3 hgrow3))
        have HS := hidI hs
        have HB := hidI hB
        have hM4 : M ≤ 4096 := by omega
        have hB3 : RowKit.Below W.heap.size W w3 := (RowKit.Below.refl _ _).grown hgrow3 (Nat.le_refl _) (fun j e => by cases e)
        clear hov hovI hwr hs hB hgrow3
        go_loopw [7, 42] (fun v7 iv X => ∃ (i m : Nat), i ≤ L.length ∧ iv = .int .i64 i ∧ X.ownsRow W.heap.size 9 1 v7 m ((extW q (L.take i)).map Value.string) ∧ RowKit.Below W.heap.size W X) (fun _ iv _ => L.length - (intOf iv).toNat)
        case atStart => exact ⟨0, 0, by omega, rfl, hown3, hB3⟩
        case round =>
          clear hown3 hB3
          obtain ⟨i, m, hi, rfl, hown, hB⟩ := hrel
          by_cases hlt2 : i < L.length
          · have hltJ : (i : Int) < (L.length : Int) := by omega
            have hsz := (HSZ.out _ (List.getElem_mem hlt2)).1
            have HES := hidI (extW_succ (q := q) hlt2)
            obtain ⟨b1, o1, rfl, hb1, hc1⟩ := (HS.out.below hB).get i hlt2
            have e1 := hc1 i hlt2
            clear hc1 hb1
            generalize L[i] = x at *
            have HM1 := hidI hown.1
            obtain ⟨X, rfl⟩ : ∃ X : World, X = wr := ⟨_, rfl⟩
            go_wp2_with fail
            clear e1
            go_loopw [7, 47] (fun v7 iv Z => ∃ (j m : Nat), j ≤ q ∧ iv = .int .i64 j ∧ Z.ownsRow W.heap.size 9 1 v7 m ((extW q (L.take i) ++ rowW x j).map Value.string) ∧ RowKit.Below W.heap.size W Z) (fun _ iv _ => q - (intOf iv).toNat)
            case atStart => exact ⟨0, m, by omega, rfl, by rw [show rowW x 0 = [] from rfl, List.append_nil]; exact hown, hB⟩
            case round =>
              clear hown hB
              obtain ⟨j, m2, hj, rfl, hown, hB⟩ := hrel
              by_cases hlt3 : j < q
              · have hltK : (j : Int) < (q : Int) := by omega
                have hls := letb1_size j (by omega)
                have HRS := hidI (rowW_succ x j)
                have hrl := rowW_len x j
                have hel := extW_len q (L.take i)
                have hlw := hown.lt
                have hz2 := hB.size
                have hM := HM.out
                have hile : (L.take i).length * q + q ≤ M := by
                  have h1 : (L.take i).length = i := by rw [List.length_take]; omega
                  have h2 : (i + 1) * q ≤ L.length * q := Nat.mul_le_mul (by omega) (Nat.le_refl _)
                  rw [h1, hM]; rw [Nat.succ_mul] at h2; omega
                have hm2 : m2 ≤ 4096 := by
                  have := hown.1
                  rw [List.length_map, List.length_append, hel, hrl] at this
                  omega
                have hownA := hown.alloc (.cells #[.string (x ++ letb1 j)] 9)
                have hnew := cell_one_at wr (.string (x ++ letb1 j)) 9 wr.heap.size rfl
                clear hM hrl hel hile
                go_wp2_with (at_builtin; refine wpList_append_own _ rfl _ _ 22 rfl W.heap.size 9 i0 (.string ⟨#[]⟩) 1 16 Tryz.underlying22 hi0 hz0 hz1 hz3 rfl (by decide) _ _ _ rfl hownA ⟨wr.heap.size, 0, none⟩ 1 1 [.string (x ++ letb1 j)] rfl rfl hnew (by simp [Value.oneCell']) (by simp [maxLen]; omega) (by omega) (by simp; omega) ?_; intro v' w4 hown' hgrow _)
                have hB4 : RowKit.Below W.heap.size W w4 := (hB.trans (((RowKit.Below.refl _ _).alloc (Nat.le_refl _) _).mono hz2)).grown hgrow (by simp; omega) (fun j e => (hlw j e).1)
                go_roundw
                case rel => exact ⟨j + 1, m2 + 1, by omega, by go_num, by rw [HRS.out, ← List.append_assoc, List.map_append]; exact hown', hB4⟩
                case measure => simp [intOf]; omega
              · obtain rfl : j = q := by omega
                have hltK : ¬ (j : Int) < (j : Int) := by omega
                go_wp2
                go_roundw
                case rel => exact ⟨i + 1, m2, by omega, by go_num, by rw [HES.out]; exact hown, hB⟩
                case measure => simp [intOf]; omega
          · obtain rfl : i = L.length := by omega
            have hltJ : ¬ (L.length : Int) < (L.length : Int) := by omega
            rw [List.take_length] at hown
            obtain ⟨p7, c7, rfl, hs7⟩ := own_sl hown
            have HO := hidI (HB.out.trans (hB.mono HB.out.size))
            have hs7 := hidI hs7
            clear hown hB
            generalize extW q L = L7 at *
            go_wp2
            go_roundw
            case rel => exact ⟨_, _, _, _, _, _, .int .i64 ((k : Int) + 1), ⟨k + 1, by omega, by go_num, L7, p7, ⟨c7, rfl⟩, HR.out, hs7.out, HO.out⟩, rfl, rfl, rfl, rfl, rfl, rfl, rfl⟩
            case measure => simp [intOf]; omega
    · obtain rfl : k = n := by omega
      have hltI : ¬ (k : Int) < (k : Int) := by omega
      have HR := hidI hL.out
      go_wp2
      go_ret2
      exact RetAll.words HR.out hs hB
end Go.Proofs.YtjpilmedlecdhaaGreat
namespace Go.Proofs.YtjpilmedlecdhaaGreat
open Go.RowKit Go.Sort Go.Shelf Go.Lib

def zT : Tb := ⟨0, 0, [], []⟩
/-- What Extend answers. -/
def extA (T : Tb) (G : Gr) : Tb × Int :=
  if fitA T G ≠ 0 then (zT, fitA T G) else
  match allF T.q.toNat (2 * T.n.toNat) with
  | none => (zT, 4)
  | some all => match extP all T G (bdN T G T.base.length) with
    | none => (zT, 6)
    | some x => (x, 0)
theorem extA_fit {T : Tb} {G : Gr} (h : fitA T G ≠ 0) : extA T G = (zT, fitA T G) := by unfold extA; rw [if_pos h]
theorem extA_all {T : Tb} {G : Gr} (h : fitA T G = 0) (h2 : allF T.q.toNat (2 * T.n.toNat) = none) : extA T G = (zT, 4) := by unfold extA; rw [if_neg (fun e => e h), h2]
theorem extA_none {T : Tb} {G : Gr} {all : List ByteArray} (h : fitA T G = 0) (h2 : allF T.q.toNat (2 * T.n.toNat) = some all) (h3 : extP all T G (bdN T G T.base.length) = none) : extA T G = (zT, 6) := by
  unfold extA; rw [if_neg (fun e => e h), h2]; show (match extP all T G _ with | none => _ | some x => _) = _; rw [h3]
theorem extA_some {T x : Tb} {G : Gr} {all : List ByteArray} (h : fitA T G = 0) (h2 : allF T.q.toNat (2 * T.n.toNat) = some all) (h3 : extP all T G (bdN T G T.base.length) = some x) : extA T G = (x, 0) := by
  unfold extA; rw [if_neg (fun e => e h), h2]; show (match extP all T G _ with | none => _ | some x => _) = _; rw [h3]
theorem extP_step {all : List ByteArray} {T out : Tb} {G : Gr} {l : List (Nat × Nat)} {k : Nat} (hk : k < l.length) (h : extP all T G (l.take k) = some out) :
    extP all T G (l.take (k + 1)) = if isSw T.swaps l[k].1 l[k].2 = true then some out else exS all T G T.swaps out l[k].1 l[k].2 := by
  unfold extP at h ⊢
  rw [List.take_succ_eq_append_getElem hk, List.foldl_append, h]; rfl
theorem extP_stop {all : List ByteArray} {T : Tb} {G : Gr} {l : List (Nat × Nat)} {k : Nat} (h : extP all T G (l.take k) = none) : extP all T G l = none := by
  unfold extP at h ⊢
  conv => lhs; rw [← List.take_append_drop k l]
  rw [List.foldl_append, h, fold_none]
theorem find_idxP {α : Type} (f : α → Bool) : ∀ (l : List α), (idxP f l = -1 ∧ l.find? f = none) ∨ ∃ k, ∃ h : k < l.length, idxP f l = k ∧ l.find? f = some l[k] ∧ f l[k] = true
  | [] => .inl ⟨rfl, rfl⟩
  | x :: l => by
    unfold idxP
    cases hx : f x
    · rcases find_idxP f l with ⟨h1, h2⟩ | ⟨k, hk, h1, h2, h3⟩
      · refine .inl ⟨?_, ?_⟩
        · rw [if_neg (by simp), if_pos (by omega)]
        · rw [List.find?_cons, hx]; exact h2
      · refine .inr ⟨k + 1, by simp; omega, ?_, ?_, ?_⟩
        · rw [if_neg (by simp), if_neg (by omega)]; omega
        · rw [List.find?_cons, hx]; simpa using h2
        · simpa using h3
    · refine .inr ⟨0, by simp, ?_, ?_, ?_⟩
      · rw [if_pos rfl]; rfl
      · rw [List.find?_cons, hx]; rfl
      · simpa using hx
theorem srt_of_fmd {T : Tb} (h : fmd T = true) : SrtW T.swaps := fun i j hi hj hij => sorted_lt (fmd_split h).2.1 j i hj hij
theorem exS_find {all : List ByteArray} {T out : Tb} {G : Gr} {S : List Sw} {i j : Nat} : exS all T G S out i j = (all.find? (okE T G S out i j)).map (fun v => wthT out ⟨i, j, v⟩) := rfl
theorem okE_fmd {T out : Tb} {G : Gr} {S : List Sw} {i j : Nat} {v : ByteArray} (h : okE T G S out i j v = true) : fmd (wthT out ⟨i, j, v⟩) = true := by
  unfold okE at h
  rw [Bool.and_eq_true, Bool.and_eq_true] at h
  exact h.2.1

/-- Words in memory of the call's own. -/
def RetOwnW (l : List ByteArray) (w : World) (e : Ending) (w' : World) : Prop := ∃ p n c, e = .returned (.slice p n c) ∧ Hid (n = l.length) ∧ Hid (w'.ownsRow w.heap.size 9 1 (.slice p n c) n (l.map Value.string)) ∧ Below w.heap.size w w'
theorem own_form {w : World} {B e s n : Nat} {v : Value} {xs : List Value} (h : w.ownsRow B e s v n xs) : ∃ p c, v = .slice p n c := by
  rcases h.2 with ⟨h0, h1⟩ | ⟨g, cap, cur, e1, _⟩
  · subst h1; exact ⟨none, 0, h0⟩
  · exact ⟨_, _, e1⟩
set_option maxRecDepth 100000 in
theorem cloneStr_any (l : List ByteArray) (p : Option Addr) (c : Nat) (w : World) (hin : Sl w Value.string p l) (hl : l.length ≤ 1000) :
    Calls Tryz.prog 22 #[.slice p l.length c] w (RetOwnW l w) := by
  obtain ⟨i0, hi0, hz0, hz1, hz2⟩ := info_parts infoStrA
  have q22 : ∀ (w : World) (a : Option Addr) (n c n' c' : Nat), (binOp .eql 22 (.slice a n c) (.slice none n' c')).run Tryz.prog w = .ok (.bool a.isNone) w := fun w a n c n' c' => Lib.run_eql_slice_nil w _ _ a n c n' c' Tryz.underlying22
  have hown0 : (w.alloc (.cells #[] 9)).ownsRow w.heap.size 9 1 (.slice (some ⟨w.heap.size, 0, none⟩) 0 0) 0 [] := ⟨rfl, .inr ⟨w.heap.size, _, _, rfl, Nat.le_refl _, heap_alloc_new w _, Nat.le_refl _, by simp, rfl, rfl⟩⟩
  cases p with
  | none =>
    have h0 : l = [] := by rcases hin with h | ⟨_, _, hp, _⟩; exact h; cases hp
    subst h0
    go_enter Tryz.func22, Tryz.ntmps22
    go_wp2_with fail
    go_ret
    exact ⟨_, _, _, rfl, rfl, World.ownsRow_nil _ _ _ _, Below.refl _ _⟩
  | some ad =>
    have hcl : ∀ (j : Nat) (u : Value), (l.map Value.string)[j]? = some u → (w.alloc (.cells #[] 9)).cell? (ad.add j) = some u := by
      intro j u hu
      rcases hin with h0 | ⟨b, off, hp, hb, hc⟩
      · subst h0; simp at hu
      · cases hp
        rw [List.getElem?_map] at hu
        obtain ⟨x, hx, rfl⟩ := Option.map_eq_some_iff.1 hu
        obtain ⟨hj, rfl⟩ := List.getElem?_eq_some_iff.1 hx
        rw [Addr.add_lit]
        exact (((Below.refl _ _).alloc (Nat.le_refl _) _).cell (p := ⟨b, off + j, none⟩) hb).trans (hc j hj)
    have hcl2 : (l.map Value.string).length = l.length * 1 := by simp
    have h1 : ∀ u ∈ l.map Value.string, u.oneCell' = true := by
      intro u hu; obtain ⟨x, _, rfl⟩ := List.mem_map.1 hu; rfl
    clear hin
    generalize hL : l.map Value.string = L at hcl hcl2 h1
    replace hL := hidI hL
    go_enter Tryz.func22, Tryz.ntmps22
    go_wp2_with (at_builtin; refine wpList_append_own _ rfl _ _ 22 rfl w.heap.size 9 i0 _ 1 16 Tryz.underlying22 hi0 hz0 hz1 hz2 rfl (by decide) _ _ _ rfl hown0 ad l.length c L rfl hcl2 hcl h1 (by simp [maxLen]; omega) (by omega) (by simp) ?_; intro v' w1 hown' hgrow _)
    obtain ⟨p', c', rfl⟩ := own_form hown'
    go_ret
    exact ⟨_, _, _, rfl, by simp [Hid], by rw [Hid, hL.out]; simpa using hown', ((Below.refl _ _).alloc (Nat.le_refl _) _).grown hgrow (by simp) (fun j e => by cases e; exact Nat.le_refl _)⟩
end Go.Proofs.YtjpilmedlecdhaaGreat
