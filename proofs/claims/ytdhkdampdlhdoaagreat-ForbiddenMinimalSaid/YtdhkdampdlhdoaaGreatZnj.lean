/-
  Words, plain lemmas and walks, merged: Fx, Pe, Cj, Ka, Kb, Ea, Eb.
-/
import Derived.Test.YtdhkdampdlhdoaaGreatZni
import Derived.Test.YtdhkdampdlhdoaaGreatZnf
import Derived.Test.YtdhkdampdlhdoaaGreatZng
import Derived.Lib.IndexMore
set_option linter.unusedVariables false
set_option linter.unusedSimpArgs false
namespace Go.Proofs.YtdhkdampdlhdoaaGreat
open Go.RowKit Go.Sort

/-! ### The states -/
def preR (l : List ByteArray) (w : ByteArray) (n : Nat) : List ByteArray := ((List.range n).map (fun k => w.extract 0 (k + 1))).filter (alwA l)
theorem preR_succ (l : List ByteArray) (w : ByteArray) (n : Nat) : preR l w (n + 1) = preR l w n ++ (if alwA l (w.extract 0 (n + 1)) = true then [w.extract 0 (n + 1)] else []) := by
  unfold preR
  rw [List.range_succ, List.map_append, List.filter_append]
  congr 1
  by_cases h : alwA l (w.extract 0 (n + 1)) = true <;> simp [h]
def candR (l : List ByteArray) (k : Nat) : List ByteArray := (⟨#[]⟩ : ByteArray) :: (l.take k).flatMap (fun w => preR l w (w.size - 1))
theorem candR_succ (l : List ByteArray) (k : Nat) (h : k < l.length) : candR l (k + 1) = candR l k ++ preR l l[k] (l[k].size - 1) := by
  unfold candR
  rw [List.take_succ_eq_append_getElem h, List.flatMap_append]; simp
theorem ext_00 (w : ByteArray) : w.extract 0 0 = (⟨#[]⟩ : ByteArray) := by
  have h : (w.extract 0 0).size = 0 := by simp
  generalize w.extract 0 0 = x at *
  cases x with
  | mk d => have hd : d.size = 0 := h
            rw [Array.eq_empty_of_size_eq_zero hd]
theorem mem_cand {l : List ByteArray} {k : Nat} {z : ByteArray} : z ∈ candR l k ↔ z ∈ candF l k := by
  unfold candR candF preR preF
  simp only [List.mem_cons, List.mem_flatMap, List.mem_filter, List.mem_map, List.mem_range]
  constructor
  · rintro (h | ⟨w, hw, ⟨j, hj, rfl⟩, ha⟩)
    · exact .inl h
    · exact .inr ⟨w, hw, ⟨j + 1, by omega, rfl⟩, ha⟩
  · rintro (h | ⟨w, hw, ⟨j, hj, rfl⟩, ha⟩)
    · exact .inl h
    · cases j with
      | zero => exact .inl (ext_00 w)
      | succ j => exact .inr ⟨w, hw, ⟨j, by omega, rfl⟩, ha⟩
theorem st_ref (l : List ByteArray) : insAll (candR l l.length) = stA l :=
  SrtB.unique (insAll_srt _) (insAll_srt _) (fun z => by rw [mem_insAll, show z ∈ stA l ↔ z ∈ candF l l.length from mem_insAll, mem_cand])

/-! ### The targets -/
theorem plF_get {st : List ByteArray} {u : ByteArray} {t : Int} : ∀ k, k ≤ st.length → plF st k u = some t → ∃ (i : Nat) (h : i < st.length), t = i ∧ st[i] = u
  | 0, _, h => by simp [plF] at h
  | k + 1, hk, h => by
    rw [plF] at h
    split at h
    · rename_i e
      cases h
      exact ⟨k, by omega, rfl, by rw [e]; simp [List.getD, List.getElem?_eq_getElem (by omega : k < st.length)]⟩
    · exact plF_get k (by omega) h
theorem tgR_first {f : ByteArray → Option Int} (h0 : (f (⟨#[]⟩ : ByteArray)).isSome = true) : ∀ (n : Nat) (r : ByteArray), r.size ≤ n → ∃ i, i ≤ r.size ∧ f (r.extract i r.size) = some (tgR f (n + 1) r) ∧ ∀ j, j < i → f (r.extract j r.size) = none
  | n, r, hn => by
    cases hf : f r with
    | some t => exact ⟨0, by omega, by rw [tgR_some hf]; simpa using hf, fun j hj => by omega⟩
    | none =>
      have hpos : 0 < r.size := by
        rcases Nat.eq_zero_or_pos r.size with h | h
        · exfalso
          have : r = (⟨#[]⟩ : ByteArray) := by
            cases r with
            | mk d => have hd : d.size = 0 := h
                      rw [Array.eq_empty_of_size_eq_zero hd]
          rw [← this, hf] at h0; cases h0
        · exact h
      match n, hn with
      | 0, hn => omega
      | n + 1, hn =>
        have hsz : (r.extract 1 r.size).size = r.size - 1 := by simp
        obtain ⟨i, hi, h1, h2⟩ := tgR_first h0 n (r.extract 1 r.size) (by omega)
        rw [hsz, ext_ext r 1 r.size i (r.size - 1) (by omega) (by omega), show 1 + (r.size - 1) = r.size by omega] at h1
        refine ⟨1 + i, by omega, by rw [tgR_none hf]; exact h1, fun j hj => ?_⟩
        cases j with
        | zero => simpa using hf
        | succ j =>
          have := h2 j (by omega)
          rw [hsz, ext_ext r 1 r.size j (r.size - 1) (by omega) (by omega), show 1 + (r.size - 1) = r.size by omega] at this
          rw [show j + 1 = 1 + j by omega]; exact this
/-- The reference's search. -/
def rT (st : List ByteArray) (w : ByteArray) : Nat → Nat
  | 0 => 0
  | t + 1 => if (st.getD t (⟨#[]⟩ : ByteArray)).size ≤ w.size ∧ w.extract (w.size - (st.getD t (⟨#[]⟩ : ByteArray)).size) w.size = st.getD t (⟨#[]⟩ : ByteArray) ∧ (st.getD (rT st w t) (⟨#[]⟩ : ByteArray)).size ≤ (st.getD t (⟨#[]⟩ : ByteArray)).size then t else rT st w t
def sufT (w u : ByteArray) : Prop := u.size ≤ w.size ∧ w.extract (w.size - u.size) w.size = u
theorem getD_at {st : List ByteArray} {t : Nat} (h : t < st.length) : st.getD t (⟨#[]⟩ : ByteArray) = st[t] := by simp [List.getD, List.getElem?_eq_getElem h]
theorem srt_size {st : List ByteArray} (hs : SrtB st) {i k : Nat} (hi : i < st.length) (hk : k < st.length) (h : i ≤ k) : st[i].size ≤ st[k].size := by
  rcases Nat.lt_or_eq_of_le h with h | h
  · have := ordB_neg.1 (List.pairwise_iff_getElem.1 hs i k hi hk h)
    omega
  · subst h; exact Nat.le_refl _
theorem rT_last {st : List ByteArray} (hs : SrtB st) (h0 : st.getD 0 (⟨#[]⟩ : ByteArray) = (⟨#[]⟩ : ByteArray)) (w : ByteArray) : ∀ k, k < st.length → rT st w (k + 1) < k + 1 ∧ sufT w (st.getD (rT st w (k + 1)) (⟨#[]⟩ : ByteArray)) ∧ ∀ j, rT st w (k + 1) < j → j < k + 1 → ¬ sufT w (st.getD j (⟨#[]⟩ : ByteArray))
  | 0, hk => by
    have hz : ((⟨#[]⟩ : ByteArray)).size = 0 := rfl
    have hsf : sufT w (st.getD 0 (⟨#[]⟩ : ByteArray)) := by
      rw [h0]
      refine ⟨by rw [hz]; omega, ?_⟩
      have h : (w.extract (w.size - ((⟨#[]⟩ : ByteArray)).size) w.size).size = 0 := by simp [hz]
      generalize w.extract (w.size - ((⟨#[]⟩ : ByteArray)).size) w.size = x at *
      cases x with
      | mk d => have hd : d.size = 0 := h
                rw [Array.eq_empty_of_size_eq_zero hd]
    have hr : rT st w 1 = 0 := by unfold rT; split <;> simp [rT]
    rw [hr]
    exact ⟨by omega, hsf, fun j h1 h2 => by omega⟩
  | k + 1, hk => by
    obtain ⟨h1, h2, h3⟩ := rT_last hs h0 w k (by omega)
    by_cases hsf : sufT w (st.getD (k + 1) (⟨#[]⟩ : ByteArray))
    · have hr : rT st w (k + 1 + 1) = k + 1 := by
        rw [rT, if_pos]
        refine ⟨hsf.1, hsf.2, ?_⟩
        rw [getD_at (by omega : rT st w (k + 1) < st.length), getD_at hk]
        exact srt_size hs _ _ (by omega)
      rw [hr]
      exact ⟨by omega, hsf, fun j h1 h2 => by omega⟩
    · have hr : rT st w (k + 1 + 1) = rT st w (k + 1) := by
        rw [rT, if_neg]
        rintro ⟨a, b, _⟩; exact hsf ⟨a, b⟩
      rw [hr]
      refine ⟨by omega, h2, fun j h4 h5 => ?_⟩
      by_cases e : j = k + 1
      · subst e; exact hsf
      · exact h3 j h4 (by omega)
theorem rT_tg {st : List ByteArray} (hs : SrtB st) (hne : 0 < st.length) (h0 : st.getD 0 (⟨#[]⟩ : ByteArray) = (⟨#[]⟩ : ByteArray)) (w : ByteArray) : ((rT st w st.length : Nat) : Int) = tgA st w := by
  obtain ⟨n, hn⟩ : ∃ n, st.length = n + 1 := ⟨st.length - 1, by omega⟩
  obtain ⟨h1, h2, h3⟩ := rT_last hs h0 w n (by omega)
  rw [← hn] at h1 h2 h3
  generalize rT st w st.length = t at *
  have hm0 : (⟨#[]⟩ : ByteArray) ∈ st := by
    have := List.getElem_mem (l := st) hne
    rw [← getD_at hne, h0] at this; exact this
  obtain ⟨i, hi, h4, h5⟩ := tgR_first (f := plF st st.length) (plF_some st.length (Nat.le_refl _) (by rw [List.take_length]; exact hm0)) w.size w (Nat.le_refl _)
  obtain ⟨k, hk, h6, h7⟩ := plF_get st.length (Nat.le_refl _) h4
  have ht : tgA st w = (k : Int) := h6
  rw [ht]
  have hks : sufT w (st.getD k (⟨#[]⟩ : ByteArray)) := by
    rw [getD_at hk, h7]
    have hz : (w.extract i w.size).size = w.size - i := by simp
    exact ⟨by rw [hz]; omega, by rw [hz]; congr 1; omega⟩
  have hkt : k ≤ t := by
    rcases Nat.lt_or_ge t k with h | h
    · exact absurd hks (h3 k h hk)
    · exact h
  rw [getD_at h1] at h2
  have hsz : (w.extract i w.size).size = w.size - i := by simp
  have hge : w.size - st[t].size ≥ i := by
    rcases Nat.lt_or_ge (w.size - st[t].size) i with h | h
    · have := h5 _ h
      rw [h2.2] at this
      have hs' := plF_some (u := st[t]) st.length (Nat.le_refl _) (by rw [List.take_length]; exact List.getElem_mem h1)
      rw [this] at hs'; cases hs'
    · exact h
  have hsz2 := srt_size hs hk h1 hkt
  rw [h7, hsz] at hsz2
  have he : st[t].size = w.size - i := by have := h2.1; omega
  have heq : st[t] = st[k] := by
    rw [h7, ← h2.2, he]; congr 1; omega
  rcases Nat.lt_or_eq_of_le hkt with h | h
  · have := List.pairwise_iff_getElem.1 hs k t hk h1 h
    rw [heq, ordB_refl] at this; omega
  · rw [h]
/-! ### Which letters may follow -/
theorem ext_left (p x : ByteArray) (i k : Nat) (hk : k ≤ p.size) : (p ++ x).extract i k = p.extract i k := by
  have hs : k ≤ p.data.size := hk
  apply ByteArray.ext
  rw [ByteArray.data_extract, ByteArray.data_extract, ByteArray.data_append]
  rw [Array.extract_append]
  simp
  omega
theorem wd_size (p : ByteArray) (a : Nat) (h : a < 16) : (wdA p a).size = p.size + 1 := by
  unfold wdA
  have h1 : (p ++ ltB.extract a (a + 1)).size = p.size + (ltB.extract a (a + 1)).size := ByteArray.size_append
  have h3 : ltB.size = 16 := rfl
  have h2 : (ltB.extract a (a + 1)).size = 1 := by simp [h3]; omega
  omega
theorem bad_iff {l : List ByteArray} {p : ByteArray} {a : Nat} (hl : ∀ u ∈ l, u ≠ (⟨#[]⟩ : ByteArray)) (ha : a < 16) (hp : alwA l p = true) : alwA l (wdA p a) = !badA l (wdA p a) := by
  unfold alwA badA
  congr 1
  have hw := wd_size p a ha
  rw [Bool.eq_iff_iff, List.any_eq_true, List.any_eq_true]
  constructor
  · rintro ⟨u, hu, hc⟩
    refine ⟨u, hu, ?_⟩
    obtain ⟨i, k, h1, h2, h3⟩ := mem_facL.1 ((contains_iff (hl u hu)).1 hc)
    by_cases hk : k = (wdA p a).size
    · subst hk
      have hz : u.size = (wdA p a).size - i := by rw [h3]; simp
      rw [← Lib.hasSuffix_raw]
      have e1 : decide (u.size ≤ (wdA p a).size) = true := decide_eq_true (by omega)
      rw [e1, Bool.true_and, hz, show (wdA p a).size - ((wdA p a).size - i) = i by omega]
      exact bts_t h3.symm
    · have h4 : u ∈ facL p := by
        refine mem_facL.2 ⟨i, k, h1, by omega, ?_⟩
        rw [h3]; exact ext_left p _ i k (by omega)
      have h5 : l.any (fun u => Lib.contains p.data.toList u.data.toList) = true := List.any_eq_true.2 ⟨u, hu, (contains_iff (hl u hu)).2 h4⟩
      unfold alwA at hp
      rw [h5] at hp; cases hp
  · rintro ⟨u, hu, hc⟩
    refine ⟨u, hu, (contains_iff (hl u hu)).2 ?_⟩
    rw [← Lib.hasSuffix_raw, Bool.and_eq_true] at hc
    have h1 := of_decide_eq_true hc.1
    have h2 := (Lib.bytes_beq_iff _ _).1 hc.2
    have hpos : 0 < u.size := by
      rcases Nat.eq_zero_or_pos u.size with h | h
      · exfalso; apply hl u hu
        cases u with
        | mk d => have hd : d.size = 0 := h
                  rw [Array.eq_empty_of_size_eq_zero hd]
      · exact h
    exact mem_facL.2 ⟨(wdA p a).size - u.size, (wdA p a).size, by omega, Nat.le_refl _, h2.symm⟩
theorem stA_alw {l : List ByteArray} (hl : ∀ u ∈ l, u ≠ (⟨#[]⟩ : ByteArray)) {z : ByteArray} (hz : z ∈ stA l) : alwA l z = true := by
  have h := mem_insAll.1 hz
  unfold candF preF at h
  rcases List.mem_cons.1 h with h | h
  · subst h
    unfold alwA
    rw [Bool.not_eq_true', List.any_eq_false]
    intro u hu hc
    obtain ⟨i, k, h1, h2, _⟩ := mem_facL.1 ((contains_iff (hl u hu)).1 hc)
    have : (⟨#[]⟩ : ByteArray).size = 0 := rfl
    omega
  · obtain ⟨x, _, hu⟩ := List.mem_flatMap.1 h
    exact (List.mem_filter.1 hu).2
end Go.Proofs.YtdhkdampdlhdoaaGreat
namespace Go.Proofs.YtdhkdampdlhdoaaGreat
open Go.RowKit

/-- A set of states each of which has an edge from one of the set, and one to one of it. -/
def Sup (es : List Ed) (C : Int → Prop) : Prop := ∀ s, C s → (∃ x ∈ es, x.t = s ∧ C x.f) ∧ ∃ x ∈ es, x.f = s ∧ C x.t
theorem essP_iff {es : List Ed} {st : List Int} {s : Int} : essP es st s = true ↔ (∃ x ∈ es, x.t = s ∧ x.f ∈ st) ∧ ∃ x ∈ es, x.f = s ∧ x.t ∈ st := by
  simp [essP, cmsE, goesE, List.any_eq_true]
theorem sup_ess {es : List Ed} {C : Int → Prop} (hC : Sup es C) : ∀ n (st : List Int), st.length ≤ n → (∀ s, C s → s ∈ st) → ∀ s, C s → s ∈ ess es st := by
  intro n
  induction n with
  | zero =>
    intro st h hs
    have := essS_le es st
    rw [ess_stop (by omega)]; exact hs
  | succ n ih =>
    intro st h hs
    by_cases e : (essS es st).length = st.length
    · rw [ess_stop e]; exact hs
    · rw [ess_go e]
      refine ih _ (by have := essS_le es st; omega) (fun s hc => ?_)
      obtain ⟨⟨x, hx, e1, c1⟩, y, hy, e2, c2⟩ := hC s hc
      exact List.mem_filter.2 ⟨hs s hc, essP_iff.2 ⟨⟨x, hx, e1, hs _ c1⟩, y, hy, e2, hs _ c2⟩⟩
theorem ess_fix {es : List Ed} : ∀ n (st : List Int), st.length ≤ n → essS es (ess es st) = ess es st ∧ (ess es st).Sublist st := by
  intro n
  induction n with
  | zero =>
    intro st h
    have := essS_le es st
    rw [ess_stop (by omega)]; exact ⟨essS_eq (by omega), List.Sublist.refl _⟩
  | succ n ih =>
    intro st h
    by_cases e : (essS es st).length = st.length
    · rw [ess_stop e]; exact ⟨essS_eq e, List.Sublist.refl _⟩
    · rw [ess_go e]
      obtain ⟨a, b⟩ := ih (essS es st) (by have := essS_le es st; omega)
      exact ⟨a, b.trans List.filter_sublist⟩
/-- The states of the essential part. -/
def essT (G : Gr) : List Int := ess G.es (upto G.n.toNat)
theorem essT_st {G : Gr} (h : Vg G) : St G.n (essT G) := by
  have hs := (ess_fix (es := G.es) _ (upto G.n.toNat) (Nat.le_refl _)).2
  have hu := St.upto h.n1
  exact ⟨hu.srt.sublist hs, fun x hx => hu.ins x (hs.subset hx)⟩
theorem essT_P {G : Gr} {s : Int} (hs : s ∈ essT G) : essP G.es (essT G) s = true := by
  have h := (ess_fix (es := G.es) _ (upto G.n.toNat) (Nat.le_refl _)).1
  have : s ∈ essS G.es (essT G) := by rw [show essS G.es (essT G) = essT G from h]; exact hs
  exact (List.mem_filter.1 this).2
theorem essA_t {G : Gr} (h : Vg G) : essA G = (partA G (essT G), essT G, 0) := essA_ok (chkG_ok.2 h)
theorem iof_at {l : List Int} (hs : l.Pairwise (· < ·)) {i : Nat} (hi : i < l.length) : l.idxOf l[i] = i := by
  have hm : l[i] ∈ l := List.getElem_mem _
  have e := iof_get hm
  have hl := iof_lt hm
  rcases Nat.lt_trichotomy (l.idxOf l[i]) i with h | h | h
  · have := List.pairwise_iff_getElem.1 hs _ _ hl hi h; omega
  · exact h
  · have := List.pairwise_iff_getElem.1 hs _ _ hi hl h; omega
/-- Each state of the essential part has an edge to it and one from it. -/
theorem ess_edges {G : Gr} (h : Vg G) {t : Int} (h0 : 0 ≤ t) (h1 : t < (partA G (essT G)).n) : (∃ y ∈ (partA G (essT G)).es, y.t = t) ∧ ∃ y ∈ (partA G (essT G)).es, y.f = t := by
  have hs := essT_st h
  have hl : t.toNat < (essT G).length := by have : t < ((essT G).length : Int) := h1; omega
  have hm : (essT G)[t.toNat] ∈ essT G := List.getElem_mem _
  have hx := iof_at hs.srt hl
  obtain ⟨⟨x, hx1, e1, c1⟩, y, hy1, e2, c2⟩ := essP_iff.1 (essT_P hm)
  refine ⟨⟨_, List.mem_filterMap.2 ⟨x, hx1, part_go ⟨c1, by rw [e1]; exact hm⟩⟩, ?_⟩, ⟨_, List.mem_filterMap.2 ⟨y, hy1, part_go ⟨by rw [e2]; exact hm, c2⟩⟩, ?_⟩⟩
  · show (((essT G).idxOf x.t : Nat) : Int) = t
    rw [e1, hx]; omega
  · show (((essT G).idxOf y.f : Nat) : Int) = t
    rw [e2, hx]; omega
/-- The essential part of an essential part is itself. -/
theorem ess_ess {G : Gr} (h : Vg G) : essA (partA G (essT G)) = (partA G (essT G), upto (essT G).length, 0) := by
  have hs := essT_st h
  have hv := part_vg h hs
  have hn : (partA G (essT G)).n.toNat = (essT G).length := by show ((essT G).length : Int).toNat = _; omega
  have hst : ess (partA G (essT G)).es (upto (essT G).length) = upto (essT G).length := by
    refine ess_stop ?_
    have : essS (partA G (essT G)).es (upto (essT G).length) = upto (essT G).length := List.filter_eq_self.2 (fun t ht => by
      rw [mem_upto] at ht
      obtain ⟨⟨x, hx, e1⟩, y, hy, e2⟩ := ess_edges h ht.1 ht.2
      have ix := hv.ins x hx; have iy := hv.ins y hy
      have hnn : (partA G (essT G)).n = ((essT G).length : Int) := rfl
      exact essP_iff.2 ⟨⟨x, hx, e1, mem_upto.2 (by omega)⟩, y, hy, e2, mem_upto.2 (by omega)⟩)
    rw [this]
  rw [essA_ok (chkG_ok.2 hv), hn, hst]
  have := part_all hv
  rw [hn] at this
  rw [this]

/-! ### Closed paths -/
inductive Rch (es : List Ed) (a : Int) : Int → Prop
  | one {x : Ed} : x ∈ es → x.f = a → Rch es a x.t
  | more {x : Ed} : Rch es a x.f → x ∈ es → Rch es a x.t
theorem Rch.trans {es : List Ed} {a b c : Int} (h : Rch es a b) (k : Rch es b c) : Rch es a c := by
  induction k with
  | one hx e => subst e; exact .more h hx
  | more _ hx ih => exact .more ih hx
theorem Rch.head {es : List Ed} {a b : Int} (h : Rch es a b) : ∃ x ∈ es, x.f = a ∧ (x.t = b ∨ Rch es x.t b) := by
  induction h with
  | one hx e => exact ⟨_, hx, e, .inl rfl⟩
  | more _ hx ih =>
    obtain ⟨y, hy, e, h | h⟩ := ih
    · exact ⟨y, hy, e, .inr (.one hx h.symm)⟩
    · exact ⟨y, hy, e, .inr (.more h hx)⟩
theorem Rch.last {es : List Ed} {a b : Int} (h : Rch es a b) : ∃ x ∈ es, x.t = b ∧ (x.f = a ∨ Rch es a x.f) := by
  cases h with
  | one hx e => exact ⟨_, hx, rfl, .inl e⟩
  | more h hx => exact ⟨_, hx, rfl, .inr h⟩
theorem closed_ess {G : Gr} (h : Vg G) {a : Int} (hr : Rch G.es a a) : a ∈ essT G := by
  refine sup_ess (C := fun s => Rch G.es a s ∧ Rch G.es s a) (fun s hs => ⟨?_, ?_⟩) _ _ (Nat.le_refl _) (fun s hs => ?_) a ⟨hr, hr⟩
  · obtain ⟨x, hx, e, h1⟩ := hs.1.last
    refine ⟨x, hx, e, ?_⟩
    rcases h1 with h1 | h1
    · rw [h1]; exact ⟨hr, hr⟩
    · refine ⟨h1, Rch.trans (.one hx rfl) ?_⟩; rw [e]; exact hs.2
  · obtain ⟨x, hx, e, h1⟩ := hs.2.head
    refine ⟨x, hx, e, ?_⟩
    rcases h1 with h1 | h1
    · rw [h1]; exact ⟨hr, hr⟩
    · refine ⟨?_, h1⟩; exact Rch.trans hs.1 (.one hx e)
  · obtain ⟨x, hx, e, _⟩ := hs.1.last
    have := h.ins x hx; have := h.n1
    rw [mem_upto]; omega
end Go.Proofs.YtdhkdampdlhdoaaGreat
namespace Go.Proofs.YtdhkdampdlhdoaaGreat
open Go.RowKit Go.Sort Go.Shelf Go.Lib

theorem endA_stop {G : Gr} {st l : List Int} {k : Nat} (h : endA G st (l.take k) = []) : endA G st l = [] := by
  have e : endA G st l = endA G (endA G st (l.take k)) (l.drop k) := by
    unfold endA
    rw [← List.foldl_append, List.take_append_drop]
  rw [e, h, endA_nil]

set_option maxRecDepth 100000 in
set_option maxHeartbeats 2000000 in
theorem lEnds_any (G : Gr) (p : Option Addr) (c : Nat) (st : List Int) (q : Option Addr) (d : Nat) (s : ByteArray) (w : World) (hin : Sg 3 w edE p G.es) (hst : Sl w (Value.int .i64) q st) (hv : Vg G) (hS : St G.n st) (hw : Chg.okw G.q s.data.toList = true) (hs : s.size ≤ 65536) :
    Calls Tryz.prog 29 #[(.agg #[.int .i64 G.q, .int .i64 G.n, .slice p G.es.length c]), .slice q st.length d, .string s] w (LsOut (endA G st (ltr s)) w) := by
  have HIN := hidI hin; have HV := hidI hv; have HS := hidI hS; have HW := hidI hw
  have HST := hidI hst
  clear hin hst hv hS hw
  obtain ⟨w0, hw0⟩ : ∃ w0, w0 = w.alloc (.cells #[.int .i64 G.q, .int .i64 G.n, .slice p G.es.length c] 24) := ⟨_, rfl⟩
  have b0 : VRow w0 w.heap.size 24 [.int .i64 G.q, .int .i64 G.n, .slice p G.es.length c] := by subst hw0; exact VRow.new w _ _
  have hB0 : RowKit.Below w.heap.size w w0 := by subst hw0; exact (RowKit.Below.refl _ _).alloc (Nat.le_refl _) _
  have hE0 : endA G st ((ltr s).take 0) = st := rfl
  go_enter Tryz.func29, Tryz.ntmps29
  go_wp2
  rw [← hw0]
  clear hw0
  go_loopw [1, 7] (fun sv iv wr => ∃ (k : Nat) (qk : Option Addr) (dk : Nat), k ≤ s.size ∧ sv = .slice qk (endA G st ((ltr s).take k)).length dk ∧ iv = .int .i64 k ∧ Sl wr (Value.int .i64) qk (endA G st ((ltr s).take k)) ∧ RowKit.Below w0.heap.size w0 wr) (fun _ iv _ => s.size - (intOf iv).toNat)
  case atStart => exact ⟨0, q, d, by omega, by rw [hE0], rfl, by rw [hE0]; exact HST.out.below hB0, RowKit.Below.refl _ _⟩
  case round =>
    obtain ⟨k, qk, dk, hk, rfl, rfl, hsl, hB⟩ := hrel
    have HSK := hidI (endA_st G st HS.out ((ltr s).take k))
    have HSTOP := hidI (@endA_stop G st (ltr s) k)
    have xr := hB0.trans (hB.mono hB0.size)
    by_cases hlt : k < s.size
    · have HN : Hid (endA G st ((ltr s).take (k + 1)) = nextA G (endA G st ((ltr s).take k)) (Chg.dig (s[k].toNat : Int))) := by rw [Hid, ltr_take s k hlt, endA_snoc]
      generalize endA G st ((ltr s).take k) = L at *
      have hltN : (k : Int) < (s.size : Int) := by omega
      by_cases hL : 0 < L.length
      · have hLi : (0 : Int) < (L.length : Int) := by omega
        have hd := okw_at HW.out k hlt
        have r0 := b0.below hB b0.lt
        go_upto_region 4 with fail
        refine region_tail 5 (by kernel_rfl) (by kernel_rfl) fun W hD => ?_
        have g0 := (r0.dr hD).at 0 rfl; have g1 := (r0.dr hD).at 1 rfl; have g2 := (r0.dr hD).at 2 rfl
        have hBW := hB.trans (hD.below _)
        have xw := xr.trans (hD.below _)
        have hslW := hsl.dr hD
        clear r0
        simp only [List.take_succ_cons, List.take_zero, List.drop_succ_cons, List.drop_zero]
        iterate 5 still_step
        refine wpStill_nil ?_
        go_wp2_with fail
        refine (lStep_any G p c L qk dk s[k] W (HIN.out.below xw) hslW HV.out HSK.out hd.1 hd.2).mono ?_
        rintro e w2 ⟨p', m', c', rfl, hown, hB2⟩
        obtain ⟨q2, d2, he, hs2⟩ := own_sl hown
        cases he
        go_wp2
        go_roundw
        case rel => exact ⟨k + 1, p', c', by omega, by rw [HN.out], by go_num, by rw [HN.out]; exact hs2, hBW.trans (hB2.mono hBW.size)⟩
        case measure => simp [intOf]; omega
      · have hLi : ¬ (0 : Int) < (L.length : Int) := by omega
        have HE : Hid (endA G st (ltr s) = L) := by
          have h0 : L = [] := List.eq_nil_of_length_eq_zero (by omega)
          rw [Hid, h0]; exact HSTOP.out h0
        clear hL
        go_wp2
        go_ret
        exact ⟨qk, dk, by rw [HE.out]; rfl, by rw [HE.out]; exact hsl, xr⟩
    · obtain rfl : k = s.size := by omega
      have hkk : ¬ ((s.size : Int)) < (s.size : Int) := by omega
      have HE : Hid (endA G st (ltr s) = endA G st ((ltr s).take s.size)) := by rw [Hid, ltr_all]
      generalize endA G st ((ltr s).take s.size) = L at *
      go_wp2
      go_ret
      exact ⟨qk, dk, by rw [HE.out]; rfl, by rw [HE.out]; exact hsl, xr⟩

set_option maxRecDepth 100000 in
set_option maxHeartbeats 1000000 in
theorem lAccepts_any (G : Gr) (p : Option Addr) (c : Nat) (s : ByteArray) (w : World) (hin : Sg 3 w edE p G.es) (hv : Vg G) (hq : G.q ≤ 16) (hs : s.size ≤ maxLen) (hc : Chg.wchk G.q s.data.toList = 0) (hl : s.size ≤ 65536) :
    Calls Tryz.prog 12 #[(.agg #[.int .i64 G.q, .int .i64 G.n, .slice p G.es.length c]), .string s] w fun e w' => e = .returned (.tuple #[.bool (accA G s), .int .i64 0]) ∧ RowKit.Below w.heap.size w w' := by
  have HIN := hidI hin; have HV := hidI hv; have HC := hidI hc
  clear hin hv hc
  obtain ⟨w0, hw0⟩ : ∃ w0, w0 = w.alloc (.cells #[.int .i64 G.q, .int .i64 G.n, .slice p G.es.length c] 24) := ⟨_, rfl⟩
  have b0 : VRow w0 w.heap.size 24 [.int .i64 G.q, .int .i64 G.n, .slice p G.es.length c] := by subst hw0; exact VRow.new w _ _
  have hB0 : RowKit.Below w.heap.size w w0 := by subst hw0; exact (RowKit.Below.refl _ _).alloc (Nat.le_refl _) _
  go_enter Tryz.func12, Tryz.ntmps12
  go_wp2_with fail
  rw [← hw0]
  clear hw0
  refine (lSpells_any G p c s w0 (HIN.out.below hB0) HV.out hq hs).mono ?_
  rw [HC.out]
  rintro e w1 ⟨rfl, hB1⟩
  have x1 := hB0.trans (hB1.mono hB0.size)
  have b1 := b0.below hB1 b0.lt
  go_upto_region 4 with fail
  have g0 := b1.at 0 rfl; have g1 := b1.at 1 rfl; have g2 := b1.at 2 rfl
  have zb : w.heap.size < w1.heap.size := b1.lt
  have HIX : Hid (∀ W, RowKit.Below w1.heap.size w1 W → Sg 3 W edE p G.es) := fun W h => HIN.out.below (x1.trans (h.mono x1.size))
  have HA : Hid (accA G s = decide (0 < (endA G (upto G.n.toNat) (ltr s)).length)) := rfl
  have HUP := hidI (St.upto HV.out.n1)
  have HOK := hidI (wchk_okw HC.out)
  clear b0 hB0 hB1 b1
  generalize hL : endA G (upto G.n.toNat) (ltr s) = L at *
  have HL := hidI hL
  clear hL
  go_cut [4, 5] (fun s4 s5 wx => s4 = .bool (decide (0 < L.length)) ∧ s5 = .int .i64 0 ∧ RowKit.Below w1.heap.size w1 wx)
  case first =>
    go_region_held3 (fun w' => w'.cell? ⟨w.heap.size, 0, none⟩ = some (.int .i64 G.q) ∧ w'.cell? ⟨w.heap.size, 1, none⟩ = some (.int .i64 G.n) ∧ w'.cell? ⟨w.heap.size, 2, none⟩ = some (.slice p G.es.length c) ∧ RowKit.Below w1.heap.size w1 w')
      (first | (go_split_ands; refine ⟨?_, ?_, ?_, ?_⟩ <;> first | assumption | (go_keep; done) | exact below_drewN (RowKit.Below.refl _ _) 1 | exact (hBa.cell (Nat.lt_of_lt_of_le zb (RowKit.Below.size (by assumption)))).trans (by assumption) | exact (hBb.cell (Nat.lt_of_lt_of_le zb (RowKit.Below.size (by assumption)))).trans (by assumption) | exact RowKit.Below.trans (by assumption) (hBa.mono (RowKit.Below.size (by assumption))) | exact RowKit.Below.trans (by assumption) (hBb.mono (RowKit.Below.size (by assumption)))))
      (first
        | (go_at_call 30; go_split_ands; refine (lStates_any G p c _ HV.out).mono ?_; rintro e wA ⟨q, d, rfl, hsl, hBa⟩)
        | (go_at_call 29; go_split_ands; refine (lEnds_any G p c (upto G.n.toNat) q d s _ (HIX.out _ (by assumption)) hsl HV.out HUP.out HOK.out hl).mono ?_; rw [HL.out]; rintro e wB ⟨q3, d3, rfl, _, hBb⟩))
    all_goals
      go_wp2_with fail
      go_meet
      exact ⟨rfl, rfl, RowKit.Below.trans (by assumption) (hBb.mono (RowKit.Below.size (by assumption)))⟩
  case rest =>
    obtain ⟨rfl, rfl, hB2⟩ := hcut
    go_wp2
    go_ret2
    refine ⟨?_, x1.trans (hB2.mono x1.size)⟩
    rw [HA.out]; rfl
end Go.Proofs.YtdhkdampdlhdoaaGreat
namespace Go.Proofs.YtdhkdampdlhdoaaGreat

section
variable {α : Type}

theorem snocs (l : List α) : l = [] ∨ ∃ z b, l = z ++ [b] := by
  rcases List.eq_nil_or_concat l with e | ⟨z, b, e⟩
  · exact .inl e
  · exact .inr ⟨z, b, by rw [e, List.concat_eq_append]⟩

/-- No word of the list is a factor. -/
def Av (L : List (List α)) (v : List α) : Prop := ∀ u ∈ L, ¬ u <:+: v
theorem Av.sub {L : List (List α)} {v w : List α} (h : Av L w) (hv : v <:+: w) : Av L v := fun u hu hi => h u hu (hi.trans hv)
/-- The states: allowed beginnings of the list's words, but not these. -/
def Pr (L : List (List α)) (p : List α) : Prop := Av L p ∧ (p = [] ∨ ∃ u ∈ L, p <+: u ∧ p.length < u.length)
/-- The first end that is a state. -/
def sg (st : List α → Bool) : List α → List α
  | [] => []
  | a :: v => if st (a :: v) = true then a :: v else sg st v
theorem sg_suf (st : List α → Bool) : ∀ v, sg st v <:+ v
  | [] => List.suffix_refl _
  | a :: v => by
    unfold sg; split
    · exact List.suffix_refl _
    · exact (sg_suf st v).trans (List.suffix_cons _ _)
theorem sg_mem {st : List α → Bool} (h0 : st [] = true) : ∀ v, st (sg st v) = true
  | [] => h0
  | a :: v => by
    unfold sg; split
    · assumption
    · exact sg_mem h0 v
theorem sg_max {st : List α → Bool} {s : List α} (hs : st s = true) : ∀ {v}, s <:+ v → s <:+ sg st v
  | [], h => h
  | a :: v, h => by
    unfold sg; split
    · exact h
    · rename_i hn
      rcases List.suffix_cons_iff.1 h with e | h
      · subst e; exact absurd hs hn
      · exact sg_max hs h
theorem suf_anti {a b : List α} (h1 : a <:+ b) (h2 : b <:+ a) : a = b := h1.eq_of_length (Nat.le_antisymm h1.length_le h2.length_le)
theorem sg_self {st : List α → Bool} {s : List α} (hs : st s = true) : sg st s = s := suf_anti (sg_suf st s) (sg_max hs (List.suffix_refl _))
theorem suf_snoc {z v : List α} {a : α} (h : z <:+ v ++ [a]) : z = [] ∨ ∃ z', z = z' ++ [a] ∧ z' <:+ v := by
  rcases snocs z with e | ⟨z', b, rfl⟩
  · exact .inl e
  · obtain ⟨t, ht⟩ := h
    rw [← List.append_assoc] at ht
    obtain ⟨h1, h2⟩ := List.append_inj' ht rfl
    refine .inr ⟨z', by rw [h2], ⟨t, h1⟩⟩
theorem suf_snoc' {z v : List α} (a : α) (h : z <:+ v) : z ++ [a] <:+ v ++ [a] := by
  obtain ⟨t, rfl⟩ := h
  exact ⟨t, by simp⟩
/-- The state behind one letter more. -/
theorem sg_step {st : List α → Bool} (h0 : st [] = true) (hp : ∀ p a, st (p ++ [a]) = true → st p = true) (v : List α) (a : α) : sg st (v ++ [a]) = sg st (sg st v ++ [a]) := by
  refine suf_anti ?_ (sg_max (sg_mem h0 _) ((sg_suf st _).trans (suf_snoc' a (sg_suf st v))))
  refine sg_max (sg_mem h0 _) ?_
  have hm := sg_mem h0 (v ++ [a])
  have hs := sg_suf st (v ++ [a])
  generalize sg st (v ++ [a]) = z at *
  rcases suf_snoc hs with e | ⟨z', rfl, hz⟩
  · subst e; exact List.nil_suffix
  · exact suf_snoc' a (sg_max (hp _ _ hm) hz)
theorem Pr.pre {L : List (List α)} {p : List α} {a : α} (h : Pr L (p ++ [a])) : Pr L p := by
  obtain ⟨h1, h2⟩ := h
  refine ⟨h1.sub ⟨[], [a], by simp⟩, ?_⟩
  rcases h2 with h | ⟨u, hu, h3, h4⟩
  · simp at h
  · exact .inr ⟨u, hu, (List.prefix_append p [a]).trans h3, by simp at h4; omega⟩
theorem Pr.nil {L : List (List α)} (hL : ∀ u ∈ L, u ≠ []) : Pr L [] := ⟨fun u hu hi => hL u hu (List.infix_nil.1 hi), .inl rfl⟩

/-- One step; a path. -/
def stpK (L : List (List α)) (st : List α → Bool) (p : List α) (a : α) (t : List α) : Prop := (∀ u ∈ L, ¬ u <:+ p ++ [a]) ∧ t = sg st (p ++ [a])
def wpt (L : List (List α)) (st : List α → Bool) : List α → List α → List α → Prop
  | p, [], t => p = t
  | p, a :: v, t => ∃ m, stpK L st p a m ∧ wpt L st m v t
structure Aut (L : List (List α)) (st : List α → Bool) : Prop where
  ne : ∀ u ∈ L, u ≠ []
  iff : ∀ p, st p = true ↔ Pr L p
theorem Aut.nil {L : List (List α)} {st : List α → Bool} (h : Aut L st) : st [] = true := (h.iff _).2 (Pr.nil h.ne)
theorem Aut.pre {L : List (List α)} {st : List α → Bool} (h : Aut L st) (p : List α) (a : α) (hp : st (p ++ [a]) = true) : st p = true := (h.iff _).2 ((h.iff _).1 hp).pre
theorem av_snoc {L : List (List α)} {z : List α} {a : α} (h : Av L z) (h2 : ∀ u ∈ L, ¬ u <:+ z ++ [a]) : Av L (z ++ [a]) := fun u hu hi => by
  rcases List.infix_concat_iff.1 hi with h3 | h3
  · exact h2 u hu h3
  · exact h u hu h3
/-- What a path's labels spell is allowed, behind its state's word. -/
theorem Aut.spell {L : List (List α)} {st : List α → Bool} (H : Aut L st) : ∀ {v z p t : List α}, Av L z → p = sg st z → wpt L st p v t → Av L (z ++ v) ∧ t = sg st (z ++ v)
  | [], z, p, t, hz, hp, hw => by
    have hw : p = t := hw
    rw [List.append_nil]; exact ⟨hz, by rw [← hw, hp]⟩
  | a :: v, z, p, t, hz, hp, hw => by
    obtain ⟨m, ⟨h1, h2⟩, h3⟩ := hw
    have hA : Av L (z ++ [a]) := av_snoc hz (fun u hu hs => by
      rcases suf_snoc hs with e | ⟨u', rfl, hu'⟩
      · exact H.ne u hu e
      · have hP : st u' = true := (H.iff _).2 ⟨hz.sub hu'.isInfix, .inr ⟨_, hu, List.prefix_append _ _, by simp⟩⟩
        exact h1 _ hu (suf_snoc' a (by rw [hp]; exact sg_max hP hu')))
    have := H.spell (v := v) (z := z ++ [a]) hA (by rw [h2, hp, ← sg_step H.nil H.pre]) h3
    simpa using this

/-! ### Words that can be extended -/
def Gd (S : List α) (L : List (List α)) (w : List α) : Prop := ∀ n : Nat, ∃ x y : List α, n ≤ x.length ∧ n ≤ y.length ∧ (∀ c ∈ x, c ∈ S) ∧ (∀ c ∈ y, c ∈ S) ∧ Av L (x ++ w ++ y)
theorem pigeon {P : α → Nat → Prop} (hmono : ∀ c n m, m ≤ n → P c n → P c m) : ∀ {S : List α}, (∀ n, ∃ c ∈ S, P c n) → ∃ c ∈ S, ∀ n, P c n
  | [], h => by obtain ⟨c, hc, _⟩ := h 0; simp at hc
  | a :: S, h => by
    by_cases ha : ∀ n, P a n
    · exact ⟨a, by simp, ha⟩
    · obtain ⟨k, hk⟩ := Classical.not_forall.1 ha
      obtain ⟨c, hc, hp⟩ := pigeon hmono (S := S) (fun n => by
        obtain ⟨c, hc, hp⟩ := h (max n k)
        rcases List.mem_cons.1 hc with e | hc
        · subst e; exact absurd (hmono _ _ _ (Nat.le_max_right _ _) hp) hk
        · exact ⟨c, hc, hmono _ _ _ (Nat.le_max_left _ _) hp⟩)
      exact ⟨c, List.mem_cons_of_mem _ hc, hp⟩
theorem Gd.av {S : List α} {L : List (List α)} {w : List α} (h : Gd S L w) : Av L w := by
  obtain ⟨x, y, _, _, _, _, h1⟩ := h 0
  exact h1.sub ⟨x, y, rfl⟩
theorem Gd.right {S : List α} {L : List (List α)} {w : List α} (h : Gd S L w) : ∃ c ∈ S, Gd S L (w ++ [c]) := by
  refine pigeon (P := fun c n => ∃ x y : List α, n ≤ x.length ∧ n ≤ y.length ∧ (∀ c ∈ x, c ∈ S) ∧ (∀ c ∈ y, c ∈ S) ∧ Av L (x ++ (w ++ [c]) ++ y)) ?_ ?_
  · rintro c n m hm ⟨x, y, h1, h2, h3⟩
    exact ⟨x, y, by omega, by omega, h3⟩
  · intro n
    obtain ⟨x, y, h1, h2, h3, h4, h5⟩ := h (n + 1)
    cases y with
    | nil => simp at h2
    | cons c y => exact ⟨c, h4 c (by simp), x, y, by omega, by simpa using h2, h3, fun d hd => h4 d (by simp [hd]), by simpa using h5⟩
theorem Gd.left {S : List α} {L : List (List α)} {w : List α} (h : Gd S L w) : ∃ c ∈ S, Gd S L (c :: w) := by
  refine pigeon (P := fun c n => ∃ x y : List α, n ≤ x.length ∧ n ≤ y.length ∧ (∀ c ∈ x, c ∈ S) ∧ (∀ c ∈ y, c ∈ S) ∧ Av L (x ++ (c :: w) ++ y)) ?_ ?_
  · rintro c n m hm ⟨x, y, h1, h2, h3⟩
    exact ⟨x, y, by omega, by omega, h3⟩
  · intro n
    obtain ⟨x, y, h1, h2, h3, h4, h5⟩ := h (n + 1)
    rcases snocs x with e | ⟨x', c, rfl⟩
    · subst e; simp at h1
    · exact ⟨c, h3 c (by simp), x', y, by simpa using h1, by omega, fun d hd => h3 d (by simp [hd]), h4, by simpa using h5⟩
theorem Gd.pre {S : List α} {L : List (List α)} {w : List α} {c : α} (hc : c ∈ S) (h : Gd S L (w ++ [c])) : Gd S L w := fun n => by
  obtain ⟨x, y, h1, h2, h3, h4, h5⟩ := h n
  refine ⟨x, c :: y, h1, by simp; omega, h3, fun d hd => ?_, by simpa using h5⟩
  rcases List.mem_cons.1 hd with e | e
  · rw [e]; exact hc
  · exact h4 d e
theorem Gd.far {S : List α} {L : List (List α)} {w : List α} (h : Gd S L w) : ∀ n : Nat, ∃ x : List α, n ≤ x.length ∧ (∀ c ∈ x, c ∈ S) ∧ Gd S L (x ++ w)
  | 0 => ⟨[], by simp, by simp, h⟩
  | n + 1 => by
    obtain ⟨x, h1, h2, h3⟩ := Gd.far h n
    obtain ⟨c, hc, h4⟩ := h3.left
    exact ⟨c :: x, by simp; omega, fun d hd => by
      rcases List.mem_cons.1 hd with e | e
      · rw [e]; exact hc
      · exact h2 d e, h4⟩
/-- The states behind words that can be extended. -/
def Tt (S : List α) (L : List (List α)) (st : List α → Bool) (M : Nat) (p : List α) : Prop := ∃ u : List α, M ≤ u.length ∧ (∀ c ∈ u, c ∈ S) ∧ Gd S L u ∧ p = sg st u
theorem Aut.stp_of {L : List (List α)} {st : List α → Bool} (H : Aut L st) {u : List α} {c : α} (h : Av L (u ++ [c])) : stpK L st (sg st u) c (sg st (u ++ [c])) :=
  ⟨fun z hz hs => h z hz ((hs.trans (suf_snoc' c (sg_suf st u))).isInfix), sg_step H.nil H.pre u c⟩
theorem Tt.out {S : List α} {L : List (List α)} {st : List α → Bool} (H : Aut L st) {M : Nat} {p : List α} (h : Tt S L st M p) : ∃ c ∈ S, ∃ t, stpK L st p c t ∧ Tt S L st M t := by
  obtain ⟨u, h1, h2, h3, rfl⟩ := h
  obtain ⟨c, hc, h4⟩ := h3.right
  refine ⟨c, hc, _, H.stp_of h4.av, u ++ [c], by simp; omega, fun d hd => ?_, h4, rfl⟩
  rcases List.mem_append.1 hd with e | e
  · exact h2 d e
  · rw [List.mem_singleton.1 e]; exact hc
theorem sg_cons {st : List α → Bool} {M : Nat} (hM : ∀ p, st p = true → p.length ≤ M) (h0 : st [] = true) {c : α} {u : List α} (hu : M ≤ u.length) : sg st (c :: u) = sg st u := by
  refine suf_anti (sg_max (sg_mem h0 _) ?_) (sg_max (sg_mem h0 _) ((sg_suf st u).trans (List.suffix_cons _ _)))
  rcases List.suffix_cons_iff.1 (sg_suf st (c :: u)) with e | e
  · have := hM _ (sg_mem h0 (c :: u)); rw [e] at this; simp at this; omega
  · exact e
theorem Tt.into {S : List α} {L : List (List α)} {st : List α → Bool} (H : Aut L st) {M : Nat} (hM : ∀ p, st p = true → p.length ≤ M) (hM1 : 0 < M) {p : List α} (h : Tt S L st M p) : ∃ c ∈ S, ∃ t, stpK L st t c p ∧ Tt S L st M t := by
  obtain ⟨u, h1, h2, h3, rfl⟩ := h
  obtain ⟨c, hc, h4⟩ := h3.left
  rcases snocs u with e | ⟨u', d, rfl⟩
  · subst e; simp at h1; omega
  · have hd : d ∈ S := h2 d (by simp)
    have hs := H.stp_of (u := c :: u') (c := d) (by simpa using h4.av)
    rw [List.cons_append, sg_cons hM H.nil h1] at hs
    refine ⟨d, hd, _, hs, c :: u', by simp at h1; simp; omega, fun e he => ?_, Gd.pre hd (by simpa using h4), rfl⟩
    rcases List.mem_cons.1 he with e1 | e1
    · rw [e1]; exact hc
    · exact h2 e (by simp [e1])
/-- A path whose states are all such. -/
def wptT (T : List α → Prop) (L : List (List α)) (st : List α → Bool) : List α → List α → List α → Prop
  | p, [], t => p = t ∧ T p
  | p, a :: v, t => T p ∧ ∃ m, stpK L st p a m ∧ wptT T L st m v t
theorem Aut.path {S : List α} {L : List (List α)} {st : List α → Bool} (H : Aut L st) {M : Nat} : ∀ {w u : List α}, M ≤ u.length → (∀ c ∈ u, c ∈ S) → (∀ c ∈ w, c ∈ S) → Gd S L (u ++ w) → ∃ t, wptT (Tt S L st M) L st (sg st u) w t
  | [], u, h1, h2, _, h4 => ⟨sg st u, rfl, u, h1, h2, by simpa using h4, rfl⟩
  | c :: w, u, h1, h2, h3, h4 => by
    have hc := h3 c (by simp)
    have hu : Gd S L u := by
      have : ∀ (w : List α), (∀ c ∈ w, c ∈ S) → ∀ u, Gd S L (u ++ w) → Gd S L u := by
        intro w
        induction w with
        | nil => intro _ u h; simpa using h
        | cons c w ih =>
          intro hw u h
          exact Gd.pre (hw c (by simp)) (ih (fun d hd => hw d (by simp [hd])) (u ++ [c]) (by simpa using h))
      exact this _ h3 u h4
    obtain ⟨t, ht⟩ := H.path (S := S) (M := M) (w := w) (u := u ++ [c]) (by simp; omega) (fun d hd => by
      rcases List.mem_append.1 hd with e | e
      · exact h2 d e
      · rw [List.mem_singleton.1 e]; exact hc) (fun d hd => h3 d (by simp [hd])) (by simpa using h4)
    refine ⟨t, ⟨u, h1, h2, hu, rfl⟩, _, H.stp_of ?_, ht⟩
    exact h4.av.sub ⟨[], w, by simp⟩
theorem Gd.found {S : List α} {L : List (List α)} {st : List α → Bool} (H : Aut L st) {w : List α} (h : Gd S L w) (hw : ∀ c ∈ w, c ∈ S) (M : Nat) : ∃ p t, wptT (Tt S L st M) L st p w t := by
  obtain ⟨x, h1, h2, h3⟩ := h.far M
  exact ⟨_, H.path h1 h2 hw h3⟩
end

/-! ### Bytes -/
theorem contains_inf (s u : List UInt8) : Lib.contains s u = true ↔ u <:+: s := by
  unfold Lib.contains
  rw [decide_eq_true_eq]
  constructor
  · intro h
    rcases Lib.index_spec s u with ⟨h1, _⟩ | ⟨i, h1, h2, h3, _⟩
    · omega
    · have h3 : u.isPrefixOf (s.drop i) = true := by simpa [Lib.occAt] using h3
      exact (List.isPrefixOf_iff_prefix.1 h3).isInfix.trans (List.drop_suffix i s).isInfix
  · rintro ⟨a, b, rfl⟩
    rcases Lib.index_spec (a ++ u ++ b) u with ⟨_, h2⟩ | ⟨i, h1, _⟩
    · have := h2 a.length (by simp)
      have h4 : u.isPrefixOf ((a ++ u ++ b).drop a.length) = true := List.isPrefixOf_iff_prefix.2 (by simp)
      unfold Lib.occAt at this
      rw [h4] at this; cases this
    · omega
theorem hasSuffix_suf (s u : List UInt8) : Lib.hasSuffix s u = true ↔ u <:+ s := by
  unfold Lib.hasSuffix
  exact List.isSuffixOf_iff_suffix
end Go.Proofs.YtdhkdampdlhdoaaGreat
namespace Go.Proofs.YtdhkdampdlhdoaaGreat
open Go.RowKit Go.Sort

/-! ### Paths -/
def pth (es : List Ed) : Int → List Int → Int → Prop
  | u, [], t => u = t
  | u, b :: l, t => ∃ x ∈ es, x.f = u ∧ x.l = b ∧ pth es x.t l t
theorem mem_endA {G : Gr} (hv : Vg G) : ∀ (l st : List Int) (t : Int), t ∈ endA G st l ↔ ∃ u ∈ st, pth G.es u l t
  | [], st, t => by
    show t ∈ st ↔ _
    constructor
    · intro h; exact ⟨t, h, rfl⟩
    · rintro ⟨u, hu, rfl⟩; exact hu
  | b :: l, st, t => by
    show t ∈ endA G (nextA G st b) l ↔ _
    rw [mem_endA hv l]
    constructor
    · rintro ⟨u, hu, hp⟩
      obtain ⟨x, hx, rfl, h1, h2⟩ := (mem_nextA hv).1 hu
      exact ⟨x.f, h2, x, hx, rfl, h1, hp⟩
    · rintro ⟨u, hu, x, hx, rfl, h1, hp⟩
      exact ⟨x.t, (mem_nextA hv).2 ⟨x, hx, rfl, h1, hu⟩, hp⟩
theorem acc_iff {G : Gr} (hv : Vg G) (s : ByteArray) : accA G s = true ↔ ∃ u t, 0 ≤ u ∧ u < G.n ∧ pth G.es u (ltr s) t := by
  have hn := hv.n1
  unfold accA
  rw [decide_eq_true_eq, List.length_pos_iff_exists_mem]
  constructor
  · rintro ⟨t, ht⟩
    obtain ⟨u, hu, hp⟩ := (mem_endA hv _ _ _).1 ht
    have := mem_upto.1 hu
    exact ⟨u, t, this.1, by omega, hp⟩
  · rintro ⟨u, t, h0, h1, hp⟩
    exact ⟨t, (mem_endA hv _ _ _).2 ⟨u, mem_upto.2 ⟨h0, by omega⟩, hp⟩⟩
theorem pth_app {es : List Ed} : ∀ {l m : List Int} {u t : Int}, pth es u (l ++ m) t ↔ ∃ v, pth es u l v ∧ pth es v m t
  | [], m, u, t => by
    constructor
    · intro h; exact ⟨u, rfl, h⟩
    · rintro ⟨v, rfl, h⟩; exact h
  | b :: l, m, u, t => by
    show (∃ x ∈ es, x.f = u ∧ x.l = b ∧ pth es x.t (l ++ m) t) ↔ _
    constructor
    · rintro ⟨x, hx, h1, h2, h3⟩
      obtain ⟨v, h4, h5⟩ := pth_app.1 h3
      exact ⟨v, ⟨x, hx, h1, h2, h4⟩, h5⟩
    · rintro ⟨v, ⟨x, hx, h1, h2, h4⟩, h5⟩
      exact ⟨x, hx, h1, h2, pth_app.2 ⟨v, h4, h5⟩⟩
/-- A path of a part is one of the graph. -/
theorem pth_part {G : Gr} {st : List Int} : ∀ {l : List Int} {i j u : Int}, u ∈ st → ((st.idxOf u : Nat) : Int) = i → pth (partA G st).es i l j → ∃ v ∈ st, ((st.idxOf v : Nat) : Int) = j ∧ pth G.es u l v
  | [], i, j, u, hu, hi, hp => ⟨u, hu, by rw [hi]; exact hp, rfl⟩
  | b :: l, i, j, u, hu, hi, hp => by
    obtain ⟨y, hy, h1, h2, h3⟩ := hp
    obtain ⟨x, hx, hxy⟩ := List.mem_filterMap.1 (show y ∈ G.es.filterMap (partE st) from hy)
    obtain ⟨a1, a2, rfl⟩ := partE_some hxy
    have e : x.f = u := iof_inj a1 hu (by
      have h1 : ((st.idxOf x.f : Nat) : Int) = i := h1
      omega)
    obtain ⟨v, hv, hv2, hv3⟩ := pth_part a2 rfl h3
    exact ⟨v, hv, hv2, x, hx, e, h2, hv3⟩
/-- A path that keeps to a set of states is one of the part. -/
def pthT (es : List Ed) (C : Int → Prop) : Int → List Int → Int → Prop
  | u, [], t => u = t ∧ C u
  | u, b :: l, t => C u ∧ ∃ x ∈ es, x.f = u ∧ x.l = b ∧ pthT es C x.t l t
theorem pthT_head {es : List Ed} {C : Int → Prop} : ∀ {l : List Int} {u t : Int}, pthT es C u l t → C u
  | [], _, _, h => h.2
  | _ :: _, _, _, h => h.1
theorem pthT_part {G : Gr} {st : List Int} {C : Int → Prop} (hC : ∀ s, C s → s ∈ st) : ∀ {l : List Int} {u t : Int}, pthT G.es C u l t → pth (partA G st).es ((st.idxOf u : Nat) : Int) l ((st.idxOf t : Nat) : Int)
  | [], u, t, h => by show ((st.idxOf u : Nat) : Int) = _; rw [h.1]
  | b :: l, u, t, h => by
    obtain ⟨h0, x, hx, rfl, h2, h3⟩ := h
    exact ⟨_, List.mem_filterMap.2 ⟨x, hx, part_go ⟨hC _ h0, hC _ (pthT_head h3)⟩⟩, rfl, h2, pthT_part hC h3⟩
/-- Inside an essential part each path goes on, on both sides. -/
theorem pth_more {G : Gr} (h : Vg G) : ∀ (n : Nat) {u : Int}, 0 ≤ u → u < (partA G (essT G)).n → (∃ (l : List Int) (t : Int), l.length = n ∧ pth (partA G (essT G)).es u l t) ∧ ∃ (l : List Int) (t : Int), 0 ≤ t ∧ t < (partA G (essT G)).n ∧ l.length = n ∧ pth (partA G (essT G)).es t l u
  | 0, u, h0, h1 => ⟨⟨[], u, rfl, rfl⟩, [], u, h0, h1, rfl, rfl⟩
  | n + 1, u, h0, h1 => by
    have hv := part_vg h (essT_st h)
    obtain ⟨⟨y, hy, e1⟩, z, hz, e2⟩ := ess_edges h h0 h1
    have iy := hv.ins y hy
    have iz := hv.ins z hz
    obtain ⟨⟨l, t, hl, hp⟩, _⟩ := pth_more h n iz.2.2.1 iz.2.2.2.2.1
    obtain ⟨_, m, s, hs0, hs1, hm, hq⟩ := pth_more h n iy.1 iy.2.2.2.1
    refine ⟨⟨z.l :: l, t, by simp [hl], z, hz, e2, rfl, hp⟩, m ++ [y.l], s, hs0, hs1, by simp [hm], pth_app.2 ⟨y.f, hq, y, hy, rfl, rfl, e1⟩⟩
theorem pth_lab {G : Gr} (h : Vg G) : ∀ {l : List Int} {u t : Int}, pth G.es u l t → ∀ b ∈ l, 0 ≤ b ∧ b < G.q
  | [], _, _, _, b, hb => by simp at hb
  | c :: l, _, _, hp, b, hb => by
    obtain ⟨x, hx, _, h2, h3⟩ := hp
    rcases List.mem_cons.1 hb with e | e
    · subst e; have := h.ins x hx; omega
    · exact pth_lab h h3 b e

/-! ### Words as lists of bytes -/
def bl (w : ByteArray) : List UInt8 := w.data.toList
def lb (p : List UInt8) : ByteArray := ⟨p.toArray⟩
theorem lb_bl (w : ByteArray) : lb (bl w) = w := by cases w; simp [lb, bl]
theorem bl_lb (p : List UInt8) : bl (lb p) = p := by simp [lb, bl]
theorem bl_len (w : ByteArray) : (bl w).length = w.size := by cases w; rfl
theorem bl_inj {a b : ByteArray} (h : bl a = bl b) : a = b := by rw [← lb_bl a, h, lb_bl]
theorem bl_ext (w : ByteArray) (i k : Nat) : bl (w.extract i k) = ((bl w).take k).drop i := by
  unfold bl
  rw [ByteArray.data_extract, Array.toList_extract, List.extract_eq_take_drop]
  rw [List.drop_take]
theorem bl_app (a b : ByteArray) : bl (a ++ b) = bl a ++ bl b := by unfold bl; rw [ByteArray.data_append, Array.toList_append]
def Ls (l : List ByteArray) : List (List UInt8) := l.map bl
theorem mem_Ls {l : List ByteArray} {u : List UInt8} : u ∈ Ls l ↔ lb u ∈ l := by
  unfold Ls
  rw [List.mem_map]
  constructor
  · rintro ⟨x, hx, rfl⟩; rw [lb_bl]; exact hx
  · intro h; exact ⟨_, h, bl_lb u⟩
theorem bl_Ls {l : List ByteArray} {x : ByteArray} (h : x ∈ l) : bl x ∈ Ls l := List.mem_map_of_mem h
theorem av_iff {l : List ByteArray} {w : ByteArray} : alwA l w = true ↔ Av (Ls l) (bl w) := by
  unfold alwA Av Ls
  rw [Bool.not_eq_true', List.any_eq_false]
  constructor
  · intro h u hu hi
    obtain ⟨x, hx, rfl⟩ := List.mem_map.1 hu
    exact h x hx ((contains_inf _ _).2 hi)
  · intro h x hx hc
    exact h _ (List.mem_map_of_mem hx) ((contains_inf _ _).1 hc)
theorem bad_iffL {l : List ByteArray} {w : ByteArray} : badA l w = false ↔ ∀ u ∈ Ls l, ¬ u <:+ bl w := by
  unfold badA Ls
  rw [List.any_eq_false]
  constructor
  · intro h u hu hi
    obtain ⟨x, hx, rfl⟩ := List.mem_map.1 hu
    exact h x hx ((hasSuffix_suf _ _).2 hi)
  · intro h x hx hc
    exact h _ (List.mem_map_of_mem hx) ((hasSuffix_suf _ _).1 hc)
def stB (l : List ByteArray) (p : List UInt8) : Bool := (stA l).any (fun u => bl u == p)
theorem stB_iff {l : List ByteArray} {p : List UInt8} : stB l p = true ↔ lb p ∈ stA l := by
  unfold stB
  rw [List.any_eq_true]
  constructor
  · rintro ⟨u, hu, he⟩
    have e : bl u = p := by simpa using he
    rw [← e, lb_bl]; exact hu
  · intro h; exact ⟨_, h, by rw [bl_lb]; simp⟩
theorem aut_of {l : List ByteArray} (hl : ∀ u ∈ l, u ≠ (⟨#[]⟩ : ByteArray)) : Aut (Ls l) (stB l) where
  ne := fun u hu e => by subst e; exact hl _ (mem_Ls.1 hu) rfl
  iff := fun p => by
    rw [stB_iff]
    constructor
    · intro h
      have ha := av_iff.1 (stA_alw hl h)
      rw [bl_lb] at ha
      refine ⟨ha, ?_⟩
      have h := mem_insAll.1 h
      unfold candF preF at h
      rcases List.mem_cons.1 h with h | h
      · left; rw [← bl_lb p, h]; rfl
      · obtain ⟨x, hx, hu⟩ := List.mem_flatMap.1 h
        obtain ⟨k, hk, he⟩ := List.mem_map.1 (List.mem_filter.1 hu).1
        have hk := List.mem_range.1 hk
        refine .inr ⟨bl x, bl_Ls (List.mem_of_mem_take hx), ?_, ?_⟩
        · rw [← bl_lb p, ← he, bl_ext, List.drop_zero]; exact List.take_prefix _ _
        · rw [← bl_lb p, ← he, bl_len, bl_len]; simp; omega
    · rintro ⟨ha, h⟩
      refine mem_insAll.2 ?_
      unfold candF preF
      rcases h with h | ⟨u, hu, hp, hlt⟩
      · subst h; exact List.mem_cons_self
      · refine List.mem_cons_of_mem _ (List.mem_flatMap.2 ⟨lb u, by rw [List.take_length]; exact mem_Ls.1 hu, List.mem_filter.2 ⟨List.mem_map.2 ⟨p.length, List.mem_range.2 ?_, ?_⟩, ?_⟩⟩)
        · rw [← bl_len, bl_lb]; exact hlt
        · refine bl_inj ?_
          rw [bl_ext, bl_lb, bl_lb, List.drop_zero]
          exact (List.prefix_iff_eq_take.1 hp).symm
        · exact av_iff.2 (by rw [bl_lb]; exact ha)

/-! ### Letters -/
def lt (a : Int) : UInt8 := (bl ltB).getD a.toNat 48
def dg (c : UInt8) : Int := Chg.dig (c.toNat : Int)
def sigL (q : Int) : List UInt8 := (bl ltB).take q.toNat
theorem lt_dg : ∀ a : Nat, a < 16 → dg (lt (a : Int)) = a := by decide
theorem dg_lt : ∀ c : Nat, c < 256 → 0 ≤ Chg.dig (c : Int) → lt (Chg.dig (c : Int)) = UInt8.ofNat c := by decide +kernel
theorem lt_of (c : UInt8) (h : 0 ≤ dg c) : lt (dg c) = c := by
  have := dg_lt c.toNat (UInt8.toNat_lt c) h
  unfold dg; rw [this]; exact UInt8.ofNat_toNat
theorem bl_ltB : (bl ltB).length = 16 := rfl
theorem lt_get (a : Nat) (h : a < 16) : lt (a : Int) = (bl ltB)[a]'(by rw [bl_ltB]; exact h) := by
  unfold lt; rw [Int.toNat_natCast, List.getD_eq_getElem?_getD, List.getElem?_eq_getElem (by rw [bl_ltB]; exact h)]; rfl
theorem mem_sig {q : Int} (hq : q ≤ 16) {c : UInt8} : c ∈ sigL q ↔ ∃ a : Nat, (a : Int) < q ∧ lt (a : Int) = c := by
  unfold sigL
  constructor
  · intro h
    obtain ⟨a, ha, e⟩ := List.getElem_of_mem h
    rw [List.length_take, bl_ltB] at ha
    refine ⟨a, by omega, ?_⟩
    rw [← e, List.getElem_take, lt_get a (by omega)]
  · rintro ⟨a, ha, rfl⟩
    rw [lt_get a (by omega)]
    refine List.mem_iff_getElem.2 ⟨a, by rw [List.length_take, bl_ltB]; omega, ?_⟩
    rw [List.getElem_take]
theorem bl_wd (p : ByteArray) (a : Nat) (h : a < 16) : bl (wdA p a) = bl p ++ [lt (a : Int)] := by
  unfold wdA
  rw [bl_app, bl_ext, lt_get a h]
  congr 1
  have h1 : a < (bl ltB).length := by rw [bl_ltB]; exact h
  rw [List.take_succ_eq_append_getElem h1, List.drop_append_of_le_length (by rw [List.length_take, bl_ltB]; omega), List.drop_eq_nil_of_le (by rw [List.length_take]; omega), List.nil_append]

/-! ### States and edges -/
theorem tg_drop {l : List ByteArray} (h0 : (⟨#[]⟩ : ByteArray) ∈ stA l) : ∀ {i : Nat} {v : List UInt8}, i ≤ v.length → (∀ j, j < i → stB l (v.drop j) = false) → stB l (v.drop i) = true → sg (stB l) v = v.drop i
  | i, [], _, _, _ => by simp [sg]
  | 0, a :: v, _, _, h => by unfold sg; rw [if_pos (by simpa using h)]; rfl
  | i + 1, a :: v, hi, hn, h => by
    have := hn 0 (by omega)
    unfold sg
    rw [if_neg (by rw [show a :: v = (a :: v).drop 0 from rfl, this]; simp)]
    have := tg_drop (i := i) (v := v) h0 (by simpa using hi) (fun j hj => by simpa using hn (j + 1) (by omega)) (by simpa using h)
    simpa using this
/-- A number and its state's word. -/
def At (l : List ByteArray) (s : Int) (p : List UInt8) : Prop := ∃ (i : Nat) (h : i < (stA l).length), s = (i : Int) ∧ bl (stA l)[i] = p
theorem At.st {l : List ByteArray} {s : Int} {p : List UInt8} (h : At l s p) : stB l p = true := by
  obtain ⟨i, hi, _, rfl⟩ := h
  rw [stB_iff, lb_bl]; exact List.getElem_mem hi
theorem At.uniq {l : List ByteArray} {s t : Int} {p : List UInt8} (h : At l s p) (k : At l t p) : s = t := by
  obtain ⟨i, hi, rfl, h1⟩ := h
  obtain ⟨j, hj, rfl, h2⟩ := k
  have he : (stA l)[i] = (stA l)[j] := bl_inj (h1.trans h2.symm)
  have hs := insAll_srt (candF l l.length)
  rcases Nat.lt_trichotomy i j with e | e | e
  · have := List.pairwise_iff_getElem.1 hs i j hi hj e
    have he : (insAll (candF l l.length))[i]'hi = (insAll (candF l l.length))[j]'hj := he
    rw [he, ordB_refl] at this; omega
  · rw [e]
  · have := List.pairwise_iff_getElem.1 hs j i hj hi e
    have he : (insAll (candF l l.length))[i]'hi = (insAll (candF l l.length))[j]'hj := he
    rw [he, ordB_refl] at this; omega
theorem At.same {l : List ByteArray} {s : Int} {p p' : List UInt8} (h : At l s p) (k : At l s p') : p = p' := by
  obtain ⟨i, hi, rfl, h1⟩ := h
  obtain ⟨j, hj, e, h2⟩ := k
  obtain rfl : i = j := by omega
  rw [← h1, ← h2]
theorem At.of {l : List ByteArray} {p : List UInt8} (h : stB l p = true) : ∃ s, At l s p := by
  obtain ⟨i, hi, e⟩ := List.getElem_of_mem (stB_iff.1 h)
  exact ⟨_, i, hi, rfl, by rw [e, bl_lb]⟩
theorem tg_at (l : List ByteArray) (w : ByteArray) : At l (tgA (stA l) w) (sg (stB l) (bl w)) := by
  have h0 := stA_nil l
  obtain ⟨i, hi, h1, h2⟩ := tgR_first (f := plF (stA l) (stA l).length) (plF_some (stA l).length (Nat.le_refl _) (by rw [List.take_length]; exact h0)) w.size w (Nat.le_refl _)
  obtain ⟨k, hk, h3, h4⟩ := plF_get (stA l).length (Nat.le_refl _) h1
  have hx : ∀ j, lb ((bl w).drop j) = w.extract j w.size := fun j => bl_inj (by rw [bl_lb, bl_ext, ← bl_len, List.take_length])
  have hd : sg (stB l) (bl w) = (bl w).drop i := by
    refine tg_drop h0 (by rw [bl_len]; exact hi) (fun j hj => ?_) ?_
    · rw [Bool.eq_false_iff]
      intro hs
      have hm := stB_iff.1 hs
      rw [hx] at hm
      have := plF_some (st := stA l) (stA l).length (Nat.le_refl _) (by rw [List.take_length]; exact hm)
      rw [h2 j hj] at this; cases this
    · rw [stB_iff, hx, ← h4]; exact List.getElem_mem hk
  refine ⟨k, hk, h3, ?_⟩
  rw [h4, hd, ← hx, bl_lb]
theorem mem_edRow {l st : List ByteArray} {s : Nat} {x : Ed} : ∀ {a : Nat}, x ∈ edRow l st s a ↔ ∃ b, b < a ∧ badA l (wdA (st.getD s (⟨#[]⟩ : ByteArray)) b) = false ∧ x = ⟨(s : Int), (b : Int), tgA st (wdA (st.getD s (⟨#[]⟩ : ByteArray)) b)⟩
  | 0 => by simp [edRow]
  | a + 1 => by
    rw [edRow, List.mem_append, mem_edRow]
    constructor
    · rintro (⟨b, h1, h2, h3⟩ | h)
      · exact ⟨b, by omega, h2, h3⟩
      · split at h
        · simp at h
        · rename_i hb
          exact ⟨a, by omega, by simpa using hb, List.mem_singleton.1 h⟩
    · rintro ⟨b, h1, h2, h3⟩
      by_cases e : b = a
      · subst e; right; rw [if_neg (by rw [h2]; simp)]; exact List.mem_singleton.2 h3
      · exact .inl ⟨b, by omega, h2, h3⟩
theorem mem_edAll {l st : List ByteArray} {q : Nat} {x : Ed} : ∀ {k : Nat}, x ∈ edAll l st q k ↔ ∃ s, s < k ∧ x ∈ edRow l st s q
  | 0 => by simp [edAll]
  | k + 1 => by
    rw [edAll, List.mem_append, mem_edAll]
    constructor
    · rintro (⟨s, h1, h2⟩ | h)
      · exact ⟨s, by omega, h2⟩
      · exact ⟨k, by omega, h⟩
    · rintro ⟨s, h1, h2⟩
      by_cases e : s = k
      · subst e; exact .inr h2
      · exact .inl ⟨s, by omega, h2⟩
/-- The graph ahead of its essential part. -/
def grF (q : Int) (l : List ByteArray) : Gr := ⟨q, (stA l).length, norm (edAll l (stA l) q.toNat (stA l).length)⟩
theorem edge_iff {q : Int} (hq : q ≤ 16) {l : List ByteArray} {x : Ed} : x ∈ (grF q l).es ↔ ∃ (a : Nat) (p : List UInt8), (a : Int) < q ∧ x.l = a ∧ At l x.f p ∧ (∀ u ∈ Ls l, ¬ u <:+ p ++ [lt (a : Int)]) ∧ At l x.t (sg (stB l) (p ++ [lt (a : Int)])) := by
  show x ∈ norm _ ↔ _
  rw [mem_norm, mem_edAll]
  constructor
  · rintro ⟨s, hs, h⟩
    obtain ⟨a, ha, hb, rfl⟩ := mem_edRow.1 h
    rw [getD_at hs] at hb ⊢
    have hw := bl_wd (stA l)[s] a (by omega)
    have h1 := bad_iffL.1 hb
    rw [hw] at h1
    have h2 := tg_at l (wdA (stA l)[s] a)
    rw [hw] at h2
    exact ⟨a, bl (stA l)[s], by omega, rfl, ⟨s, hs, rfl, rfl⟩, h1, h2⟩
  · rintro ⟨a, p, ha, hl, ⟨s, hs, hf, rfl⟩, h1, h2⟩
    refine ⟨s, hs, mem_edRow.2 ⟨a, by omega, ?_, ?_⟩⟩
    · rw [getD_at hs, bad_iffL, bl_wd _ a (by omega)]; exact h1
    · rw [getD_at hs]
      have h3 := tg_at l (wdA (stA l)[s] a)
      rw [bl_wd _ a (by omega)] at h3
      have h4 := h2.uniq h3
      cases x with
      | mk f lx t =>
        simp only at hf hl h4
        rw [hf, hl, h4]
theorem At.bd {l : List ByteArray} {s : Int} {p : List UInt8} (h : At l s p) : 0 ≤ s ∧ s < (stA l).length := by
  obtain ⟨i, hi, rfl, _⟩ := h; omega
theorem grF_vg {q : Int} {l : List ByteArray} (h1 : 1 ≤ q) (h2 : q ≤ 16) (h3 : (stA l).length ≤ 64) : Vg (grF q l) where
  q1 := h1
  q2 := by show q ≤ 256; omega
  n1 := by show 0 ≤ ((stA l).length : Int); omega
  n2 := by show ((stA l).length : Int) ≤ 64; omega
  len := by
    show (norm _).length ≤ 1024
    have e := norm_len (edAll l (stA l) q.toNat (stA l).length) _ (Nat.le_refl _)
    rw [List.take_length] at e
    have := edAll_len l (stA l) q.toNat (stA l).length
    have h4 : (stA l).length * q.toNat ≤ 64 * 16 := Nat.mul_le_mul h3 (by omega)
    omega
  ins := fun x hx => by
    obtain ⟨a, p, ha, hl, hf, _, ht⟩ := (edge_iff h2).1 hx
    have := hf.bd; have := ht.bd
    rw [hl]
    show 0 ≤ x.f ∧ (0 : Int) ≤ a ∧ 0 ≤ x.t ∧ x.f < ((stA l).length : Int) ∧ x.t < ((stA l).length : Int) ∧ (a : Int) < q
    omega
  srt := norm_srt _
theorem graphB_eq {q : Int} {l : List ByteArray} (hc : chkF q l = 0) (h3 : (stA l).length ≤ 64) : graphB q l = (partA (grF q l) (essT (grF q l)), 0) := by
  obtain ⟨h1, h2, _, _⟩ := chkF_ok hc
  have hv := grF_vg h1 h2 h3
  have hm : makeA q (stA l).length (edAll l (stA l) q.toNat (stA l).length) = (grF q l, 0) := makeA_ok (chkG_ok.2 hv)
  unfold graphB
  rw [if_neg (by rw [hc]; simp), if_neg (by omega), hm]
  simp only [ne_eq, not_true_eq_false, if_false, essA_t hv]

/-! ### The words of the graph -/
theorem pth_wpt {q : Int} (hq : q ≤ 16) {l : List ByteArray} : ∀ {is : List Int} {s t : Int} {p : List UInt8}, At l s p → pth (grF q l).es s is t → ∃ p', At l t p' ∧ wpt (Ls l) (stB l) p (is.map lt) p'
  | [], s, t, p, hp, h => by
    have h : s = t := h
    subst h; exact ⟨p, hp, rfl⟩
  | b :: is, s, t, p, hp, h => by
    obtain ⟨x, hx, hf, hb, h2⟩ := h
    obtain ⟨a, p1, ha, hl, hf1, h3, h4⟩ := (edge_iff hq).1 hx
    rw [hf] at hf1
    have e := hp.same hf1
    subst e
    obtain ⟨p', h5, h6⟩ := pth_wpt hq h4 h2
    refine ⟨p', h5, _, ⟨?_, rfl⟩, ?_⟩
    · rw [← hb, hl]; exact h3
    · rw [← hb, hl]; exact h6
theorem stp_edge {q : Int} (hq : q ≤ 16) {l : List ByteArray} {s : Int} {p t : List UInt8} {c : UInt8} (hs : At l s p) (hc : c ∈ sigL q) (h : stpK (Ls l) (stB l) p c t) : ∃ x ∈ (grF q l).es, x.f = s ∧ x.l = dg c ∧ At l x.t t := by
  obtain ⟨a, ha, rfl⟩ := (mem_sig hq).1 hc
  obtain ⟨h1, rfl⟩ := h
  have hw : lb (p ++ [lt (a : Int)]) = lb (p ++ [lt (a : Int)]) := rfl
  have h2 := tg_at l (lb (p ++ [lt (a : Int)]))
  rw [bl_lb] at h2
  exact ⟨⟨s, a, _⟩, (edge_iff hq).2 ⟨a, p, ha, rfl, hs, h1, h2⟩, rfl, (lt_dg a (by omega)).symm, h2⟩
theorem words_gd {q : Int} {l : List ByteArray} (hc : chkF q l = 0) (h3 : (stA l).length ≤ 64) (hl : ∀ u ∈ l, u ≠ (⟨#[]⟩ : ByteArray)) (hz : ∀ u ∈ l, u.size ≤ 32) {w : ByteArray} (hw : Chg.okw q (bl w) = true) :
    accA (graphB q l).1 w = true ↔ Gd (sigL q) (Ls l) (bl w) := by
  obtain ⟨h1, h2, _, _⟩ := chkF_ok hc
  have hv := grF_vg h1 h2 h3
  have hvp := part_vg hv (essT_st hv)
  have H := aut_of hl
  have hlw : ∀ c ∈ bl w, 0 ≤ dg c ∧ dg c < q := fun c hcm => by
    have h := List.all_eq_true.1 hw c hcm
    unfold Chg.okc at h
    rw [Bool.and_eq_true, decide_eq_true_eq, decide_eq_true_eq] at h
    exact h
  have hltr : (ltr w).map lt = bl w := by
    unfold ltr
    rw [List.map_map]
    have h : ∀ l : List UInt8, (∀ c ∈ l, 0 ≤ dg c) → l.map (lt ∘ fun c => Chg.dig (c.toNat : Int)) = l := by
      intro l
      induction l with
      | nil => intro _; rfl
      | cons c l ih =>
        intro hc
        rw [List.map_cons, ih (fun d hd => hc d (by simp [hd]))]
        congr 1
        exact lt_of c (hc c (by simp))
    exact h _ (fun c hc => (hlw c hc).1)
  have hsw : ∀ c ∈ bl w, c ∈ sigL q := fun c hcm => by
    have h := hlw c hcm
    exact (mem_sig h2).2 ⟨(dg c).toNat, by omega, by rw [show (((dg c).toNat : Nat) : Int) = dg c by omega]; exact lt_of c h.1⟩
  rw [graphB_eq hc h3, acc_iff hvp]
  constructor
  · rintro ⟨u, t, h0, hn, hp⟩ n
    have ht : 0 ≤ t ∧ t < (partA (grF q l) (essT (grF q l))).n := by
      have : ∀ {m : List Int} {a b : Int}, 0 ≤ a ∧ a < (partA (grF q l) (essT (grF q l))).n → pth (partA (grF q l) (essT (grF q l))).es a m b → 0 ≤ b ∧ b < (partA (grF q l) (essT (grF q l))).n := by
        intro m
        induction m with
        | nil => intro a b ha h; have h : a = b := h; rw [← h]; exact ha
        | cons c m ih =>
          intro a b _ h
          obtain ⟨x, hx, _, _, h4⟩ := h
          have := hvp.ins x hx
          exact ih ⟨this.2.2.1, this.2.2.2.2.1⟩ h4
      exact this ⟨h0, hn⟩ hp
    obtain ⟨_, xs, s, hs0, hs1, hxl, hxp⟩ := pth_more hv n h0 hn
    obtain ⟨⟨ys, r, hyl, hyp⟩, _⟩ := pth_more hv n ht.1 ht.2
    have hP : pth (partA (grF q l) (essT (grF q l))).es s (xs ++ ltr w ++ ys) r := pth_app.2 ⟨t, pth_app.2 ⟨u, hxp, hp⟩, hyp⟩
    have hlab := pth_lab hvp hP
    have hsl : s.toNat < (essT (grF q l)).length := by
      have : s < ((essT (grF q l)).length : Int) := hs1
      omega
    have hm : (essT (grF q l))[s.toNat] ∈ essT (grF q l) := List.getElem_mem _
    have hidx := iof_at (essT_st hv).srt hsl
    obtain ⟨v, hvm, _, hP2⟩ := pth_part hm (by rw [hidx]; omega) hP
    have hin := (essT_st hv).ins _ hm
    generalize (essT (grF q l))[s.toNat] = s0 at *
    have hin2 : 0 ≤ s0 ∧ s0 < ((stA l).length : Int) := hin
    have hsA : s0.toNat < (stA l).length := by omega
    have hAt : At l s0 (bl (stA l)[s0.toNat]) := ⟨s0.toNat, hsA, by omega, rfl⟩
    obtain ⟨p', _, hwp⟩ := pth_wpt h2 hAt hP2
    have hst := hAt.st
    generalize bl (stA l)[s0.toNat] = p at *
    have hav := ((H.iff p).1 hst).1
    have := (H.spell hav (sg_self hst).symm hwp).1
    rw [List.map_append, List.map_append, hltr] at this
    refine ⟨xs.map lt, ys.map lt, by simp [hxl], by simp [hyl], ?_, ?_, this.sub (List.suffix_append p _).isInfix⟩
    · intro c hcm
      obtain ⟨b, hb, rfl⟩ := List.mem_map.1 hcm
      have := hlab b (by simp [hb])
      have h5 : b < q := this.2
      exact (mem_sig h2).2 ⟨b.toNat, by omega, by rw [show ((b.toNat : Nat) : Int) = b by omega]⟩
    · intro c hcm
      obtain ⟨b, hb, rfl⟩ := List.mem_map.1 hcm
      have := hlab b (by simp [hb])
      have h5 : b < q := this.2
      exact (mem_sig h2).2 ⟨b.toNat, by omega, by rw [show ((b.toNat : Nat) : Int) = b by omega]⟩
  · intro hg
    have hM : ∀ p, stB l p = true → p.length ≤ 32 := fun p hp => by
      have := stA_size hz _ (stB_iff.1 hp)
      rw [← bl_len, bl_lb] at this; exact this
    obtain ⟨p, t, hpt⟩ := hg.found H hsw 32
    have hC : ∀ s, (∃ p, At l s p ∧ Tt (sigL q) (Ls l) (stB l) 32 p) → s ∈ essT (grF q l) := by
      refine sup_ess ?_ _ _ (Nat.le_refl _) ?_
      · rintro s ⟨p, hs, hT⟩
        constructor
        · obtain ⟨c, hcm, t, h5, h6⟩ := hT.into H hM (by omega)
          have hts : stB l t = true := by obtain ⟨u, _, _, _, rfl⟩ := h6; exact sg_mem H.nil u
          obtain ⟨r, hr⟩ := At.of hts
          obtain ⟨x, hx, hf, _, ht⟩ := stp_edge h2 hr hcm h5
          exact ⟨x, hx, ht.uniq hs, t, by rw [hf]; exact hr, h6⟩
        · obtain ⟨c, hcm, t, h5, h6⟩ := hT.out H
          obtain ⟨x, hx, hf, _, ht⟩ := stp_edge h2 hs hcm h5
          exact ⟨x, hx, hf, t, ht, h6⟩
      · rintro s ⟨p, hs, _⟩
        have := hs.bd
        exact mem_upto.2 ⟨this.1, by show s < (((stA l).length : Int).toNat : Int); omega⟩
    have key : ∀ {v : List UInt8} {p t : List UInt8} {s : Int}, (∀ c ∈ v, c ∈ sigL q) → At l s p → wptT (Tt (sigL q) (Ls l) (stB l) 32) (Ls l) (stB l) p v t → ∃ r, pthT (grF q l).es (fun s => ∃ p, At l s p ∧ Tt (sigL q) (Ls l) (stB l) 32 p) s (v.map dg) r := by
      intro v
      induction v with
      | nil =>
        intro p t s _ hs h
        exact ⟨s, rfl, p, hs, h.2⟩
      | cons c v ih =>
        intro p t s hcs hs h
        obtain ⟨h0, m, h5, h6⟩ := h
        obtain ⟨x, hx, hf, hxl, ht⟩ := stp_edge h2 hs (hcs c (by simp)) h5
        obtain ⟨r, hr⟩ := ih (fun d hd => hcs d (by simp [hd])) ht h6
        exact ⟨r, ⟨p, hs, h0⟩, x, hx, hf, hxl, hr⟩
    have hpT : stB l p = true := by
      have : ∀ {v : List UInt8} {p t : List UInt8}, wptT (Tt (sigL q) (Ls l) (stB l) 32) (Ls l) (stB l) p v t → stB l p = true := by
        intro v p t h
        have hT : Tt (sigL q) (Ls l) (stB l) 32 p := by
          cases v with
          | nil => exact h.2
          | cons c v => exact h.1
        obtain ⟨u, _, _, _, rfl⟩ := hT
        exact sg_mem H.nil u
      exact this hpt
    obtain ⟨s, hs⟩ := At.of hpT
    obtain ⟨r, hr⟩ := key hsw hs hpt
    have hmem := hC s (pthT_head hr)
    have hlt := List.idxOf_lt_length_iff.2 hmem
    have h1' : (((essT (grF q l)).idxOf s : Nat) : Int) < (partA (grF q l) (essT (grF q l))).n := by
      show (((essT (grF q l)).idxOf s : Nat) : Int) < ((essT (grF q l)).length : Int)
      omega
    exact ⟨(((essT (grF q l)).idxOf s : Nat) : Int), (((essT (grF q l)).idxOf r : Nat) : Int), by omega, h1', pthT_part hC hr⟩
end Go.Proofs.YtdhkdampdlhdoaaGreat
namespace Go.Proofs.YtdhkdampdlhdoaaGreat
open Go

theorem ltr_letter : ∀ a : Nat, a < 16 → ltr (ltB.extract a (a + 1)) = [(a : Int)] := by decide +kernel
theorem ltr_add (a b : ByteArray) : ltr (a ++ b) = ltr a ++ ltr b := by
  unfold ltr; rw [ByteArray.data_append, Array.toList_append, List.map_append]
theorem ltr_wd (u : ByteArray) {a : Nat} (h : a < 16) : ltr (wdA u a) = ltr u ++ [(a : Int)] := by
  unfold wdA; rw [ltr_add, ltr_letter a h]
theorem wd_sz (u : ByteArray) {a : Nat} (h : a < 16) : (wdA u a).size = u.size + 1 := by
  have := congrArg List.length (ltr_wd u h)
  rwa [ltr_len, List.length_append, ltr_len] at this
/-- The states at the end of a word. -/
def enA (G : Gr) (u : ByteArray) : List Int := endA G (upto G.n.toNat) (ltr u)
theorem enA_wd (G : Gr) (u : ByteArray) {a : Nat} (h : a < 16) : enA G (wdA u a) = nextA G (enA G u) a := by
  unfold enA; rw [ltr_wd u h, endA_snoc]
theorem accA_en (G : Gr) (u : ByteArray) : accA G u = decide (0 < (enA G u).length) := rfl
theorem accA_f {G : Gr} {u : ByteArray} : accA G u = false ↔ enA G u = [] := by
  rw [accA_en, decide_eq_false_iff_not]
  cases enA G u <;> simp
theorem acc_less {G : Gr} {u : ByteArray} {a : Nat} (h : a < 16) (hw : accA G (wdA u a) = true) : accA G u = true := by
  cases hu : accA G u with
  | true => rfl
  | false =>
    rw [accA_en, enA_wd G u h, accA_f.1 hu, nextA_nil] at hw
    simp at hw
/-- The words with a letter more. -/
def nxW (G : Gr) (u : ByteArray) : List ByteArray := ((List.range G.q.toNat).filter (fun a => accA G (wdA u a))).map (wdA u)
/-- The words of one length. -/
def wk (G : Gr) : Nat → List ByteArray
  | 0 => if 0 < G.n then [⟨#[]⟩] else []
  | k + 1 => (wk G k).flatMap (nxW G)
theorem enA_nil (G : Gr) : enA G ⟨#[]⟩ = upto G.n.toNat := rfl
theorem wk_acc {G : Gr} : ∀ {k : Nat} {u : ByteArray}, u ∈ wk G k → accA G u = true
  | 0, u, h => by
    unfold wk at h
    split at h
    · rw [List.mem_singleton] at h
      subst h
      rw [accA_en, enA_nil, upto_len, decide_eq_true_eq]; omega
    · cases h
  | k + 1, u, h => by
    obtain ⟨v, _, hv⟩ := List.mem_flatMap.1 h
    unfold nxW at hv
    obtain ⟨a, ha, rfl⟩ := List.mem_map.1 hv
    exact (List.mem_filter.1 ha).2
theorem wk_size {G : Gr} (hq : G.q ≤ 16) : ∀ {k : Nat} {u : ByteArray}, u ∈ wk G k → u.size = k
  | 0, u, h => by
    unfold wk at h
    split at h
    · rw [List.mem_singleton] at h
      subst h; rfl
    · cases h
  | k + 1, u, h => by
    obtain ⟨v, hv1, hv⟩ := List.mem_flatMap.1 h
    unfold nxW at hv
    obtain ⟨a, ha, rfl⟩ := List.mem_map.1 hv
    have ha' := List.mem_range.1 (List.mem_filter.1 ha).1
    rw [wd_sz v (a := a) (by omega), wk_size hq hv1]
/-- A word's letters are among the first q. -/
def okU (q : Int) (u : ByteArray) : Prop := ∀ c ∈ u.data.toList, ∃ a : Nat, a < q.toNat ∧ c = ltB.data.toList.getD a 0
theorem wk_len (G : Gr) : ∀ k, (wk G k).length ≤ G.q.toNat ^ k
  | 0 => by
    unfold wk
    split
    · simp
    · simp
  | k + 1 => by
    unfold wk
    have ih := wk_len G k
    have h1 : ∀ l : List ByteArray, (l.flatMap (nxW G)).length ≤ l.length * G.q.toNat := by
      intro l
      induction l with
      | nil => simp
      | cons x l ihl =>
        rw [List.flatMap_cons, List.length_append, List.length_cons, Nat.add_mul, Nat.one_mul]
        have : (nxW G x).length ≤ G.q.toNat := by
          unfold nxW
          rw [List.length_map]
          exact Nat.le_trans (List.length_filter_le _ _) (by simp)
        omega
    refine Nat.le_trans (h1 _) ?_
    rw [Nat.pow_succ]
    exact Nat.mul_le_mul_right _ ih
theorem wd_inj {u v : ByteArray} {a b : Nat} (ha : a < 16) (hb : b < 16) (h : wdA u a = wdA v b) : u = v ∧ a = b := by
  have hl := congrArg ltr h
  rw [ltr_wd u ha, ltr_wd v hb] at hl
  have e1 := (List.append_inj' hl rfl).2
  have hab : a = b := by have := (List.cons.inj e1).1; omega
  subst hab
  refine ⟨?_, rfl⟩
  have h2 := congrArg bl h
  unfold wdA at h2
  rw [bl_app, bl_app] at h2
  exact bl_inj (List.append_cancel_right h2)
theorem wk_none {G : Gr} {k : Nat} (h : wk G k = []) : ∀ j, k ≤ j → wk G j = [] := by
  intro j hj
  induction j with
  | zero => obtain rfl : k = 0 := by omega
            exact h
  | succ j ih =>
    by_cases e : k = j + 1
    · subst e; exact h
    · show (wk G j).flatMap (nxW G) = []
      rw [ih (by omega)]; rfl
theorem mem_nx {G : Gr} {u v : ByteArray} : v ∈ nxW G u ↔ ∃ a : Nat, a < G.q.toNat ∧ accA G (wdA u a) = true ∧ v = wdA u a := by
  unfold nxW
  rw [List.mem_map]
  constructor
  · rintro ⟨a, ha, rfl⟩
    rw [List.mem_filter, List.mem_range] at ha
    exact ⟨a, ha.1, ha.2, rfl⟩
  · rintro ⟨a, h1, h2, rfl⟩
    exact ⟨a, List.mem_filter.2 ⟨List.mem_range.2 h1, h2⟩, rfl⟩
theorem mem_wk {G : Gr} {k : Nat} {v : ByteArray} : v ∈ wk G (k + 1) ↔ ∃ u ∈ wk G k, ∃ a : Nat, a < G.q.toNat ∧ accA G (wdA u a) = true ∧ v = wdA u a := by
  show v ∈ (wk G k).flatMap (nxW G) ↔ _
  rw [List.mem_flatMap]
  constructor
  · rintro ⟨u, hu, hv⟩
    exact ⟨u, hu, mem_nx.1 hv⟩
  · rintro ⟨u, hu, hv⟩
    exact ⟨u, hu, mem_nx.2 hv⟩

/-- What is found of one length: words that are none, without their first letter they are. -/
def fdW (G : Gr) (k : Nat) (u : ByteArray) : List ByteArray := ((List.range G.q.toNat).filter (fun a => !accA G (wdA u a) && (wk G k).any (fun y => decide (y = (wdA u a).extract 1 (wdA u a).size)))).map (wdA u)
def fdK (G : Gr) (k : Nat) : List ByteArray := (wk G k).flatMap (fdW G k)
def fdN (G : Gr) (n : Nat) : List ByteArray := (List.range n).flatMap (fdK G)
/-- What Find answers. -/
def findA (G : Gr) (n : Int) : List ByteArray × Int := if chkG G ≠ 0 then ([], 1) else if 16 < G.q then ([], 12) else if n < 0 ∨ 32 < n then ([], 2) else (fdN G n.toNat, 0)
theorem fdN_succ (G : Gr) (n : Nat) : fdN G (n + 1) = fdN G n ++ fdK G n := by unfold fdN; rw [List.range_succ, List.flatMap_append]; simp
theorem fdW_len (G : Gr) (k : Nat) (u : ByteArray) : (fdW G k u).length ≤ G.q.toNat := by
  unfold fdW
  rw [List.length_map]
  exact Nat.le_trans (List.length_filter_le _ _) (by simp)
theorem fdK_le (G : Gr) (k : Nat) : ∀ l : List ByteArray, (l.flatMap (fdW G k)).length ≤ l.length * G.q.toNat
  | [] => by simp
  | x :: l => by
    rw [List.flatMap_cons, List.length_append, List.length_cons, Nat.add_mul, Nat.one_mul]
    have := fdW_len G k x; have := fdK_le G k l
    omega
theorem fdK_len (G : Gr) (k : Nat) : (fdK G k).length ≤ G.q.toNat ^ k * G.q.toNat := Nat.le_trans (fdK_le G k _) (Nat.mul_le_mul_right _ (wk_len G k))
theorem pow3 {q k : Nat} (hq : q ≤ 3) (hk : k ≤ 6) : q ^ k ≤ 729 :=
  Nat.le_trans (Nat.pow_le_pow_left hq k) (Nat.le_trans (Nat.pow_le_pow_right (by omega) hk) (by decide))
theorem wk_few {G : Gr} (hq : G.q ≤ 3) {k : Nat} (hk : k ≤ 6) : (wk G k).length ≤ 729 := Nat.le_trans (wk_len G k) (pow3 (by omega) hk)
theorem fdN_few {G : Gr} (hq : G.q ≤ 3) : ∀ n : Nat, 2 * (fdN G n).length + 3 ≤ 3 ^ (n + 1)
  | 0 => by simp [fdN]
  | n + 1 => by
    rw [fdN_succ, List.length_append]
    have h1 := fdN_few hq n
    have h2 := fdK_len G n
    have h3 : G.q.toNat ^ n * G.q.toNat = G.q.toNat ^ (n + 1) := (Nat.pow_succ ..).symm
    have h4 : G.q.toNat ^ (n + 1) ≤ 3 ^ (n + 1) := Nat.pow_le_pow_left (by omega) _
    have h5 : 3 ^ (n + 1 + 1) = 3 ^ (n + 1) * 3 := Nat.pow_succ ..
    omega
theorem fdN_1092 {G : Gr} (hq : G.q ≤ 3) {n : Nat} (hn : n ≤ 6) : (fdN G n).length ≤ 1092 := by
  have h1 := fdN_few hq n
  have h2 : 3 ^ (n + 1) ≤ 3 ^ 7 := Nat.pow_le_pow_right (by omega) (by omega)
  omega
end Go.Proofs.YtdhkdampdlhdoaaGreat
namespace Go.Proofs.YtdhkdampdlhdoaaGreat
open Go

theorem lt_app : ∀ {u v : List UInt8} (x y : List UInt8), u.length = v.length → u < v → u ++ x < v ++ y
  | [], [], x, y, _, h => absurd h (List.lt_irrefl _)
  | [], b :: v, x, y, hl, _ => by simp at hl
  | a :: u, [], x, y, hl, _ => by simp at hl
  | a :: u, b :: v, x, y, hl, h => by
    rw [List.cons_lt_cons_iff] at h
    rw [List.cons_append, List.cons_append, List.cons_lt_cons_iff]
    rcases h with h | ⟨h1, h2⟩
    · exact .inl h
    · exact .inr ⟨h1, lt_app x y (by simpa using hl) h2⟩
theorem lt_app2 : ∀ (u : List UInt8) {x y : List UInt8}, x < y → u ++ x < u ++ y
  | [], _, _, h => h
  | a :: u, x, y, h => by
    rw [List.cons_append, List.cons_append, List.cons_lt_cons_iff]
    exact .inr ⟨rfl, lt_app2 u h⟩
theorem letter_lt : ∀ a : Nat, a < 16 → ∀ b : Nat, b < 16 → a < b → bl (ltB.extract a (a + 1)) < bl (ltB.extract b (b + 1)) := by decide +kernel
theorem bl_wd0 (u : ByteArray) (a : Nat) : bl (wdA u a) = bl u ++ bl (ltB.extract a (a + 1)) := by unfold wdA; rw [bl_app]
theorem nx_sorted {G : Gr} (hq : G.q ≤ 16) (u : ByteArray) : (nxW G u).Pairwise (fun x y => bl x < bl y) := by
  unfold nxW
  rw [List.pairwise_map]
  refine List.Pairwise.imp_of_mem (fun {a b} ha hb h => ?_) ((List.pairwise_lt_range (n := G.q.toNat)).filter _)
  have ha' := List.mem_range.1 (List.mem_filter.1 ha).1
  have hb' := List.mem_range.1 (List.mem_filter.1 hb).1
  rw [bl_wd0, bl_wd0]
  exact lt_app2 _ (letter_lt a (by omega) b (by omega) h)
theorem wk_sorted {G : Gr} (hq : G.q ≤ 16) : ∀ k, (wk G k).Pairwise (fun x y => bl x < bl y)
  | 0 => by
    unfold wk
    split <;> simp
  | k + 1 => by
    show ((wk G k).flatMap (nxW G)).Pairwise _
    rw [List.pairwise_flatMap]
    refine ⟨fun u _ => nx_sorted hq u, List.Pairwise.imp_of_mem (fun {u v} hu hv h x hx y hy => ?_) (wk_sorted hq k)⟩
    obtain ⟨a, _, _, rfl⟩ := mem_nx.1 hx
    obtain ⟨b, _, _, rfl⟩ := mem_nx.1 hy
    rw [bl_wd0, bl_wd0]
    exact lt_app _ _ (by rw [bl_len, bl_len, wk_size hq hu, wk_size hq hv]) h
theorem strict_unique : ∀ {l m : List (List UInt8)}, l.Pairwise (· < ·) → m.Pairwise (· < ·) → (∀ x, x ∈ l ↔ x ∈ m) → l = m
  | [], [], _, _, _ => rfl
  | [], b :: m, _, _, h => by have := (h b).2 (by simp); simp at this
  | a :: l, [], _, _, h => by have := (h a).1 (by simp); simp at this
  | a :: l, b :: m, hl, hm, h => by
    obtain ⟨h1, h2⟩ := List.pairwise_cons.1 hl
    obtain ⟨h3, h4⟩ := List.pairwise_cons.1 hm
    have hab : a = b := by
      rcases List.mem_cons.1 ((h a).1 (by simp)) with e | e
      · exact e
      · rcases List.mem_cons.1 ((h b).2 (by simp)) with e' | e'
        · exact e'.symm
        · exact absurd (List.lt_trans (h1 b e') (h3 a e)) (List.lt_irrefl _)
    subst hab
    congr 1
    refine strict_unique h2 h4 (fun x => ⟨fun hx => ?_, fun hx => ?_⟩)
    · rcases List.mem_cons.1 ((h x).1 (List.mem_cons_of_mem _ hx)) with e | e
      · subst e; exact absurd (h1 x hx) (List.lt_irrefl _)
      · exact e
    · rcases List.mem_cons.1 ((h x).2 (List.mem_cons_of_mem _ hx)) with e | e
      · subst e; exact absurd (h3 x hx) (List.lt_irrefl _)
      · exact e
/-- Sorted, a list of different texts is the strictly ordered one. -/
theorem sort_is {ss T : List (List UInt8)} (h : ss.Perm T) (hT : T.Pairwise (· < ·)) : ss.mergeSort (fun x y => decide (x ≤ y)) = T := by
  have hp : (ss.mergeSort (fun x y => decide (x ≤ y))).Perm T := (List.mergeSort_perm ss _).trans h
  have hs := List.pairwise_mergeSort (le := fun x y : List UInt8 => decide (x ≤ y)) (fun a b c h1 h2 => by
    rw [decide_eq_true_eq] at *
    exact List.le_trans h1 h2) (fun a b => by
    rw [Bool.or_eq_true, decide_eq_true_eq, decide_eq_true_eq]
    exact List.le_total a b) ss
  have hn : T.Nodup := hT.imp (fun {a b} h e => by subst e; exact List.lt_irrefl _ h)
  have hn2 : (ss.mergeSort (fun x y => decide (x ≤ y))).Nodup := hp.nodup_iff.2 hn
  refine strict_unique ?_ hT (fun x => hp.mem_iff)
  refine List.Pairwise.imp₂ (fun {a b} h1 h2 => ?_) hs hn2
  rw [decide_eq_true_eq] at h1
  rcases List.le_iff_lt_or_eq.1 h1 with h | h
  · exact h
  · exact absurd h h2
end Go.Proofs.YtdhkdampdlhdoaaGreat
