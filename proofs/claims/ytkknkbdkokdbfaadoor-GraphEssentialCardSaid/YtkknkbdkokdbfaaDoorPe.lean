/-
  Plain laws on essential parts. Nothing here speaks of a program.
-/
import Derived.Test.YtkknkbdkokdbfaaDoorPa
namespace Go.Proofs.YtkknkbdkokdbfaaDoor
open Go.RowKit

/-- A set of states each of which has an edge from one of the set, and one to one of it. -/
def Sup (es : List Ed) (C : Int → Prop) : Prop := ∀ s, C s → (∃ x ∈ es, x.t = s ∧ C x.f) ∧ ∃ x ∈ es, x.f = s ∧ C x.t
theorem essP_iff {es : List Ed} {st : List Int} {s : Int} : essP es st s = true ↔ (∃ x ∈ es, x.t = s ∧ x.f ∈ st) ∧ ∃ x ∈ es, x.f = s ∧ x.t ∈ st := by
  simp [essP, cmsE, goesE, List.any_eq_true]
theorem sup_ess {es : List Ed} {C : Int → Prop} (hC : Sup es C) : ∀ n (st : List Int), st.length ≤ n → (∀ s, C s → s ∈ st) → ∀ s, C s → s ∈ ess es st := by
  intro n
  induction n with
  | zero =>
    intro st h hs
    have := essS_le es st
    rw [ess_stop (by omega)]; exact hs
  | succ n ih =>
    intro st h hs
    by_cases e : (essS es st).length = st.length
    · rw [ess_stop e]; exact hs
    · rw [ess_go e]
      refine ih _ (by have := essS_le es st; omega) (fun s hc => ?_)
      obtain ⟨⟨x, hx, e1, c1⟩, y, hy, e2, c2⟩ := hC s hc
      exact List.mem_filter.2 ⟨hs s hc, essP_iff.2 ⟨⟨x, hx, e1, hs _ c1⟩, y, hy, e2, hs _ c2⟩⟩
theorem ess_fix {es : List Ed} : ∀ n (st : List Int), st.length ≤ n → essS es (ess es st) = ess es st ∧ (ess es st).Sublist st := by
  intro n
  induction n with
  | zero =>
    intro st h
    have := essS_le es st
    rw [ess_stop (by omega)]; exact ⟨essS_eq (by omega), List.Sublist.refl _⟩
  | succ n ih =>
    intro st h
    by_cases e : (essS es st).length = st.length
    · rw [ess_stop e]; exact ⟨essS_eq e, List.Sublist.refl _⟩
    · rw [ess_go e]
      obtain ⟨a, b⟩ := ih (essS es st) (by have := essS_le es st; omega)
      exact ⟨a, b.trans List.filter_sublist⟩
/-- The states of the essential part. -/
def essT (G : Gr) : List Int := ess G.es (upto G.n.toNat)
theorem essT_st {G : Gr} (h : Vg G) : St G.n (essT G) := by
  have hs := (ess_fix (es := G.es) _ (upto G.n.toNat) (Nat.le_refl _)).2
  have hu := St.upto h.n1
  exact ⟨hu.srt.sublist hs, fun x hx => hu.ins x (hs.subset hx)⟩
theorem essT_P {G : Gr} {s : Int} (hs : s ∈ essT G) : essP G.es (essT G) s = true := by
  have h := (ess_fix (es := G.es) _ (upto G.n.toNat) (Nat.le_refl _)).1
  have : s ∈ essS G.es (essT G) := by rw [show essS G.es (essT G) = essT G from h]; exact hs
  exact (List.mem_filter.1 this).2
theorem essA_t {G : Gr} (h : Vg G) : essA G = (partA G (essT G), essT G, 0) := essA_ok (chkG_ok.2 h)
theorem iof_at {l : List Int} (hs : l.Pairwise (· < ·)) {i : Nat} (hi : i < l.length) : l.idxOf l[i] = i := by
  have hm : l[i] ∈ l := List.getElem_mem _
  have e := iof_get hm
  have hl := iof_lt hm
  rcases Nat.lt_trichotomy (l.idxOf l[i]) i with h | h | h
  · have := List.pairwise_iff_getElem.1 hs _ _ hl hi h; omega
  · exact h
  · have := List.pairwise_iff_getElem.1 hs _ _ hi hl h; omega
/-- Each state of the essential part has an edge to it and one from it. -/
theorem ess_edges {G : Gr} (h : Vg G) {t : Int} (h0 : 0 ≤ t) (h1 : t < (partA G (essT G)).n) : (∃ y ∈ (partA G (essT G)).es, y.t = t) ∧ ∃ y ∈ (partA G (essT G)).es, y.f = t := by
  have hs := essT_st h
  have hl : t.toNat < (essT G).length := by have : t < ((essT G).length : Int) := h1; omega
  have hm : (essT G)[t.toNat] ∈ essT G := List.getElem_mem _
  have hx := iof_at hs.srt hl
  obtain ⟨⟨x, hx1, e1, c1⟩, y, hy1, e2, c2⟩ := essP_iff.1 (essT_P hm)
  refine ⟨⟨_, List.mem_filterMap.2 ⟨x, hx1, part_go ⟨c1, by rw [e1]; exact hm⟩⟩, ?_⟩, ⟨_, List.mem_filterMap.2 ⟨y, hy1, part_go ⟨by rw [e2]; exact hm, c2⟩⟩, ?_⟩⟩
  · show (((essT G).idxOf x.t : Nat) : Int) = t
    rw [e1, hx]; omega
  · show (((essT G).idxOf y.f : Nat) : Int) = t
    rw [e2, hx]; omega
/-- The essential part of an essential part is itself. -/
theorem ess_ess {G : Gr} (h : Vg G) : essA (partA G (essT G)) = (partA G (essT G), upto (essT G).length, 0) := by
  have hs := essT_st h
  have hv := part_vg h hs
  have hn : (partA G (essT G)).n.toNat = (essT G).length := by show ((essT G).length : Int).toNat = _; omega
  have hst : ess (partA G (essT G)).es (upto (essT G).length) = upto (essT G).length := by
    refine ess_stop ?_
    have : essS (partA G (essT G)).es (upto (essT G).length) = upto (essT G).length := List.filter_eq_self.2 (fun t ht => by
      rw [mem_upto] at ht
      obtain ⟨⟨x, hx, e1⟩, y, hy, e2⟩ := ess_edges h ht.1 ht.2
      have ix := hv.ins x hx; have iy := hv.ins y hy
      have hnn : (partA G (essT G)).n = ((essT G).length : Int) := rfl
      exact essP_iff.2 ⟨⟨x, hx, e1, mem_upto.2 (by omega)⟩, y, hy, e2, mem_upto.2 (by omega)⟩)
    rw [this]
  rw [essA_ok (chkG_ok.2 hv), hn, hst]
  have := part_all hv
  rw [hn] at this
  rw [this]

/-! ### Closed paths -/
inductive Rch (es : List Ed) (a : Int) : Int → Prop
  | one {x : Ed} : x ∈ es → x.f = a → Rch es a x.t
  | more {x : Ed} : Rch es a x.f → x ∈ es → Rch es a x.t
theorem Rch.trans {es : List Ed} {a b c : Int} (h : Rch es a b) (k : Rch es b c) : Rch es a c := by
  induction k with
  | one hx e => subst e; exact .more h hx
  | more _ hx ih => exact .more ih hx
theorem Rch.head {es : List Ed} {a b : Int} (h : Rch es a b) : ∃ x ∈ es, x.f = a ∧ (x.t = b ∨ Rch es x.t b) := by
  induction h with
  | one hx e => exact ⟨_, hx, e, .inl rfl⟩
  | more _ hx ih =>
    obtain ⟨y, hy, e, h | h⟩ := ih
    · exact ⟨y, hy, e, .inr (.one hx h.symm)⟩
    · exact ⟨y, hy, e, .inr (.more h hx)⟩
theorem Rch.last {es : List Ed} {a b : Int} (h : Rch es a b) : ∃ x ∈ es, x.t = b ∧ (x.f = a ∨ Rch es a x.f) := by
  cases h with
  | one hx e => exact ⟨_, hx, rfl, .inl e⟩
  | more h hx => exact ⟨_, hx, rfl, .inr h⟩
theorem closed_ess {G : Gr} (h : Vg G) {a : Int} (hr : Rch G.es a a) : a ∈ essT G := by
  refine sup_ess (C := fun s => Rch G.es a s ∧ Rch G.es s a) (fun s hs => ⟨?_, ?_⟩) _ _ (Nat.le_refl _) (fun s hs => ?_) a ⟨hr, hr⟩
  · obtain ⟨x, hx, e, h1⟩ := hs.1.last
    refine ⟨x, hx, e, ?_⟩
    rcases h1 with h1 | h1
    · rw [h1]; exact ⟨hr, hr⟩
    · refine ⟨h1, Rch.trans (.one hx rfl) ?_⟩; rw [e]; exact hs.2
  · obtain ⟨x, hx, e, h1⟩ := hs.2.head
    refine ⟨x, hx, e, ?_⟩
    rcases h1 with h1 | h1
    · rw [h1]; exact ⟨hr, hr⟩
    · refine ⟨?_, h1⟩; exact Rch.trans hs.1 (.one hx e)
  · obtain ⟨x, hx, e, _⟩ := hs.1.last
    have := h.ins x hx; have := h.n1
    rw [mem_upto]; omega
end Go.Proofs.YtkknkbdkokdbfaaDoor
