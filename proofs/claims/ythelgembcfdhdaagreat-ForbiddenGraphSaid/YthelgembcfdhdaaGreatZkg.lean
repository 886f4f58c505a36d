/-
  Words, plain lemmas and walks, merged: Fj, Hm, Fk, Map, Fl, Fm, Mk.
-/
import Derived.Test.YthelgembcfdhdaaGreatZkf
import Derived.RangeFuncNested
import Derived.RangeFuncBound
import Derived.RangeFuncCalls
import Derived.RangeFuncLeaves
import Derived.Shelf.Abstract
import Derived.Shelf.RegionOpen
import Derived.OwnWalkIn
import Derived.TacticsInMore
import Derived.LoopNIn
import Derived.LoopIn
import Derived.Test.YthelgembcfdhdaaGreatZkd
import Derived.Test.YthelgembcfdhdaaGreatProg
import Derived.Maps.OwnIn
import Derived.DeepKeys4
import Derived.Test.YthelgembcfdhdaaGreatZkb
import Derived.Maps.RangeRun
set_option linter.unusedVariables false
set_option linter.unusedSimpArgs false
namespace Go.Proofs.YthelgembcfdhdaaGreat
open Go.RowKit Go.Sort

/-! ### The order -/
theorem cmpB_refl : ∀ x : List UInt8, Lib.compareBytes x x = 0
  | [] => rfl
  | a :: x => by unfold Lib.compareBytes; simp [cmpB_refl x]
theorem cmpB_zero : ∀ {x y : List UInt8}, Lib.compareBytes x y = 0 → x = y
  | [], [], _ => rfl
  | [], _ :: _, h => by simp [Lib.compareBytes] at h
  | _ :: _, [], h => by simp [Lib.compareBytes] at h
  | a :: x, b :: y, h => by
    unfold Lib.compareBytes at h
    by_cases h1 : a < b
    · simp [h1] at h
    · by_cases h2 : b < a
      · simp [h1, h2] at h
      · simp only [h1, h2, if_false] at h
        rw [cmpB_zero h, UInt8.le_antisymm (UInt8.not_lt.1 h2) (UInt8.not_lt.1 h1)]
theorem cmpB_swap : ∀ x y : List UInt8, Lib.compareBytes y x = - Lib.compareBytes x y
  | [], [] => rfl
  | [], _ :: _ => rfl
  | _ :: _, [] => rfl
  | a :: x, b :: y => by
    unfold Lib.compareBytes
    by_cases h1 : a < b
    · have h2 : ¬ b < a := fun h => by have := UInt8.lt_trans h1 h; exact absurd this (UInt8.lt_irrefl _)
      simp [h1, h2]
    · by_cases h2 : b < a
      · simp [h1, h2]
      · simp only [h1, h2, if_false]; exact cmpB_swap x y
theorem cmpB_trans : ∀ {x y z : List UInt8}, Lib.compareBytes x y < 0 → Lib.compareBytes y z < 0 → Lib.compareBytes x z < 0
  | [], [], _, h, _ => by simp [Lib.compareBytes] at h
  | [], _ :: _, [], _, h => by simp [Lib.compareBytes] at h
  | [], _ :: _, _ :: _, _, _ => by simp [Lib.compareBytes]
  | _ :: _, [], _, h, _ => by simp [Lib.compareBytes] at h
  | _ :: _, _ :: _, [], _, h => by simp [Lib.compareBytes] at h
  | a :: x, b :: y, c :: z, h1, h2 => by
    unfold Lib.compareBytes at h1 h2 ⊢
    by_cases p1 : a < b
    · by_cases p2 : b < c
      · simp [UInt8.lt_trans p1 p2]
      · by_cases p3 : c < b
        · simp [p2, p3] at h2
        · have : b = c := UInt8.le_antisymm (UInt8.not_lt.1 p3) (UInt8.not_lt.1 p2)
          subst this; simp [p1]
    · by_cases p3 : b < a
      · simp [p1, p3] at h1
      · have : a = b := UInt8.le_antisymm (UInt8.not_lt.1 p3) (UInt8.not_lt.1 p1)
        subst this
        simp only [p1, if_false] at h1
        by_cases p2 : a < c
        · simp [p2]
        · by_cases p4 : c < a
          · simp [p2, p4] at h2
          · simp only [p2, p4, if_false] at h2 ⊢
            exact cmpB_trans h1 h2
theorem c3_swap (a b : Int) : c3 b a = - c3 a b := by unfold c3; split <;> split <;> (try split) <;> (try split) <;> omega
theorem ordB_swap (a b : ByteArray) : ordB b a = - ordB a b := by
  by_cases h : a.size = b.size
  · rw [ordB_eq (c3_zero.2 (by omega)), ordB_eq (c3_zero.2 (by omega)), cmpB_swap]
  · rw [ordB_ne (fun e => h (by have := c3_zero.1 e; omega)), ordB_ne (fun e => h (by have := c3_zero.1 e; omega)), c3_swap]
theorem ordB_refl (a : ByteArray) : ordB a a = 0 := by rw [ordB_eq (c3_zero.2 rfl), cmpB_refl]
theorem ordB_zero {a b : ByteArray} (h : ordB a b = 0) : a = b := by
  by_cases hs : a.size = b.size
  · rw [ordB_eq (c3_zero.2 (by omega))] at h
    have := cmpB_zero h
    cases a; cases b
    simp at this
    rw [this]
  · rw [ordB_ne (fun e => hs (by have := c3_zero.1 e; omega))] at h
    exact absurd (c3_zero.1 h) (by omega)
theorem ordB_neg {a b : ByteArray} : ordB a b < 0 ↔ a.size < b.size ∨ (a.size = b.size ∧ Lib.compareBytes a.data.toList b.data.toList < 0) := by
  by_cases hs : a.size = b.size
  · rw [ordB_eq (c3_zero.2 (by omega))]; exact ⟨fun h => .inr ⟨hs, h⟩, fun h => h.elim (fun h => by omega) (·.2)⟩
  · rw [ordB_ne (fun e => hs (by have := c3_zero.1 e; omega)), c3_neg]
    exact ⟨fun h => .inl (by omega), fun h => h.elim (fun h => by omega) (fun h => absurd h.1 hs)⟩
theorem ordB_trans {a b c : ByteArray} (h1 : ordB a b < 0) (h2 : ordB b c < 0) : ordB a c < 0 := by
  rw [ordB_neg] at *
  rcases h1 with h1 | ⟨h1, k1⟩ <;> rcases h2 with h2 | ⟨h2, k2⟩
  · exact .inl (by omega)
  · exact .inl (by omega)
  · exact .inl (by omega)
  · exact .inr ⟨by omega, cmpB_trans k1 k2⟩
theorem ordB_total {a b : ByteArray} (h1 : ¬ ordB a b < 0) (h2 : ¬ ordB b a < 0) : a = b := ordB_zero (by have := ordB_swap a b; omega)
theorem swoB : SWO (ltOf ordB) where
  irrefl x := by unfold ltOf; rw [ordB_refl]; rfl
  trans x y z h1 h2 := by unfold ltOf at *; exact decide_eq_true (ordB_trans (of_decide_eq_true h1) (of_decide_eq_true h2))
  ntrans x y z h1 h2 := by
    unfold ltOf at *
    have h1 := of_decide_eq_false h1; have h2 := of_decide_eq_false h2
    refine decide_eq_false (fun h => ?_)
    by_cases hb : ordB y x < 0
    · exact h2 (ordB_trans hb h)
    · have := ordB_total h1 hb; subst this; exact h2 h
theorem totB (x y : ByteArray) (h1 : ltOf ordB x y = false) (h2 : ltOf ordB y x = false) : x = y := by
  unfold ltOf at *; exact ordB_total (of_decide_eq_false h1) (of_decide_eq_false h2)

/-! ### Sorted lists of words -/
def SrtB (l : List ByteArray) : Prop := l.Pairwise (fun a b => ordB a b < 0)
theorem SrtB.unique : ∀ {l m : List ByteArray}, SrtB l → SrtB m → (∀ z, z ∈ l ↔ z ∈ m) → l = m
  | [], [], _, _, _ => rfl
  | [], y :: m, _, _, h => by have := (h y).2 (by simp); simp at this
  | x :: l, [], _, _, h => by have := (h x).1 (by simp); simp at this
  | x :: l, y :: m, hl, hm, h => by
    unfold SrtB at hl hm
    have hl' := List.pairwise_cons.1 hl; have hm' := List.pairwise_cons.1 hm
    have hxy : x = y := by
      rcases List.mem_cons.1 ((h x).1 (by simp)) with e | e
      · exact e
      · rcases List.mem_cons.1 ((h y).2 (by simp)) with e' | e'
        · exact e'.symm
        · have h1 := hm'.1 x e; have h2 := hl'.1 y e'
          have := ordB_trans h1 h2
          rw [ordB_refl] at this; omega
    subst hxy
    congr 1
    refine SrtB.unique hl'.2 hm'.2 (fun z => ?_)
    constructor
    · intro hz
      rcases List.mem_cons.1 ((h z).1 (List.mem_cons_of_mem _ hz)) with e | e
      · subst e; have := hl'.1 z hz; rw [ordB_refl] at this; omega
      · exact e
    · intro hz
      rcases List.mem_cons.1 ((h z).2 (List.mem_cons_of_mem _ hz)) with e | e
      · subst e; have := hm'.1 z hz; rw [ordB_refl] at this; omega
      · exact e
theorem mem_insB {x z : ByteArray} : ∀ {l : List ByteArray}, z ∈ insB x l ↔ z = x ∨ z ∈ l
  | [] => by simp [insB]
  | y :: l => by
    unfold insB
    split
    · rw [List.mem_cons, mem_insB, List.mem_cons]
      constructor
      · rintro (h | h | h) <;> simp [h]
      · rintro (h | h | h) <;> simp [h]
    · split
      · rename_i h; subst h; simp
      · simp
theorem insB_srt {x : ByteArray} : ∀ {l : List ByteArray}, SrtB l → SrtB (insB x l)
  | [], _ => by simp [insB, SrtB]
  | y :: l, h => by
    have h' := List.pairwise_cons.1 h
    unfold insB
    split
    · rename_i hy
      refine List.pairwise_cons.2 ⟨fun z hz => ?_, insB_srt h'.2⟩
      rcases mem_insB.1 hz with e | e
      · subst e; exact hy
      · exact h'.1 z e
    · rename_i hy
      split
      · exact h
      · rename_i hne
        refine List.pairwise_cons.2 ⟨fun z hz => ?_, h⟩
        have hxy : ordB x y < 0 := by
          by_cases hb : ordB x y < 0
          · exact hb
          · exact absurd (ordB_total hy hb) hne
        rcases List.mem_cons.1 hz with e | e
        · subst e; exact hxy
        · exact ordB_trans hxy (h'.1 z e)
theorem redL_srt (l : List ByteArray) : ∀ k, SrtB (redL l k)
  | 0 => by simp [redL, SrtB]
  | k + 1 => by
    rw [redL]
    split
    · split
      · exact insB_srt (redL_srt l k)
      · exact redL_srt l k
    · exact redL_srt l k
theorem mem_redL {l : List ByteArray} {z : ByteArray} : ∀ {k}, k ≤ l.length → (z ∈ redL l k ↔ z ∈ l.take k ∧ minB l z = true)
  | 0, _ => by simp [redL]
  | k + 1, h => by
    rw [redL_succ (by omega), List.take_succ_eq_append_getElem (by omega : k < l.length)]
    have ih := mem_redL (l := l) (z := z) (k := k) (by omega)
    split
    · rename_i hm
      rw [mem_insB, ih]
      simp only [List.mem_append, List.mem_singleton]
      constructor
      · rintro (e | e)
        · subst e; exact ⟨.inr rfl, hm⟩
        · exact ⟨.inl e.1, e.2⟩
      · rintro ⟨e | e, h2⟩
        · exact .inr ⟨e, h2⟩
        · exact .inl e
    · rename_i hm
      rw [ih]
      simp only [List.mem_append, List.mem_singleton]
      constructor
      · rintro ⟨e, h2⟩; exact ⟨.inl e, h2⟩
      · rintro ⟨e | e, h2⟩
        · exact ⟨e, h2⟩
        · subst e; exact absurd h2 hm
theorem sort_srt {l : List ByteArray} (hn : l.Nodup) : SrtB (l.mergeSort (fun x y => !(ltOf ordB) y x)) := by
  have hp := List.pairwise_mergeSort (le := fun x y => !(ltOf ordB) y x)
    (fun a b c h1 h2 => by
      simp only [Bool.not_eq_true'] at *
      exact swoB.ntrans _ _ _ h2 h1)
    (fun a b => by
      simp only [Bool.or_eq_true, Bool.not_eq_true']
      cases h : ltOf ordB b a
      · exact .inl rfl
      · refine .inr ?_
        unfold ltOf at *
        have := of_decide_eq_true h
        exact decide_eq_false (by have := ordB_swap a b; omega)) l
  have hnd : (l.mergeSort (fun x y => !(ltOf ordB) y x)).Nodup := (List.mergeSort_perm l _).nodup_iff.2 hn
  refine List.Pairwise.imp₂ ?_ hp hnd
  intro a b h1 h2
  simp only [Bool.not_eq_true'] at h1
  by_cases hb : ordB a b < 0
  · exact hb
  · exact absurd (ordB_total hb (of_decide_eq_false h1)) h2
/-- What the program collects, sorted, is what the reference inserts. -/
theorem red_sort {l out : List ByteArray} (hn : out.Nodup) (hm : ∀ z, z ∈ out ↔ z ∈ l ∧ minB l z = true) : out.mergeSort (fun x y => !(ltOf ordB) y x) = redL l l.length := by
  refine SrtB.unique (sort_srt hn) (redL_srt l _) (fun z => ?_)
  rw [List.mem_mergeSort, hm, mem_redL (Nat.le_refl _), List.take_length]

/-! ### Factors -/
/-- The factors that begin at i. -/
def facI (s : ByteArray) (i : Nat) : List ByteArray := (List.range (s.size - i)).map (fun j => s.extract i (i + j + 1))
def facU (s : ByteArray) (n : Nat) : List ByteArray := (List.range n).flatMap (facI s)
def facL (s : ByteArray) : List ByteArray := facU s s.size
theorem facU_succ (s : ByteArray) (n : Nat) : facU s (n + 1) = facU s n ++ facI s n := by
  unfold facU; rw [List.range_succ, List.flatMap_append]; simp
theorem facI_len (s : ByteArray) (i : Nat) : (facI s i).length = s.size - i := by simp [facI]
theorem facU_len (s : ByteArray) : ∀ n, (facU s n).length ≤ n * s.size
  | 0 => by simp [facU]
  | n + 1 => by rw [facU_succ, List.length_append, facI_len, Nat.add_mul]; have := facU_len s n; omega
theorem mem_facL {s u : ByteArray} : u ∈ facL s ↔ ∃ i k, i < k ∧ k ≤ s.size ∧ u = s.extract i k := by
  unfold facL facU facI
  simp only [List.mem_flatMap, List.mem_range, List.mem_map]
  constructor
  · rintro ⟨i, hi, j, hj, rfl⟩; exact ⟨i, i + j + 1, by omega, by omega, rfl⟩
  · rintro ⟨i, k, h1, h2, rfl⟩; exact ⟨i, by omega, k - i - 1, by omega, by congr 1; omega⟩
theorem least_at {p : Nat → Bool} (n : Nat) : p n = true → ∃ m, m ≤ n ∧ p m = true ∧ ∀ i, i < m → p i = false := by
  induction n using Nat.strongRecOn with
  | _ n ih =>
    intro h
    rcases Classical.em (∃ i, i < n ∧ p i = true) with ⟨i, hi, hp⟩ | hn
    · obtain ⟨m, h1, h2, h3⟩ := ih i hi hp
      exact ⟨m, by omega, h2, h3⟩
    · exact ⟨n, Nat.le_refl _, h, fun i hi => by
        cases hp : p i
        · rfl
        · exact absurd ⟨i, hi, hp⟩ hn⟩
theorem contains_iff {s u : ByteArray} (hu : u ≠ (⟨#[]⟩ : ByteArray)) : Lib.contains s.data.toList u.data.toList = true ↔ u ∈ facL s := by
  have hne : u.data.toList ≠ [] := fun h => hu (by cases u; simp at h; rw [h])
  have hpos : 0 < u.size := by
    have hl : u.data.toList.length = u.size := by simp
    rcases Nat.eq_zero_or_pos u.size with h | h
    · rw [h] at hl; exact absurd (List.length_eq_zero_iff.1 hl) hne
    · exact h
  have hocc : Lib.contains s.data.toList u.data.toList = true ↔ ∃ j, Lib.occAt s.data.toList u.data.toList j = true := by
    constructor
    · intro h
      rcases Classical.em (∃ j, Lib.occAt s.data.toList u.data.toList j = true) with h1 | h1
      · exact h1
      · have hn : Lib.index s.data.toList u.data.toList = -1 := Lib.index_none (fun j _ => by
          cases ho : Lib.occAt s.data.toList u.data.toList j
          · rfl
          · exact absurd ⟨j, ho⟩ h1)
        unfold Lib.contains at h
        rw [hn] at h; simp at h
    · rintro ⟨j, hj⟩
      obtain ⟨m, _, hf, hmn⟩ := least_at (p := fun j => Lib.occAt s.data.toList u.data.toList j) j hj
      have hr := Lib.occAt_room hf
      have hle : m ≤ s.data.toList.length := by
        rcases hr with h | h
        · omega
        · exact absurd h hne
      unfold Lib.contains
      rw [Lib.index_first hle hf hmn]; simp
  rw [hocc, mem_facL]
  constructor
  · rintro ⟨j, hj⟩
    have hr : j + u.size ≤ s.size := by
      rcases Lib.occAt_room hj with h | h
      · simpa using h
      · exact absurd h hne
    rw [Lib.occ_of_piece s u j hr] at hj
    exact ⟨j, j + u.size, by omega, hr, ((Lib.bytes_beq_iff _ _).1 hj).symm⟩
  · rintro ⟨i, k, h1, h2, rfl⟩
    have hsz : (s.extract i k).size = k - i := by simp; omega
    refine ⟨i, ?_⟩
    rw [Lib.occ_of_piece s (s.extract i k) i (by rw [hsz]; omega), hsz]
    exact (Lib.bytes_beq_iff _ _).2 (by congr 1; omega)
/-- A word is minimal exactly if none of its factors, but it, is of the list. -/
theorem fac_min {l : List ByteArray} {w : ByteArray} {f : ByteArray → Bool} (hf : ∀ u, f u = true ↔ u ∈ l) (hl : ∀ u ∈ l, u ≠ (⟨#[]⟩ : ByteArray)) : (facL w).all (fun u => decide (u = w) || !f u) = minB l w := by
  rw [Bool.eq_iff_iff]
  unfold minB
  rw [List.all_eq_true, List.all_eq_true]
  constructor
  · intro h u hu
    by_cases he : u = w
    · exact okB_eq he
    · rw [okB_ne he]
      cases hc : Lib.contains w.data.toList u.data.toList
      · rfl
      · have := h u ((contains_iff (hl u hu)).1 hc)
        simp [he, (hf u).2 hu] at this
  · intro h u hu
    by_cases he : u = w
    · simp [he]
    · by_cases hul : u ∈ l
      · have := h u hul
        rw [okB_ne he, (contains_iff (hl u hul)).2 hu] at this
        simp at this
      · have : f u = false := by
          cases h2 : f u
          · rfl
          · exact absurd ((hf u).1 h2) hul
        simp [this]
end Go.Proofs.YthelgembcfdhdaaGreat
namespace Go.Proofs.YthelgembcfdhdaaGreat
open Go.RowKit Go.Shelf
attribute [local go_sem] Oper.semAt_some

/-- What the sequence yields among the first k edges. -/
def lvL (es : List Ed) (s : Int) (k : Nat) : List (Nat × Ed) := ((List.range k).filter (fun i => decide ((eget es i).f = s))).map (fun i => (i, eget es i))
theorem lvL_zero (es : List Ed) (s : Int) : lvL es s 0 = [] := rfl
theorem lvL_succ {es : List Ed} {s : Int} {k : Nat} (h : k < es.length) : lvL es s (k + 1) = lvL es s k ++ (if es[k].f = s then [(k, es[k])] else []) := by
  unfold lvL
  rw [List.range_succ, List.filter_append, List.map_append]
  congr 1
  by_cases hs : es[k].f = s <;> simp [eget_eq es k h, hs]
theorem lvL_len (es : List Ed) (s : Int) (k : Nat) : (lvL es s k).length ≤ k := by
  unfold lvL
  rw [List.length_map]
  exact Nat.le_trans (List.length_filter_le _ _) (by simp)
/-- All blocks below b, but a, are as they were. -/
def KX (a b : Nat) (W W' : World) : Prop := ∀ i, i < b → i ≠ a → W'.heap[i]? = W.heap[i]?
theorem KX.refl (a b : Nat) (W : World) : KX a b W W := fun _ _ _ => rfl
theorem KX.trans {a b : Nat} {X Y Z : World} (h : KX a b X Y) (k : KX a b Y Z) : KX a b X Z := fun i h1 h2 => (k i h1 h2).trans (h i h1 h2)
theorem KX_b {a b n : Nat} (hn : b ≤ n) (W : World) (l : Nat) (o o' : Obj) (hl : n ≤ l) (_ : W.heap[l]? = some o) (_ : o.isCells = false) (_ : o.isWalk = false) : KX a b W (W.putObj l o') :=
  fun i h1 _ => World.putObj_heap_other (by omega)
theorem KX.boxed {a b B : Nat} {t : TypeId} {v : Value} {W W' : World} (h : KX a b W W') (h1 : B < b) (h2 : B ≠ a) (hb : Boxed W B t v) : Boxed W' B t v := (h B h1 h2).trans hb
/-- Edges in memory, in a block below n. -/
def SgB (n : Nat) (w : World) (p : Option Addr) (l : List Ed) : Prop :=
  l = [] ∨ ∃ b off, p = some ⟨b, off, none⟩ ∧ b < n ∧ b < w.heap.size ∧ ∀ i (h : i < l.length) j, j < 3 → w.cell? ⟨b, off + i * 3 + j, none⟩ = (edE l[i])[j]?
theorem SgB.of {n : Nat} {w : World} {p : Option Addr} {l : List Ed} (h : Sg 3 w edE p l) (hn : w.heap.size ≤ n) : SgB n w p l := by
  rcases h with h | ⟨b, off, h1, h2, h3⟩
  · exact .inl h
  · exact .inr ⟨b, off, h1, by omega, h2, h3⟩
theorem SgB.sg {n : Nat} {w : World} {p : Option Addr} {l : List Ed} (h : SgB n w p l) : Sg 3 w edE p l := by
  rcases h with h | ⟨b, off, h1, _, h2, h3⟩
  · exact .inl h
  · exact .inr ⟨b, off, h1, h2, h3⟩
theorem SgB.kept {n : Nat} {w w' : World} {p : Option Addr} {l : List Ed} (h : SgB n w p l) (hk : ∀ i, i < n → w'.heap[i]? = w.heap[i]?) : SgB n w' p l := by
  rcases h with h | ⟨b, off, h1, h2, h3, h4⟩
  · exact .inl h
  · have e := hk b h2
    have hlt : b < w'.heap.size := by
      rcases Nat.lt_or_ge b w'.heap.size with h' | h'
      · exact h'
      · rw [Array.getElem?_eq_none h', Array.getElem?_eq_getElem h3] at e; cases e
    exact .inr ⟨b, off, h1, h2, hlt, fun i hi j hj => (World.cell?_of_block (w := w) (a := ⟨b, off + i * 3 + j, none⟩) e).trans (h4 i hi j hj)⟩
theorem SgB.kx {n a b : Nat} {w w' : World} {p : Option Addr} {l : List Ed} (h : SgB n w p l) (hk : KX a b w w') (h1 : n ≤ b) (h2 : n ≤ a) : SgB n w' p l :=
  h.kept (fun i hi => hk i (by omega) (by omega))
theorem SgB.alloc {n : Nat} {w : World} {p : Option Addr} {l : List Ed} (h : SgB n w p l) (hn : n ≤ w.heap.size) (o : Obj) : SgB n (w.alloc o) p l :=
  h.kept (fun i hi => Below.heap_alloc w o i (by omega))
def encL (x : Nat × Ed) : Array Value := #[.int .i64 (x.1 : Int), .agg #[.int .i64 x.2.f, .int .i64 x.2.l, .int .i64 x.2.t]]

set_option maxRecDepth 100000 in
set_option maxHeartbeats 1000000 in
theorem leaving1_in (F : Fence) (n : Nat) (hf : F.fn 128) (hro : F.round = none) (hn : 1 ≤ n) (l a b m Bg Bs : Nat) (G : Gr) (s : Int) (p : Option Addr) (c : Nat) (hlen : G.es.length ≤ 1024) (J Jx : List (Nat × Ed) → World → Prop)
    (hA : ∀ pre W o, J pre W → J pre (W.alloc o))
    (hY : ∀ pre x W, J pre W → pre.length < G.es.length → YieldAt F (n - 1) Tryz.prog l (encL x) W fun e W' =>
      (e = .returned (.bool true) ∧ J (pre ++ [x]) W' ∧ KX a b W W') ∨ (e = .returned (.bool false) ∧ Jx (pre ++ [x]) W'))
    (W : World) (hma : m ≤ a) (hmb : m ≤ Bs) (hBs : Bs < b) (hBa : Bs ≠ a) (hg : VRow W Bg 27 [.int .i64 G.q, .int .i64 G.n, .slice p G.es.length c]) (hs : Boxed W Bs 3 (.int .i64 s)) (hin : SgB m W p G.es) (h0 : J [] W) :
    CallsIn F n Tryz.prog 128 #[.func (.yield l) #[] #[], .pointer (some ⟨Bg, 0, none⟩), .pointer (some ⟨Bs, 0, none⟩)] W fun e W' => (∃ v, e = .returned v) ∧
      ((∃ ys : List (Nat × Ed), ys = lvL G.es s G.es.length ∧ J ys W') ∨ (∃ pre : List (Nat × Ed), True ∧ Jx pre W')) := by
  refine callsIn_of_wp Tryz.func128 rfl hf ?_ hro
  simp only [Tryz.ntmps128, List.size_toArray, List.length_cons, List.length_nil, Nat.reduceAdd, Nat.reduceSub, Array.replicate_succ, Array.replicate_zero, List.push_toArray, List.append_toArray, List.nil_append, List.cons_append]
  have f2 := hg.at 2 rfl
  gi_wp2
  clear f2
  gi_loopw [9] (fun i wr => ∃ (k : Nat) (pre : List (Nat × Ed)), k ≤ G.es.length ∧ i = .int .i64 k ∧ Hid (pre = lvL G.es s k) ∧ J pre wr ∧ Boxed wr Bs 3 (.int .i64 s) ∧ SgB m wr p G.es) (fun i _ => G.es.length - (intOf i).toNat)
  case atStart => exact ⟨0, [], Nat.zero_le _, rfl, rfl, h0, hs, hin⟩
  case round =>
    obtain ⟨k, pre, hk, rfl, hp, hJs, hnx, hsg⟩ := hrel
    by_cases hlt : k < G.es.length
    · have hpl : pre.length < G.es.length := by rw [hp.out]; have := lvL_len G.es s k; omega
      obtain ⟨b3, o3, rfl, hb3, e0, e1, e2⟩ := hsg.sg.get3 k hlt rfl
      have HN := hidI (lvL_succ (s := s) hlt)
      have hnA := hnx.alloc (.cells #[.int .i64 G.es[k].f, .int .i64 G.es[k].l, .int .i64 G.es[k].t] 47)
      have hgA := hsg.alloc (by have := hnx.lt; omega) (.cells #[.int .i64 G.es[k].f, .int .i64 G.es[k].l, .int .i64 G.es[k].t] 47)
      have hJA := hA pre wr (.cells #[.int .i64 G.es[k].f, .int .i64 G.es[k].l, .int .i64 G.es[k].t] 47) hJs
      have HY := hidI (hY pre (k, G.es[k]) (wr.alloc (.cells #[.int .i64 G.es[k].f, .int .i64 G.es[k].l, .int .i64 G.es[k].t] 47)) hJA hpl)
      have hbs := hnA.cell
      generalize hx : G.es[k] = x at *
      by_cases he : x.f = s
      · have hb : (x.f == s) = true := by simpa using he
        have HN : Hid (lvL G.es s (k + 1) = lvL G.es s k ++ [(k, x)]) := by rw [Hid, HN.out, if_pos he]
        obtain ⟨fn, tmps, assign, body, hy, hR⟩ := HY.out
        unfold encL at hy
        simp only at hy
        clear he
        gi_wp2
        refine hR.mono ?_
        rintro e W3 (⟨rfl, hJ3, hk3⟩ | ⟨rfl, hJx3⟩)
        · gi_wp2
          go_roundw
          case rel => exact ⟨k + 1, _, by omega, by go_num, by unfold Hid; rw [HN.out, ← hp.out], hJ3, hk3.boxed hBs hBa hnA, hgA.kx hk3 (by omega) hma⟩
          case measure => simp [intOf]; omega
        · gi_wp2
          refine bodyPost_ret (results_none rfl _ _ _) rfl ?_
          exact ⟨⟨_, rfl⟩, .inr ⟨_, trivial, hJx3⟩⟩
      · have hb : (x.f == s) = false := by simpa using he
        have HN : Hid (lvL G.es s (k + 1) = lvL G.es s k) := by rw [Hid, HN.out, if_neg he, List.append_nil]
        clear he
        gi_wp2
        rename_i K1 hK1 x1 h1 w1 e1
        refine ⟨fun f hf => (by cases hf), hK1 _ _ ?_⟩
        clear e1
        gi_wp2
        go_roundw
        case rel => exact ⟨k + 1, _, by omega, by go_num, by unfold Hid; rw [HN.out, ← hp.out], hJA, hnA, hgA⟩
        case measure => simp [intOf]; omega
    · obtain rfl : k = G.es.length := by omega
      gi_wp2
      go_end0
      exact ⟨⟨_, rfl⟩, .inl ⟨_, hp.out, hJs⟩⟩

/-- The sequence, as the law of the loop takes it. -/
theorem leaving_stops (F : Fence) (n : Nat) (hf : F.fn 128) (hro : F.round = none) (hn : 1 ≤ n) (a b m Bg Bs : Nat) (G : Gr) (s : Int) (p : Option Addr) (c : Nat) (hlen : G.es.length ≤ 1024) (w : World)
    (hma : m ≤ a) (hmb : m ≤ Bs) (hBs : Bs < b) (hBa : Bs ≠ a) (hg : VRow w Bg 27 [.int .i64 G.q, .int .i64 G.n, .slice p G.es.length c]) (hs : Boxed w Bs 3 (.int .i64 s)) (hin : SgB m w p G.es) :
    SeqStopsK F n Tryz.prog 128 #[.pointer (some ⟨Bg, 0, none⟩), .pointer (some ⟨Bs, 0, none⟩)] encL (KX a b) (fun ys => ys = lvL G.es s G.es.length) (fun _ => True) G.es.length w := fun l J Jx W hW hJ _ hY h0 =>
  leaving1_in F n hf hro hn l a b m Bg Bs G s p c hlen J Jx (fun pre W o h => hJ pre W _ none h (World.grownBy_alloc W o none) (fun r e => by cases e)) hY W hma hmb hBs hBa (hg.below hW hg.lt) ((KH.of_below hW hs.lt).boxed hs) (hin.kept (fun i hi => hW.block i (by have := hs.lt; omega))) h0
end Go.Proofs.YthelgembcfdhdaaGreat
namespace Go.Proofs.YthelgembcfdhdaaGreat
open Go.RowKit Go.Shelf
attribute [local go_sem] Oper.semAt_some

/-- A word that is no longer than a given one. -/
abbrev SubB (s : ByteArray) := {u : ByteArray // u.size ≤ s.size}
def encS (s : ByteArray) (u : SubB s) : Array Value := #[.string u.1]
theorem ext_le (s : ByteArray) (i k : Nat) (h : k ≤ s.size) : (s.extract i k).size ≤ s.size := by simp; omega
theorem facI_take (s : ByteArray) (i j : Nat) (h : i + j + 1 ≤ s.size) : (facI s i).take (j + 1) = (facI s i).take j ++ [s.extract i (i + j + 1)] := by
  have hj : j < (facI s i).length := by rw [facI_len]; omega
  rw [List.take_succ_eq_append_getElem hj]
  congr 2
  simp [facI]
theorem fac_bd {s : ByteArray} {i j : Nat} (h : i + j + 1 ≤ s.size) : (facU s i ++ (facI s i).take j).length < s.size * s.size := by
  rw [List.length_append, List.length_take, facI_len]
  have h1 := facU_len s i
  have h2 : (i + 1) * s.size ≤ s.size * s.size := Nat.mul_le_mul_right _ (by omega)
  rw [Nat.add_mul] at h2
  omega

set_option maxHeartbeats 1000000 in
theorem factors_in (F : Fence) (n : Nat) (hf : F.fn 36) (hro : F.round = none) (s : ByteArray) (w : World) :
    CallsIn F n Tryz.prog 36 #[.string s] w fun e w' => e = .returned (.func (.func 72) #[] #[.pointer (some ⟨w.heap.size, 0, none⟩)]) ∧ w' = w.alloc (.cells #[.string s] 9) := by
  refine callsIn_of_wp Tryz.func36 rfl hf ?_ hro
  simp only [Tryz.ntmps36, List.size_toArray, List.length_cons, List.length_nil, Nat.reduceAdd, Nat.reduceSub, Array.replicate_succ, Array.replicate_zero, List.push_toArray, List.append_toArray, List.nil_append, List.cons_append]
  gi_wp2
  go_ret
  exact ⟨rfl, rfl⟩

set_option maxRecDepth 100000 in
set_option maxHeartbeats 1000000 in
theorem factors1_in (F : Fence) (n : Nat) (hf : F.fn 72) (hro : F.round = none) (hn : 1 ≤ n) (l a b Bs : Nat) (s : ByteArray) (hs2 : s.size ≤ 1000000) (J Jx : List (SubB s) → World → Prop)
    (hY : ∀ pre x W, J pre W → pre.length < s.size * s.size → YieldAt F (n - 1) Tryz.prog l (encS s x) W fun e W' =>
      (e = .returned (.bool true) ∧ J (pre ++ [x]) W' ∧ KX a b W W') ∨ (e = .returned (.bool false) ∧ Jx (pre ++ [x]) W'))
    (W : World) (hBs : Bs < b) (hBa : Bs ≠ a) (hs : Boxed W Bs 9 (.string s)) (h0 : J [] W) :
    CallsIn F n Tryz.prog 72 #[.func (.yield l) #[] #[], .pointer (some ⟨Bs, 0, none⟩)] W fun e W' => (∃ v, e = .returned v) ∧
      ((∃ ys : List (SubB s), ys.map (·.1) = facL s ∧ J ys W') ∨ (∃ pre : List (SubB s), True ∧ Jx pre W')) := by
  refine callsIn_of_wp Tryz.func72 rfl hf ?_ hro
  simp only [Tryz.ntmps72, List.size_toArray, List.length_cons, List.length_nil, Nat.reduceAdd, Nat.reduceSub, Array.replicate_succ, Array.replicate_zero, List.push_toArray, List.append_toArray, List.nil_append, List.cons_append]
  have f0 := hs.cell
  gi_wp2
  clear f0
  gi_loopw [7] (fun i wr => ∃ (k : Nat) (pre : List (SubB s)), k ≤ s.size ∧ i = .int .i64 k ∧ Hid (pre.map (·.1) = facU s k) ∧ J pre wr ∧ Boxed wr Bs 9 (.string s)) (fun i _ => s.size - (intOf i).toNat)
  case atStart => exact ⟨0, [], Nat.zero_le _, rfl, rfl, h0, hs⟩
  case round =>
    obtain ⟨i, pre, hk, rfl, hp, hJs, hnx⟩ := hrel
    by_cases hlt : i < s.size
    · have hltI : (i : Int) < (s.size : Int) := by omega
      have HU := hidI (facU_succ s i)
      have hw0 : IntKind.i64.wrap ((i : Int) + 1) = (i : Int) + 1 := by rw [IntKind.wrap_i64]; omega
      gi_wp2
      gi_loopw [4] (fun kv wr => ∃ (j : Nat) (pre : List (SubB s)), i + j ≤ s.size ∧ kv = .int .i64 ((i : Int) + 1 + j) ∧ Hid (pre.map (·.1) = facU s i ++ (facI s i).take j) ∧ J pre wr ∧ Boxed wr Bs 9 (.string s)) (fun kv _ => s.size + 1 - (intOf kv).toNat)
      case atStart => exact ⟨0, pre, by omega, by simp, by unfold Hid; rw [hp.out]; simp, hJs, hnx⟩
      case round =>
        obtain ⟨j, pre2, hj, rfl, hp2, hJ2, hnx2⟩ := hrel
        have f0 := hnx2.cell
        by_cases hlt2 : i + j + 1 ≤ s.size
        · have hI2 : (i : Int) + 1 + (j : Int) ≤ (s.size : Int) := by omega
          have hI3 : (i : Int) ≤ (i : Int) + 1 + (j : Int) := by omega
          have hI4 : ((i : Int) + 1 + (j : Int)).toNat = i + j + 1 := by omega
          have HN := hidI (facI_take s i j hlt2)
          have HY := hidI (hY pre2 ⟨s.extract i (i + j + 1), ext_le s _ _ hlt2⟩ _ hJ2 (by rw [show pre2.length = (pre2.map (·.1)).length by simp, hp2.out]; exact fac_bd hlt2))
          obtain ⟨fn, tmps, assign, body, hy, hR⟩ := HY.out
          unfold encS at hy
          simp only at hy
          gi_wp2
          refine hR.mono ?_
          rintro e W3 (⟨rfl, hJ3, hk3⟩ | ⟨rfl, hJx3⟩)
          · gi_wp2
            go_roundw
            case rel => exact ⟨j + 1, _, by omega, by go_num, by unfold Hid; rw [HN.out, ← List.append_assoc, ← hp2.out, List.map_append]; rfl, hJ3, hk3.boxed hBs hBa hnx2⟩
            case measure => simp [intOf]; omega
          · gi_wp2
            refine bodyPost_ret (results_none rfl _ _ _) rfl ?_
            exact ⟨⟨_, rfl⟩, .inr ⟨_, trivial, hJx3⟩⟩
        · have hI2 : ¬ (i : Int) + 1 + (j : Int) ≤ (s.size : Int) := by omega
          have HF : Hid (pre2.map (·.1) = facU s (i + 1)) := by
            rw [Hid, hp2.out, HU.out, List.take_of_length_le (by rw [facI_len]; omega)]
          gi_wp2
          go_roundw
          case rel => exact ⟨i + 1, pre2, by omega, by go_num, HF, hJ2, hnx2⟩
          case measure => simp [intOf]; omega
    · obtain rfl : i = s.size := by omega
      have hltI : ¬ (s.size : Int) < (s.size : Int) := by omega
      gi_wp2
      go_end0
      first
        | exact ⟨⟨_, rfl⟩, .inl ⟨_, hp.out, hJs⟩⟩
        | exact ⟨⟨_, rfl⟩, .inl ⟨_, hp.out, hJs⟩⟩

/-- The sequence, as the law of the loop takes it. -/
theorem factors_stops (F : Fence) (n : Nat) (hf : F.fn 72) (hro : F.round = none) (hn : 1 ≤ n) (a b Bs : Nat) (s : ByteArray) (hs2 : s.size ≤ 1000000) (w : World) (hBs : Bs < b) (hBa : Bs ≠ a) (hs : Boxed w Bs 9 (.string s)) :
    SeqStopsK F n Tryz.prog 72 #[.pointer (some ⟨Bs, 0, none⟩)] (encS s) (KX a b) (fun ys => ys.map (·.1) = facL s) (fun _ => True) (s.size * s.size) w := fun l J Jx W hW _ _ hY h0 =>
  factors1_in F n hf hro hn l a b Bs s hs2 J Jx hY W hBs hBa ((KH.of_below hW hs.lt).boxed hs) h0
end Go.Proofs.YthelgembcfdhdaaGreat
namespace Go.Proofs.YthelgembcfdhdaaGreat
open Go.RowKit Go.ChangeMaps Go.MapKept Go.WideShapes Go.Maps

/-- The keys of a kind, as they lie in memory. -/
structure KeyBy {α : Type} (P : Program) (k : TypeId) (kv : α → Value) (ok : α → Prop) : Prop where
  law : Keyed P k
  reads : ∀ a, ok a → ∃ l, keyOf P k (kv a) = some l
  inj : ∀ a b, ok a → ok b → kv a = kv b → a = b

/-- Block b is a map that answers as f does. -/
def Mp {α β : Type} (kv : α → Value) (ok : α → Prop) (vv : β → Value) (w : World) (b : Nat) (f : α → Option β) : Prop :=
  ∃ es clock, w.heap[b]? = some (.map es clock) ∧ es.toList.Pairwise (fun x y => x.key ≠ y.key) ∧
    (∀ e ∈ es.toList, ∃ a x, e.key = kv a ∧ ok a ∧ e.val = vv x ∧ f a = some x) ∧ (∀ a x, f a = some x → ∃ e ∈ es.toList, e.key = kv a)

section
variable {α β : Type} {kv : α → Value} {ok : α → Prop} {vv : β → Value} {w : World} {b : Nat} {f : α → Option β} {P : Program} {k : TypeId}

theorem Mp.lt (h : Mp kv ok vv w b f) : b < w.heap.size := by
  obtain ⟨es, clock, hb, _⟩ := h
  exact (Array.getElem?_eq_some_iff.1 hb).1
theorem Mp.same {w' : World} (h : Mp kv ok vv w b f) (hb : w'.heap[b]? = w.heap[b]?) : Mp kv ok vv w' b f := by
  obtain ⟨es, clock, hb', r⟩ := h
  exact ⟨es, clock, hb.trans hb', r⟩
theorem Mp.alloc (h : Mp kv ok vv w b f) (o : Obj) : Mp kv ok vv (w.alloc o) b f := h.same (Below.heap_alloc w o b h.lt)
theorem Mp.drewN (h : Mp kv ok vv w b f) (n : Nat) : Mp kv ok vv (w.drewN n) b f := h
theorem Mp.drew (h : Mp kv ok vv w b f) : Mp kv ok vv w.drew b f := h
theorem Mp.below {w' : World} {B : Nat} (h : Mp kv ok vv w b f) (hB : Below B w w') (hb : b < B) : Mp kv ok vv w' b f := h.same (hB.block b hb)
theorem Mp.kept {w' : World} {row : Option Nat} (h : Mp kv ok vv w b f) (hg : w.grownBy w' row) (hne : some b ≠ row) : Mp kv ok vv w' b f :=
  h.same (hg.block b h.lt hne)
theorem Mp.setCell (h : Mp kv ok vv w b f) {a : Addr} (ha : b ≠ a.block) (u : Value) : Mp kv ok vv (w.setCell a u) b f := h.same (Below.heap_setCell _ _ _ _ ha)
theorem Mp.made (w : World) : Mp kv ok vv (w.alloc (.map #[] 0)) w.heap.size (fun _ => none) :=
  ⟨#[], 0, heap_alloc_new w _, by simp, by simp, by simp⟩
theorem Mp.congr {g : α → Option β} (h : Mp kv ok vv w b f) (e : ∀ a, f a = g a) : Mp kv ok vv w b g := by
  have : f = g := funext e
  exact this ▸ h

theorem Mp.look {t e : TypeId} (h : Mp kv ok vv w b f) (K : KeyBy P k kv ok) (ht : P.underlying t = some (.map k e)) {z : Value} (hz : (zeroValue e).run P w = .ok z w) (a : α) (ha : ok a) (c : Bool) :
    (Instr.lookup t (.map (some b)) (kv a) c).run P w = .ok (match f a with | some x => if c then .tuple #[vv x, .bool true] else vv x | none => if c then .tuple #[z, .bool false] else z) w := by
  obtain ⟨es, clock, hb, hd, hr, hc⟩ := h
  obtain ⟨kl, hkey⟩ := K.reads a ha
  have hkeys : ∀ e ∈ es.toList, ∃ l, keyOf P k e.key = some l := fun e he => by
    obtain ⟨a', x, h1, h2, _⟩ := hr e he
    rw [h1]; exact K.reads a' h2
  rcases K.law.find w hkey es.toList hkeys with ⟨h1, h2⟩ | ⟨j, e0, h1, h2, h3⟩
  · have hf : f a = none := by
      cases hfa : f a with
      | none => rfl
      | some x => obtain ⟨e, he, hk⟩ := hc a x hfa; exact absurd hk (h2 e he)
    rw [hf]
    simp [Instr.lookup, run_underlying ht, MapKept.run_getObj_map hb, K.law.check w _ hkey, h1, hz, Result.andThen]
  · obtain ⟨a', x, g1, g2, g3, g4⟩ := hr e0 (List.mem_of_getElem? h2)
    obtain rfl := K.inj a' a g2 ha (g1.symm.trans h3)
    rw [g4]
    simp [Instr.lookup, run_underlying ht, MapKept.run_getObj_map hb, K.law.check w _ hkey, h1, g3, Result.andThen]

/-- One key more, or another value at it. -/
def mset [DecidableEq α] (f : α → Option β) (a : α) (x : β) : α → Option β := fun a' => if a' = a then some x else f a'
theorem mset_at [DecidableEq α] (f : α → Option β) (a : α) (x : β) : mset f a x a = some x := by simp [mset]
theorem mset_ne [DecidableEq α] (f : α → Option β) (a a' : α) (x : β) (h : a' ≠ a) : mset f a x a' = f a' := by simp [mset, h]

theorem Mp.store [DecidableEq α] {t e : TypeId} (h : Mp kv ok vv w b f) (K : KeyBy P k kv ok) (ht : P.underlying t = some (.map k e)) (a : α) (ha : ok a) (x : β) :
    ∃ w', (Instr.mapUpdate t (.map (some b)) (kv a) (vv x)).run P w = .ok () w' ∧ Mp kv ok vv w' b (mset f a x) ∧ w.mapTurned w' b := by
  obtain ⟨es, clock, hb, hd, hr, hc⟩ := h
  obtain ⟨kl, hkey⟩ := K.reads a ha
  have hkeys : ∀ e ∈ es.toList, ∃ l, keyOf P k e.key = some l := fun e he => by
    obtain ⟨a', x, h1, h2, _⟩ := hr e he
    rw [h1]; exact K.reads a' h2
  rcases K.law.find w hkey es.toList hkeys with ⟨h1, h2⟩ | ⟨j, e0, h1, h2, h3⟩
  · refine ⟨_, ?_, ⟨es.push ⟨kv a, vv x, clock⟩, clock + 1, heap_setBlock_same hb _, ?_, ?_, ?_⟩, ⟨es, clock, _, _, hb, rfl⟩⟩
    · simp [Instr.mapUpdate, run_underlying ht, MapKept.run_getObj_map hb, K.law.check w false hkey, h1, MapKept.run_setObj_map _ hb, Result.andThen, setBlock]
    · rw [Array.toList_push, List.pairwise_append]
      refine ⟨hd, by simp, fun y hy z hz => ?_⟩
      simp only [List.mem_singleton] at hz; subst hz
      exact h2 y hy
    · intro y hy
      rw [Array.toList_push, List.mem_append, List.mem_singleton] at hy
      rcases hy with hy | rfl
      · obtain ⟨a', x', g1, g2, g3, g4⟩ := hr y hy
        refine ⟨a', x', g1, g2, g3, ?_⟩
        rw [mset_ne _ _ _ _ (fun e => h2 y hy (by rw [g1, e]))]; exact g4
      · exact ⟨a, x, rfl, ha, rfl, mset_at _ _ _⟩
    · intro a' x' hfa
      by_cases e : a' = a
      · subst e; exact ⟨⟨kv a', vv x, clock⟩, by simp, rfl⟩
      · rw [mset_ne _ _ _ _ e] at hfa
        obtain ⟨y, hy, hk⟩ := hc a' x' hfa
        exact ⟨y, by simp [Array.toList_push]; exact .inl (by simpa using hy), hk⟩
  · have hj : es[j]? = some e0 := by simpa using h2
    have hjl : j < es.toList.length := (List.getElem?_eq_some_iff.1 h2).1
    have hlist : (es.modify j (fun e' => { e' with key := kv a, val := vv x })).toList = es.toList.set j { e0 with key := kv a, val := vv x } := by rw [Array.toList_modify, modify_eq_set _ _ _ _ h2]
    have hkm : (es.toList.set j { e0 with key := kv a, val := vv x }).map MapEntry.key = es.toList.map MapEntry.key := by
      rw [List.map_set]
      apply List.ext_getElem?
      intro i
      rw [List.getElem?_set]
      split
      · rename_i hi; subst hi
        rw [if_pos (by simpa using hjl), List.getElem?_map, h2]
        simp [h3]
      · rfl
    have hd' : (es.toList.set j { e0 with key := kv a, val := vv x }).Pairwise (fun x y => x.key ≠ y.key) := by
      have hn : (es.toList.map MapEntry.key).Pairwise (· ≠ ·) := List.pairwise_map.2 hd
      rw [← hkm] at hn
      exact List.pairwise_map.1 hn
    refine ⟨_, ?_, ⟨es.modify j (fun e' => { e' with key := kv a, val := vv x }), clock, heap_setBlock_same hb _, ?_, ?_, ?_⟩, ⟨es, clock, _, _, hb, rfl⟩⟩
    · have hst := K.law.stays w hkey
      simp [Instr.mapUpdate, run_underlying ht, MapKept.run_getObj_map hb, K.law.check w false hkey, h1, hj, h3, hst, MapKept.run_setObj_map _ hb, Result.andThen, setBlock]
    · rw [hlist]; exact hd'
    · intro y hy
      rw [hlist] at hy
      obtain ⟨i, hi, hyi⟩ := List.mem_iff_getElem.1 hy
      rw [List.getElem_set] at hyi
      split at hyi
      · subst hyi; exact ⟨a, x, rfl, ha, rfl, mset_at _ _ _⟩
      · rename_i hne
        have hi' : i < es.toList.length := by simpa using hi
        have hym : y ∈ es.toList := by rw [← hyi]; exact List.getElem_mem _
        obtain ⟨a', x', g1, g2, g3, g4⟩ := hr y hym
        refine ⟨a', x', g1, g2, g3, ?_⟩
        rw [mset_ne]
        · exact g4
        · rintro rfl
          have e1 : es.toList[i].key = es.toList[j].key := by
            rw [hyi, g1]
            have : es.toList[j] = e0 := by have := List.getElem?_eq_getElem hjl; rw [h2] at this; exact (Option.some.inj this).symm
            rw [this, h3]
          rcases Nat.lt_or_gt_of_ne (fun e => hne e) with hlt | hlt
          · exact (List.pairwise_iff_getElem.1 hd j i hjl hi' hlt) e1.symm
          · exact (List.pairwise_iff_getElem.1 hd i j hi' hjl hlt) e1
    · intro a' x' hfa
      rw [hlist]
      by_cases e : a' = a
      · subst e
        exact ⟨_, List.mem_of_getElem? (by rw [List.getElem?_set_self hjl]), rfl⟩
      · rw [mset_ne _ _ _ _ e] at hfa
        obtain ⟨y, hy, hk⟩ := hc a' x' hfa
        have : y.key ∈ (es.toList.set j { e0 with key := kv a, val := vv x }).map MapEntry.key := by rw [hkm]; exact List.mem_map_of_mem hy
        obtain ⟨y', hy', e'⟩ := List.mem_map.1 this
        exact ⟨y', hy', e'.trans hk⟩

/-! ### at the operation, for the walk -/
theorem wpList_lookup_mp {ops : Array Oper} {rest : List Oper} {o : Oper} {a : Act} {Q : Exit → Act → World → Prop}
    (hg : o.guard = none) (m x : Operand) (t : TypeId) (c : Bool) (hop : o.op = Op.lookup t m x c) (e : TypeId) (K : KeyBy P k kv ok) (ht : P.underlying t = some (.map k e)) (z : Value) (hz : (zeroValue e).run P w = .ok z w)
    (b : Nat) (f : α → Option β) (hm : a.eval m = .map (some b)) (hown : Mp kv ok vv w b f) (key : α) (hx : a.eval x = kv key) (hkey : ok key) (r : Value)
    (hr : (match f key with | some x => if c then .tuple #[vv x, .bool true] else vv x | none => if c then .tuple #[z, .bool false] else z) = r)
    (hK : wpList P ops Q rest (a.put o.dst r) w) : wpList P ops Q (o :: rest) a w := by
  refine wpList_plain hg fun K' hK' => ?_
  have hrun := hown.look K ht hz key hkey c
  rw [hr] at hrun
  unfold Oper.wp
  simp [execOp, hop, hm, hx, hrun, Result.andThen]
  exact hK' _ _ hK
theorem wpList_update_mp [DecidableEq α] {ops : Array Oper} {rest : List Oper} {o : Oper} {a : Act} {Q : Exit → Act → World → Prop}
    (hg : o.guard = none) (m x v : Operand) (t : TypeId) (hop : o.op = Op.mapUpdate t m x v) (e : TypeId) (K : KeyBy P k kv ok) (ht : P.underlying t = some (.map k e))
    (b : Nat) (f : α → Option β) (hm : a.eval m = .map (some b)) (hown : Mp kv ok vv w b f) (key : α) (hx : a.eval x = kv key) (hkey : ok key) (val : β) (hv : a.eval v = vv val)
    (hK : ∀ w', Mp kv ok vv w' b (mset f key val) → w.mapTurned w' b → wpList P ops Q rest (a.put o.dst undef) w') : wpList P ops Q (o :: rest) a w := by
  refine wpList_plain hg fun K' hK' => ?_
  obtain ⟨w', hrun, r1, r2⟩ := hown.store K ht key hkey val
  unfold Oper.wp
  simp [execOp, hop, hm, hx, hv, hrun, Result.andThen]
  exact hK' _ _ (hK w' r1 r2)
variable {F : Fence} {nF : Nat}
theorem wpListIn_lookup_mp {ops : Array Oper} {rest : List Oper} {o : Oper} {a : Act} {Q : Exit → Act → World → Prop}
    (hg : o.guard = none) (m x : Operand) (t : TypeId) (c : Bool) (hop : o.op = Op.lookup t m x c) (e : TypeId) (K : KeyBy P k kv ok) (ht : P.underlying t = some (.map k e)) (z : Value) (hz : (zeroValue e).run P w = .ok z w)
    (b : Nat) (f : α → Option β) (hm : a.eval m = .map (some b)) (hown : Mp kv ok vv w b f) (key : α) (hx : a.eval x = kv key) (hkey : ok key) (r : Value)
    (hr : (match f key with | some x => if c then .tuple #[vv x, .bool true] else vv x | none => if c then .tuple #[z, .bool false] else z) = r)
    (hK : wpListIn F nF P ops Q rest (a.put o.dst r) w) : wpListIn F nF P ops Q (o :: rest) a w := by
  refine wpListIn_plain hg fun K' hK' => ?_
  have hrun := hown.look K ht hz key hkey c
  rw [hr] at hrun
  unfold Oper.wpIn
  refine ⟨by simp [Oper.about, hop], ?_⟩
  rw [Oper.semAt_plain F _ _ (by rw [hop]; intro c hc'; cases hc')]
  simp [execOp, hop, hm, hx, hrun, Result.andThen]
  exact hK' _ _ hK
theorem wpListIn_update_mp [DecidableEq α] {ops : Array Oper} {rest : List Oper} {o : Oper} {a : Act} {Q : Exit → Act → World → Prop}
    (hg : o.guard = none) (m x v : Operand) (t : TypeId) (hop : o.op = Op.mapUpdate t m x v) (e : TypeId) (K : KeyBy P k kv ok) (ht : P.underlying t = some (.map k e))
    (b : Nat) (f : α → Option β) (hm : a.eval m = .map (some b)) (hown : Mp kv ok vv w b f) (key : α) (hx : a.eval x = kv key) (hkey : ok key) (val : β) (hv : a.eval v = vv val)
    (hK : ∀ w', Mp kv ok vv w' b (mset f key val) → w.mapTurned w' b → wpListIn F nF P ops Q rest (a.put o.dst undef) w') : wpListIn F nF P ops Q (o :: rest) a w := by
  refine wpListIn_plain hg fun K' hK' => ?_
  obtain ⟨w', hrun, r1, r2⟩ := hown.store K ht key hkey val
  unfold Oper.wpIn
  refine ⟨by simp [Oper.about, hop], ?_⟩
  rw [Oper.semAt_plain F _ _ (by rw [hop]; intro c hc'; cases hc')]
  simp [execOp, hop, hm, hx, hv, hrun, Result.andThen]
  exact hK' _ _ (hK w' r1 r2)
end
end Go.Proofs.YthelgembcfdhdaaGreat
namespace Go.Proofs.YthelgembcfdhdaaGreat
open Go.RowKit Go.Sort Go.Shelf Go.ChangeMaps Go.MapKept Go.Maps

/-! ### Sorting -/
theorem heap_srtB {w : World} {g n : Nat} {os : Array Obj} {cur : Array Value} {e : TypeId} {fr : Nat × Nat} (d : Array ByteArray) (hb : w.heap[g]? = some (.cells cur e fr)) :
    (grow (putRow Value.string (Sort.ahead w n) g 0 d) os).heap[g]? = some (.cells (putCells Value.string 0 d cur) e fr) := by
  have hg : g < w.heap.size := (Array.getElem?_eq_some_iff.1 hb).1
  rw [heap_grow_old _ _ (by simpa using hg)]
  simp [putRow, mapBlock, Sort.ahead, Array.getElem?_modify, hb, onCells]
theorem grown_srtB {w : World} {g n : Nat} {os : Array Obj} (d : Array ByteArray) : w.grownBy (grow (putRow Value.string (Sort.ahead w n) g 0 d) os) (some g) := by
  refine ⟨rfl, rfl, rfl, by simp, fun k hk hne => ?_⟩
  rw [heap_grow_old _ _ (by simpa using hk)]
  have : g ≠ k := fun e => hne (by rw [e])
  simp [putRow, mapBlock, Sort.ahead, Array.getElem?_modify, this]
theorem take_srtB (cur : Array Value) (ts : List ByteArray) (h : ts.length ≤ cur.size) : (putCells Value.string 0 ts.toArray cur).toList.take ts.length = ts.map Value.string := by
  apply List.ext_getElem?
  intro j
  by_cases hj : j < ts.length
  · rw [List.getElem?_take_of_lt hj, Array.getElem?_toList]
    simp [putCells, hj, show j < cur.size by omega]
  · rw [List.getElem?_take_eq_none (by omega), List.getElem?_eq_none (by simp; omega)]
theorem oneS : OneCell Value.string := by intro x; rfl
/-- A slice of words of the call's own is sorted by 'order'. -/
theorem sortB_own (l : List ByteArray) (B n : Nat) (v : Value) (w : World) (h : w.ownsRow B 9 1 v n (l.map Value.string)) (hn : n ≤ 100000) :
    Calls Tryz.prog 22 #[v, .func (.func 23) #[] #[]] w fun e w' => e = .returned (.tuple #[]) ∧ w'.ownsRow B 9 1 v n ((l.mergeSort (fun x y => !(ltOf ordB) y x)).map Value.string) ∧ w.grownBy w' v.ownBlock := by
  have hl : l.length = n := by have := h.1; simpa using this
  subst hl
  rcases h.2 with ⟨rfl, h0⟩ | ⟨g, cap, cur, rfl, hg, hh, hc, hcm, hs, ht⟩
  · have hl0 : l = [] := by cases l with
      | nil => rfl
      | cons a l => simp at h0
    subst hl0
    refine (Tryz.slices_SortFunc_none (α := ByteArray) none 0 _ w).mono ?_
    rintro e w' ⟨rfl, rfl⟩
    exact ⟨rfl, by simpa using h, World.grownBy.refl _ _⟩
  · have eg : ∀ args w, (callFunc 23 args).run Tryz.prog w = .ok (.enter 23 args) w := enters_of Tryz.func23 (by kernel_rfl) rfl
    have hH : Holds Value.string w g 0 l.toArray := by
      intro j hj
      have hj' : j < l.length := by simpa using hj
      refine ⟨?_, by simp [World.frozen?, hh]⟩
      have h1 : (cur.toList.take l.length)[j]? = (l.map Value.string)[j]? := by rw [show l.length = l.length * 1 by omega, ht]
      rw [List.getElem?_take_of_lt hj'] at h1
      simp only [World.cell?, hh, Nat.zero_add]
      rw [← Array.getElem?_toList, h1]
      simp [hj']
    have hcmp : CmpLays1 Tryz.prog 23 #[] Value.string ordB g 0 l.toArray.size w := fun m os dk hs' x y => by
      refine (fOrder_any x y _).mono ?_
      rintro e w' ⟨rfl, rfl⟩
      exact ⟨rfl, Up.alloc _ _⟩
    have hcon := Tryz.slices_SortFunc_total Value.string oneS ordB swoB 23 #[] g 0 cap l.toArray w eg hcmp hH (Array.getElem?_eq_some_iff.1 hh).1 (by simp; omega) totB
    have hcon' : Calls Tryz.prog 22 #[.slice (some ⟨g, 0, none⟩) l.toArray.size cap, .func (.func 23) #[] #[]] w _ := hcon
    rw [show l.toArray.size = l.length by simp] at hcon'
    refine hcon'.mono ?_
    rintro e' w' ⟨rfl, q, os, rfl⟩
    have hml : (l.mergeSort (fun x y => !(ltOf ordB) y x)).length = l.length := List.length_mergeSort l
    exact ⟨rfl, ⟨by simp [hml], .inr ⟨g, cap, _, rfl, hg, heap_srtB _ hh, hc, hcm, by simp [putCells, hs], by rw [Nat.mul_one, ← hml]; exact take_srtB cur _ (by omega)⟩⟩, grown_srtB _⟩

/-! ### Maps -/
theorem keyS : KeyBy Tryz.prog 9 Value.string (fun s => s.size ≤ maxLen) where
  law := string_keyed Tryz.underlying9
  reads := fun a ha => ⟨.string a.data.toList, by simp [keyOf, Tryz.underlying9, mapKey, ha]⟩
  inj := fun a b _ _ h => by cases h; rfl
/-- The entries' numbers. -/
def Bn (w : World) (b : Nat) : Prop := ∃ es clock, w.heap[b]? = some (.map es clock) ∧ (es.toList.map (·.born)).Nodup ∧ ∀ e ∈ es.toList, e.born < clock
theorem Bn.same {w w' : World} {b : Nat} (h : Bn w b) (hb : w'.heap[b]? = w.heap[b]?) : Bn w' b := by
  obtain ⟨es, clock, h1, h2⟩ := h
  exact ⟨es, clock, hb.trans h1, h2⟩
theorem Bn.made (w : World) : Bn (w.alloc (.map #[] 0)) w.heap.size := ⟨#[], 0, heap_alloc_new w _, by simp, by simp⟩
def vT (_ : Unit) : Value := .bool true
def MpT (w : World) (b : Nat) (f : ByteArray → Option Unit) : Prop := Mp Value.string (fun s => s.size ≤ maxLen) vT w b f ∧ Bn w b
theorem MpT.same {w w' : World} {b : Nat} {f : ByteArray → Option Unit} (h : MpT w b f) (hb : w'.heap[b]? = w.heap[b]?) : MpT w' b f := ⟨h.1.same hb, h.2.same hb⟩
theorem MpT.lt {w : World} {b : Nat} {f : ByteArray → Option Unit} (h : MpT w b f) : b < w.heap.size := h.1.lt
theorem MpT.made (w : World) : MpT (w.alloc (.map #[] 0)) w.heap.size (fun _ => none) := ⟨Mp.made w, Bn.made w⟩
def msetB (f : ByteArray → Option Unit) (a : ByteArray) : ByteArray → Option Unit := fun a' => if a' = a then some () else f a'
theorem MpT.store {w : World} {b : Nat} {f : ByteArray → Option Unit} (h : MpT w b f) (a : ByteArray) (ha : a.size ≤ maxLen) :
    ∃ w', (Instr.mapUpdate 61 (.map (some b)) (.string a) (.bool true)).run Tryz.prog w = .ok () w' ∧ MpT w' b (msetB f a) ∧ w.mapTurned w' b := by
  classical
  obtain ⟨w', hrun, h2, h3⟩ := Mp.store (t := 61) h.1 keyS Tryz.underlying61 a ha ()
  refine ⟨w', hrun, ⟨?_, ?_⟩, h3⟩
  · refine Mp.congr h2 (fun a' => ?_)
    unfold mset msetB
    by_cases e : a' = a
    · simp [e]
    · simp [e]
  · obtain ⟨es, clock, hb, hd, hr, hc⟩ := h.1
    obtain ⟨es', clock', hb', hbn, hbl⟩ := h.2
    rw [hb] at hb'; cases hb'
    obtain ⟨kl, hkey⟩ := keyS.reads a ha
    have hkeys : ∀ e ∈ es.toList, ∃ l, keyOf Tryz.prog 9 e.key = some l := fun e he => by
      obtain ⟨a', x, h1, h2, _⟩ := hr e he
      rw [h1]; exact keyS.reads a' h2
    have hrun' : (Instr.mapUpdate 61 (.map (some b)) (.string a) (vT ())).run Tryz.prog w = .ok () w' := hrun
    rcases keyS.law.find w hkey es.toList hkeys with ⟨h1, _⟩ | ⟨j, e0, h1, h2', h3'⟩
    · have hr2 : (Instr.mapUpdate 61 (.map (some b)) (.string a) (vT ())).run Tryz.prog w = .ok () (setBlock w b (.map (es.push ⟨.string a, vT (), clock⟩) (clock + 1))) := by
        simp [Instr.mapUpdate, run_underlying Tryz.underlying61, MapKept.run_getObj_map hb, keyS.law.check w false hkey, h1, MapKept.run_setObj_map _ hb, Result.andThen, setBlock]
      rw [hrun'] at hr2
      cases hr2
      refine ⟨_, _, heap_setBlock_same hb _, ?_, ?_⟩
      · rw [Array.toList_push, List.map_append, List.nodup_append]
        refine ⟨hbn, by simp, ?_⟩
        intro x hx y hy
        simp at hy; subst hy
        obtain ⟨e, he, rfl⟩ := List.mem_map.1 hx
        have := hbl e he; omega
      · intro e he
        rw [Array.toList_push, List.mem_append, List.mem_singleton] at he
        rcases he with he | rfl
        · have := hbl e he; omega
        · show clock < clock + 1
          omega
    · have hj : es[j]? = some e0 := by simpa using h2'
      have hst := keyS.law.stays w hkey
      have hr2 : (Instr.mapUpdate 61 (.map (some b)) (.string a) (vT ())).run Tryz.prog w = .ok () (setBlock w b (.map (es.modify j (fun e' => { e' with key := .string a, val := vT () })) clock)) := by
        simp [Instr.mapUpdate, run_underlying Tryz.underlying61, MapKept.run_getObj_map hb, keyS.law.check w false hkey, h1, hj, h3', hst, MapKept.run_setObj_map _ hb, Result.andThen, setBlock]
      rw [hrun'] at hr2
      cases hr2
      have hlist : (es.modify j (fun e' => { e' with key := .string a, val := vT () })).toList = es.toList.set j { e0 with key := .string a, val := vT () } := by rw [Array.toList_modify, modify_eq_set _ _ _ _ h2']
      have hbm : (es.toList.set j { e0 with key := .string a, val := vT () }).map (·.born) = es.toList.map (·.born) := by
        rw [List.map_set]
        apply List.ext_getElem?
        intro i
        rw [List.getElem?_set]
        split
        · rename_i hi; subst hi
          have hjl : j < es.toList.length := (List.getElem?_eq_some_iff.1 h2').1
          rw [if_pos (by simpa using hjl), List.getElem?_map, h2']
          rfl
        · rfl
      refine ⟨_, _, heap_setBlock_same hb _, by rw [hlist, hbm]; exact hbn, ?_⟩
      intro e he
      have : e.born ∈ (es.toList.set j { e0 with key := .string a, val := vT () }).map (·.born) := by rw [← hlist]; exact List.mem_map_of_mem he
      rw [hbm] at this
      obtain ⟨e', he', hb'⟩ := List.mem_map.1 this
      rw [← hb']; exact hbl e' he'
end Go.Proofs.YthelgembcfdhdaaGreat
namespace Go.Proofs.YthelgembcfdhdaaGreat
open Go.RowKit Go.Sort Go.Shelf Go.ChangeMaps Go.MapKept Go.Maps

/-- Block r ranges over the map in block b; ks: the keys that have come. -/
def RgT (w : World) (b r : Nat) (ks : List ByteArray) (f : ByteArray → Option Unit) : Prop :=
  ∃ (es : Array MapEntry) (clock : Nat) (seen : Array Nat) (vis : List MapEntry), w.heap[b]? = some (.map es clock) ∧ w.heap[r]? = some (.mapIter (some b) clock seen clock) ∧ (es.toList.map (·.born)).Nodup ∧ (∀ e ∈ es.toList, e.born < clock) ∧
    es.toList.Pairwise (fun x y => x.key ≠ y.key) ∧ (∀ e ∈ es.toList, ∃ s, e.key = .string s ∧ s.size ≤ maxLen ∧ e.val = .bool true ∧ f s = some ()) ∧ (∀ s, f s = some () → ∃ e ∈ es.toList, e.key = .string s) ∧
    ks.map Value.string = vis.map (·.key) ∧ seen.toList = vis.map (·.born) ∧ (∀ e ∈ vis, e ∈ es.toList)
/-- How many entries are to come. -/
def rgLeft (w : World) (b r : Nat) : Nat := match w.heap[b]?, w.heap[r]? with
  | some (.map es _), some (.mapIter _ _ seen _) => (leftOf es seen).size
  | _, _ => 0
theorem rgLeft_eq {w w' : World} {b r : Nat} (hb : w'.heap[b]? = w.heap[b]?) (hr : w'.heap[r]? = w.heap[r]?) : rgLeft w' b r = rgLeft w b r := by unfold rgLeft; rw [hb, hr]
theorem RgT.same {w w' : World} {b r : Nat} {ks : List ByteArray} {f : ByteArray → Option Unit} (h : RgT w b r ks f) (hb : w'.heap[b]? = w.heap[b]?) (hr : w'.heap[r]? = w.heap[r]?) : RgT w' b r ks f := by
  obtain ⟨es, clock, seen, vis, h1, h2, h3⟩ := h
  exact ⟨es, clock, seen, vis, hb.trans h1, hr.trans h2, h3⟩
theorem RgT.lt {w : World} {b r : Nat} {ks : List ByteArray} {f : ByteArray → Option Unit} (h : RgT w b r ks f) : b < w.heap.size ∧ r < w.heap.size ∧ b ≠ r := by
  obtain ⟨es, clock, seen, vis, h1, h2, h3⟩ := h
  refine ⟨(Array.getElem?_eq_some_iff.1 h1).1, (Array.getElem?_eq_some_iff.1 h2).1, ?_⟩
  rintro rfl
  rw [h1] at h2; cases h2
theorem RgT.iter {w : World} {b r : Nat} {ks : List ByteArray} {f : ByteArray → Option Unit} (h : RgT w b r ks f) : ∃ o, w.heap[r]? = some o ∧ o.isCells = false ∧ o.isWalk = true := by
  obtain ⟨es, clock, seen, vis, h1, h2, h3⟩ := h
  exact ⟨_, h2, rfl, rfl⟩
theorem RgT.mapO {w : World} {b r : Nat} {ks : List ByteArray} {f : ByteArray → Option Unit} (h : RgT w b r ks f) : ∃ o, w.heap[b]? = some o ∧ o.isCells = false := by
  obtain ⟨es, clock, seen, vis, h1, h2, h3⟩ := h
  exact ⟨_, h1, rfl⟩
theorem RgT.map {w : World} {b r : Nat} {ks : List ByteArray} {f : ByteArray → Option Unit} (h : RgT w b r ks f) : Mp Value.string (fun s => s.size ≤ maxLen) vT w b f := by
  obtain ⟨es, clock, seen, vis, h1, h2, h3, h4, h5, h6, h7, h8⟩ := h
  exact ⟨es, clock, h1, h5, fun e he => by obtain ⟨s, k1, k2, k3, k4⟩ := h6 e he; exact ⟨s, (), k1, k2, k3, k4⟩, fun a x ha => by cases x; exact h7 a ha⟩
/-- The range begins. -/
theorem RgT.start {w : World} {b : Nat} {f : ByteArray → Option Unit} (h : MpT w b f) :
    ∃ w', (Instr.range 61 (.map (some b))).run Tryz.prog w = .ok (.pointer (some ⟨w.heap.size, 0, none⟩)) w' ∧ RgT w' b w.heap.size [] f ∧ w'.heap.size = w.heap.size + 1 ∧ w.grownBy w' none := by
  obtain ⟨es, clock, hb, hd, hr, hc⟩ := h.1
  obtain ⟨es', clock', hb', hbn, hbl⟩ := h.2
  rw [hb] at hb'; cases hb'
  refine ⟨_, run_range_map w 61 9 _ b es clock Tryz.underlying61 hb, ⟨es, clock, #[], [], ?_, heap_alloc_new w _, hbn, hbl, hd, ?_, ?_, rfl, rfl, by simp⟩, World.size_alloc _ _, World.grownBy_alloc w _ none⟩
  · rw [Below.heap_alloc w _ b h.lt]; exact hb
  · intro e he
    obtain ⟨s, x, k1, k2, k3, k4⟩ := hr e he
    cases x
    exact ⟨s, k1, k2, k3, k4⟩
  · intro s hs; exact hc s () hs
theorem setB_at {w : World} {r : Nat} {o o' : Obj} (h : w.heap[r]? = some o) : (setBlock w r o').heap[r]? = some o' := by
  have := (Array.getElem?_eq_some_iff.1 h).1
  simp [setBlock, this]
theorem setB_ne {w : World} {r i : Nat} {o' : Obj} (h : i ≠ r) : (setBlock w r o').heap[i]? = w.heap[i]? := by
  have h' : r ≠ i := fun e => h e.symm
  simp [setBlock, Array.getElem?_setIfInBounds, h']
/-- The range's step. -/
theorem RgT.next {w : World} {b r : Nat} {ks : List ByteArray} {f : ByteArray → Option Unit} (h : RgT w b r ks f) (ty : TypeId) :
    ((∀ s, f s = some () → s ∈ ks) ∧ (Instr.next (.pointer (some ⟨r, 0, none⟩)) false ty).run Tryz.prog w = .ok (.tuple #[.bool false]) w) ∨
    ∃ x w', f x = some () ∧ x ∉ ks ∧ x.size ≤ maxLen ∧ (Instr.next (.pointer (some ⟨r, 0, none⟩)) false ty).run Tryz.prog w = .ok (.tuple #[.bool true, .string x, .bool true]) w' ∧ RgT w' b r (ks ++ [x]) f ∧ rgLeft w' b r < rgLeft w b r ∧
      w.grownBy w' (some r) ∧ w'.heap.size = w.heap.size ∧ (Instr.entry (.pointer (some ⟨r, 0, none⟩))).run Tryz.prog w' = .ok (.tuple #[.string x, .bool true]) w' := by
  have hbr := h.lt
  obtain ⟨es, clock, seen, vis, hb, hr, hbn, hbl, hd, hent, hcov, hks, hseen, hvis⟩ := h
  rcases run_next_at (P := Tryz.prog) w ty r b clock clock seen es clock hr hb hbl (Nat.le_refl _) with ⟨h0, hrun⟩ | ⟨e, he, w1, hw1, hrun⟩
  · refine .inl ⟨fun s hs => ?_, hrun⟩
    obtain ⟨e, he, hk⟩ := hcov s hs
    have hall := all_seen es seen h0 e he
    have hmem : e.born ∈ seen.toList := by simpa using hall
    rw [hseen] at hmem
    obtain ⟨e', he', hbe⟩ := List.mem_map.1 hmem
    have hee : e' = e := by
      have hi := List.mem_iff_getElem.1 (hvis e' he'); have hj := List.mem_iff_getElem.1 he
      obtain ⟨i, hil, hi⟩ := hi; obtain ⟨j, hjl, hj⟩ := hj
      have hij : i = j := by
        have hp := List.pairwise_iff_getElem.1 (show (es.toList.map (·.born)).Pairwise (· ≠ ·) from hbn)
        rcases Nat.lt_trichotomy i j with hlt | heq | hlt
        · exact absurd (by rw [List.getElem_map, List.getElem_map, hi, hj, hbe]) (hp i j (by simpa using hil) (by simpa using hjl) hlt)
        · exact heq
        · exact absurd (by rw [List.getElem_map, List.getElem_map, hi, hj, hbe]) (hp j i (by simpa using hjl) (by simpa using hil) hlt)
      subst hij
      rw [← hi, ← hj]
    subst hee
    have : Value.string s ∈ vis.map (·.key) := by rw [← hk]; exact List.mem_map_of_mem he'
    rw [← hks] at this
    obtain ⟨s', hs', e⟩ := List.mem_map.1 this
    cases e
    exact hs'
  · obtain ⟨hes, hns⟩ := mem_left he
    obtain ⟨x, k1, k2, k3, k4⟩ := hent e hes
    have hw1h : w1.heap = w.heap := by rcases hw1 with rfl | rfl <;> rfl
    have hr1 : w1.heap[r]? = some (.mapIter (some b) clock seen clock) := by rw [hw1h]; exact hr
    have hb2 : (setBlock w1 r (.mapIter (some b) clock (seen.push e.born) clock)).heap[b]? = some (.map es clock) := by
      rw [setB_ne (fun e => hbr.2.2 e)]; rw [hw1h]; exact hb
    have hr2 : (setBlock w1 r (.mapIter (some b) clock (seen.push e.born) clock)).heap[r]? = some (.mapIter (some b) clock (seen.push e.born) clock) := setB_at hr1
    refine .inr ⟨x, _, k4, ?_, k2, by rw [k1, k3] at hrun; exact hrun, ⟨es, clock, seen.push e.born, vis ++ [e], hb2, hr2, hbn, hbl, hd, hent, hcov, by simp [hks, k1], by simp [hseen], ?_⟩, ?_, ?_, ?_, ?_⟩
    · intro hx
      have : Value.string x ∈ vis.map (·.key) := by rw [← hks]; exact List.mem_map_of_mem hx
      obtain ⟨e', he', hk'⟩ := List.mem_map.1 this
      have hee : e' = e := by
        obtain ⟨i, hil, hi⟩ := List.mem_iff_getElem.1 (hvis e' he'); obtain ⟨j, hjl, hj⟩ := List.mem_iff_getElem.1 hes
        rcases Nat.lt_trichotomy i j with hlt | heq | hlt
        · exact absurd (by rw [hi, hj, hk', k1]) (List.pairwise_iff_getElem.1 hd i j hil hjl hlt)
        · subst heq; rw [← hi, ← hj]
        · exact absurd (by rw [hi, hj, hk', k1]) (List.pairwise_iff_getElem.1 hd j i hjl hil hlt)
      subst hee
      have hc : seen.contains e'.born = true := by
        have : e'.born ∈ seen.toList := by rw [hseen]; exact List.mem_map_of_mem he'
        simpa using this
      rw [hc] at hns; cases hns
    · intro e' he'
      rcases List.mem_append.1 he' with he' | he'
      · exact hvis e' he'
      · rw [List.mem_singleton.1 he']; exact hes
    · unfold rgLeft
      rw [hb2, hr2, hb, hr]
      exact left_shrinks es seen e he
    · refine ⟨?_, ?_, ?_, ?_, ?_⟩
      all_goals first
        | (rcases hw1 with rfl | rfl <;> rfl)
        | skip
      · rw [show (setBlock w1 r (.mapIter (some b) clock (seen.push e.born) clock)).heap.size = w1.heap.size by simp [setBlock], hw1h]; exact Nat.le_refl _
      · intro i hi hne
        rw [setB_ne (fun e => hne (by rw [e])), hw1h]
    · rw [show (setBlock w1 r (.mapIter (some b) clock (seen.push e.born) clock)).heap.size = w1.heap.size by simp [setBlock], hw1h]
    · have := run_entry_at (P := Tryz.prog) (setBlock w1 r (.mapIter (some b) clock (seen.push e.born) clock)) r b clock seen es clock e hr2 hb2 hes hbn
      rw [k1, k3] at this
      exact this
theorem look_bool {w : World} {b : Nat} {f : ByteArray → Option Unit} (h : Mp Value.string (fun s => s.size ≤ maxLen) vT w b f) (u : ByteArray) (hu : u.size ≤ maxLen) :
    (Instr.lookup 61 (.map (some b)) (.string u) false).run Tryz.prog w = .ok (.bool (f u).isSome) w := by
  have := h.look (t := 61) keyS Tryz.underlying61 (z := .bool false) (by kernel_rfl) u hu false
  cases hf : f u <;> rw [hf] at this <;> exact this
end Go.Proofs.YthelgembcfdhdaaGreat
namespace Go.Proofs.YthelgembcfdhdaaGreat
open Go.RowKit

/-! ### Marks among the deferred calls -/
/-- Cells are as they were; nothing below B has turned. -/
structure KC (B : Nat) (W W' : World) : Prop where
  below : Below B W W'
  cells : ∀ (k : Nat) (o : Obj), W.heap[k]? = some o → o.isCells = true → W'.heap[k]? = some o
theorem KC.refl (B : Nat) (W : World) : KC B W W := ⟨Below.refl _ _, fun _ _ h _ => h⟩
theorem KC.trans {B : Nat} {X Y Z : World} (h : KC B X Y) (k : KC B Y Z) : KC B X Z := ⟨h.below.trans k.below, fun i o hi ho => k.cells i o (h.cells i o hi ho) ho⟩
theorem KC.sl {α : Type} {B : Nat} {W W' : World} {enc : α → Value} {p : Option Addr} {l : List α} (h : KC B W W') (hs : Sl W enc p l) : Sl W' enc p l := by
  rcases hs with hs | ⟨b, off, hp, hb, hc⟩
  · exact .inl hs
  · by_cases hl : l = []
    · exact .inl hl
    · refine .inr ⟨b, off, hp, Nat.lt_of_lt_of_le hb h.below.size, fun i hi => ?_⟩
      obtain ⟨o, ho, hk⟩ := cells_of_cell (hc i hi)
      exact (World.cell?_of_block (w := W) (a := ⟨b, off + i, none⟩) ((h.cells b o ho hk).trans ho.symm)).trans (hc i hi)
def Marks (B : Nat) (W : World) : List Deferred → Prop
  | [] => True
  | d :: ds => (∃ D, d = { target := .collected D, args := #[] } ∧ B ≤ D ∧ W.heap[D]? = some (.deferred (some [])) ∧ ∀ d' ∈ ds, d'.target ≠ .collected D) ∧ Marks B W ds
theorem Marks.lt {B : Nat} {W : World} : ∀ {ds : List Deferred}, Marks B W ds → ∀ d ∈ ds, ∃ D, d.target = .collected D ∧ D < W.heap.size
  | [], _, _, h => by cases h
  | _ :: _, ⟨⟨D, hd, _, hk, _⟩, hr⟩, d', h => by
    rcases List.mem_cons.1 h with h | h
    · subst h; subst hd; exact ⟨D, rfl, (Array.getElem?_eq_some_iff.1 hk).1⟩
    · exact Marks.lt hr d' h
theorem Marks.keep {B : Nat} {W W' : World} : ∀ {ds : List Deferred}, Marks B W ds → (∀ D, B ≤ D → W.heap[D]? = some (.deferred (some [])) → (∃ d ∈ ds, d.target = .collected D) → W'.heap[D]? = some (.deferred (some []))) → Marks B W' ds
  | [], _, _ => trivial
  | _ :: _, ⟨⟨D, hd, hB, hk, hn⟩, hr⟩, h =>
    ⟨⟨D, hd, hB, h D hB hk ⟨_, List.mem_cons_self, by rw [hd]⟩, hn⟩, hr.keep (fun D' h1 h2 ⟨d, hd', ht⟩ => h D' h1 h2 ⟨d, List.mem_cons_of_mem _ hd', ht⟩)⟩
theorem Marks.others {B : Nat} {W W' : World} {ds : List Deferred} (h : Marks B W ds) (k : KeepsOthers W W') : Marks B W' ds := h.keep (fun D _ hk _ => k.same D _ hk rfl)
theorem Marks.cons {B D : Nat} {W : World} {ds : List Deferred} (h : Marks B W ds) (hB : B ≤ D) (hk : W.heap[D]? = some (.deferred (some []))) (hn : ∀ d ∈ ds, ∃ D', d.target = .collected D' ∧ D' < D) :
    Marks B W ({ target := .collected D, args := #[] } :: ds) :=
  ⟨⟨D, rfl, hB, hk, fun d hd e => by
    obtain ⟨D', h1, h2⟩ := hn d hd
    rw [h1] at e; cases e; omega⟩, h⟩
theorem leaves_marks {F : Fence} {n : Nat} {P : Program} {fn : Func} {tmps : Array Value} {R : Ending → World → Prop} {B : Nat} :
    ∀ (ds : List Deferred) (W : World), Marks B W ds → (∀ W', KC B W W' → LeavesInM F n P fn tmps R [] .returning W') → LeavesInM F n P fn tmps R ds .returning W
  | [], W, _, h => h W (KC.refl _ _)
  | d :: ds, W, ⟨⟨D, hd, hB, hk, hn⟩, hr⟩, h => by
    subst hd
    have hp : KC B W (W.putObj D (.deferred none)) := by
      refine ⟨⟨rfl, rfl, rfl, by simp, fun i hi => World.putObj_heap_other (by omega)⟩, fun i o hi ho => ?_⟩
      rw [World.putObj_heap_other (by rintro rfl; rw [hk] at hi; cases hi; cases ho)]
      exact hi
    refine ⟨by simp, .inl ⟨D, _, rfl, run_takeDeferred hk, ?_⟩⟩
    refine leaves_marks ds _ (hr.keep (fun D' _ hk' hm => ?_)) (fun W' hW' => h W' (hp.trans hW'))
    obtain ⟨d', hd', ht⟩ := hm
    rw [World.putObj_heap_other (by rintro rfl; exact hn d' hd' ht)]
    exact hk'
theorem grownBy_trans {A B C : World} {r : Option Nat} (h : A.grownBy B r) (k : B.grownBy C r) : A.grownBy C r :=
  ⟨k.os.trans h.os, k.tape.trans h.tape, k.output.trans h.output, Nat.le_trans h.size k.size, fun i hi hr => (k.block i (Nat.lt_of_lt_of_le hi h.size) hr).trans (h.block i hi hr)⟩
theorem grownBy_own {β : Type} (W0 : World) (c : Nat) : OwnFrom W0.heap.size (fun (_ : β) W => W0.grownBy W (some c)) := fun _ X Y row hs hg hr =>
  ⟨hg.os.trans hs.os, hg.tape.trans hs.tape, hg.output.trans hs.output, Nat.le_trans hs.size hg.size, fun i hi hc =>
    (hg.block i (Nat.lt_of_lt_of_le hi hs.size) (fun e => by have := (hr i e.symm).1; omega)).trans (hs.block i hi hc)⟩
theorem grownBy_refl (W : World) (r : Option Nat) : W.grownBy W r := ⟨rfl, rfl, rfl, Nat.le_refl _, fun _ _ _ => rfl⟩
theorem Marks.grown {B c : Nat} {W W' : World} {ds : List Deferred} {o : Obj} (h : Marks B W ds) (hg : W.grownBy W' (some c)) (hc : W.heap[c]? = some o) (ho : o.isCells = true) : Marks B W' ds :=
  h.keep (fun D _ hk _ => by
    rw [hg.block D (Array.getElem?_eq_some_iff.1 hk).1 (by rintro ⟨rfl⟩; rw [hk] at hc; cases hc; cases ho)]; exact hk)

theorem Marks.appended {B base e n size : Nat} {V w1 : World} {ds : List Deferred} {ov : Value} {xs : List Value} {o : Obj} (h : Marks B V ds) (hown : V.ownsRow base e size ov n xs) (hg : (V.alloc o).grownBy w1 ov.ownBlock) : Marks B w1 ds :=
  h.keep (fun D _ hk _ => by
    have hD := (Array.getElem?_eq_some_iff.1 hk).1
    rw [hg.block D (by simp; omega) ?_, Below.heap_alloc V o D hD]; exact hk
    intro e
    rcases hown.2 with ⟨rfl, _⟩ | ⟨g, cap, cur, rfl, _, hgb, _⟩
    · simp [Value.ownBlock] at e
    · obtain rfl : D = g := by simpa [Value.ownBlock] using e
      rw [hk] at hgb; cases hgb)
end Go.Proofs.YthelgembcfdhdaaGreat
