/-
  Rows of edges: what the sort's words and the call's own say of them; copies, sorted copies.
-/
import Derived.Test.YtlgjhmenjfmpfaaGa
import Derived.Test.YtlgjhmenjfmpfaaShelfQ
namespace Go.Proofs.Ytlgjhmenjfmpfaa
open Go.RowKit Go.Sort Go.Shelf Go.Lib

def cat (l : List Ed) : List Value := l.flatMap edE
theorem cat_len (l : List Ed) : (cat l).length = l.length * 3 := by
  induction l with
  | nil => rfl
  | cons x l ih => simp only [cat, List.flatMap_cons, List.length_append, List.length_cons] at *; rw [ih]; simp [edE]; omega
theorem flat_at {α β : Type} {enc : α → List β} {m : Nat} (hm : ∀ x, (enc x).length = m) : ∀ (l : List α) (i : Nat) (hi : i < l.length) (j : Nat), j < m → (l.flatMap enc)[i * m + j]? = (enc l[i])[j]?
  | [], i, hi, _, _ => by simp at hi
  | x :: l, 0, _, j, hj => by
    rw [List.flatMap_cons, Nat.zero_mul, Nat.zero_add, List.getElem?_append_left (by rw [hm]; exact hj)]; rfl
  | x :: l, i + 1, hi, j, hj => by
    rw [List.flatMap_cons, List.getElem?_append_right (by rw [hm, Nat.succ_mul]; omega), hm, show (i + 1) * m + j - m = i * m + j by rw [Nat.succ_mul]; omega]
    exact flat_at hm l i (by simpa using hi) j hj
theorem cat_get (l : List Ed) (i : Nat) (hi : i < l.length) (j : Nat) (hj : j < 3) : (cat l)[i * 3 + j]? = (edE l[i])[j]? := flat_at (enc := edE) (m := 3) (fun _ => rfl) l i hi j hj
theorem cat_app (l m : List Ed) : cat (l ++ m) = cat l ++ cat m := by simp [cat, List.flatMap_append]
theorem cat_one (l : List Ed) : ∀ u ∈ cat l, u.oneCell' = true := by
  intro u hu
  obtain ⟨x, _, hx⟩ := List.mem_flatMap.1 hu
  simp only [edE, List.mem_cons, List.not_mem_nil, or_false] at hx
  rcases hx with rfl | rfl | rfl <;> rfl
/-- Edges that lie in a whole row of a block. -/
theorem Sg.of_row {w : World} {B t : Nat} {l : List Ed} (h : VRow w B t (cat l)) : Sg 3 w edE (some ⟨B, 0, none⟩) l :=
  .inr ⟨B, 0, rfl, h.lt, fun i hi j hj => by rw [Nat.zero_add, h.cell, cat_get l i hi j hj]⟩
theorem own_sg {B e n : Nat} {w : World} {v : Value} {l : List Ed} (h : w.ownsRow B e 3 v n (cat l)) : ∃ p cap, v = .slice p l.length cap ∧ Sg 3 w edE p l ∧ l.length ≤ cap ∧ l.length = n := by
  have hn : l.length = n := by have := h.1; rw [cat_len] at this; omega
  rcases h.2 with ⟨rfl, h0⟩ | ⟨g, cap, cur, rfl, hg, hh, hc, hm, hs, ht⟩
  · subst h0
    have : l = [] := List.length_eq_zero_iff.1 hn
    subst this
    exact ⟨none, 0, rfl, Sg.nil _ _ _ _, by simp, rfl⟩
  · refine ⟨some ⟨g, 0, none⟩, cap, by rw [hn], .inr ⟨g, 0, rfl, (Array.getElem?_eq_some_iff.1 hh).1, fun i hi j hj => ?_⟩, by omega, hn⟩
    have hij : i * 3 + j < n * 3 := by omega
    rw [Nat.zero_add, ← cat_get l i hi j hj, ← ht, List.getElem?_take, if_pos hij]
    simp [World.cell?, hh]
/-! ### The sort's words -/
theorem flatK_cat (l : List Ed) : (flatK edE 3 l.toArray).toList = cat l := by
  apply List.ext_getElem?
  intro t
  by_cases h : t < l.length * 3
  · have h3 : t / 3 < l.length := by omega
    have e1 := cat_get l (t / 3) h3 (t % 3) (by omega)
    rw [show t / 3 * 3 + t % 3 = t by omega] at e1
    rw [e1, Array.getElem?_toList]
    have hlt : t < (flatK edE 3 l.toArray).size := by simp; omega
    rw [Array.getElem?_eq_getElem hlt, ← getElem!_pos (flatK edE 3 l.toArray) t hlt, get_flatK edE 3 l.toArray t (by simpa using h)]
    rw [getElem!_pos l.toArray (t / 3) (by simpa using h3)]
    have : t % 3 < (edE l.toArray[t / 3]).length := by simp [edE]; omega
    rw [getElem!_pos (edE l.toArray[t / 3]) (t % 3) this, ← List.getElem?_eq_getElem this]
    simp
  · rw [List.getElem?_eq_none (by simp; omega), List.getElem?_eq_none (by rw [cat_len]; omega)]
theorem holds_own {w : World} {B e g n cap : Nat} {l : List Ed} (h : w.ownsRow B e 3 (.slice (some ⟨g, 0, none⟩) n cap) n (cat l)) : HoldsK edE 3 w g 0 l.toArray ∧ g < w.heap.size ∧ B ≤ g ∧ l.length = n := by
  have hn : l.length = n := by have := h.1; rw [cat_len] at this; omega
  rcases h.2 with ⟨e0, _⟩ | ⟨g', cap', cur, e0, hg, hh, hc, hm, hs, ht⟩
  · cases e0
  · cases e0
    refine ⟨fun j hj => ?_, (Array.getElem?_eq_some_iff.1 hh).1, hg, hn⟩
    have hj' : j < n * 3 := by simp at hj; omega
    refine ⟨?_, by simp [World.frozen?, hh]⟩
    have e1 : (flatK edE 3 l.toArray).toList[j]? = cur.toList[j]? := by
      rw [flatK_cat, ← ht, List.getElem?_take, if_pos hj']
    rw [Array.getElem?_toList, Array.getElem?_eq_getElem hj] at e1
    rw [getElem!_pos (flatK edE 3 l.toArray) j hj]
    simp [World.cell?, hh]
    rw [Array.getElem?_toList] at e1; exact e1.symm
theorem own_sorted {w : World} {B e g n cap q : Nat} {os : Array Obj} {l m : List Ed} (h : w.ownsRow B e 3 (.slice (some ⟨g, 0, none⟩) n cap) n (cat l)) (hm : m.length = n) :
    (sortWorldK edE 3 w g 0 q m.toArray os).ownsRow B e 3 (.slice (some ⟨g, 0, none⟩) n cap) n (cat m) := by
  rcases h.2 with ⟨e0, _⟩ | ⟨g', cap', cur, e0, hg, hh, hc, hcm, hs, ht⟩
  · cases e0
  · cases e0
    have hlt : g < w.heap.size := (Array.getElem?_eq_some_iff.1 hh).1
    refine ⟨by rw [cat_len, hm], .inr ⟨g, cap, putCells id 0 (flatK edE 3 m.toArray) cur, rfl, hg, ?_, hc, hcm, by simpa [putCells] using hs, ?_⟩⟩
    · have hg' : w.heap[g] = .cells cur e (0, 0) := by have := Array.getElem?_eq_some_iff.1 hh; exact this.2
      simp [sortWorldK, grow, putRowK, putRow, mapBlock, Sort.ahead, Array.getElem?_append, hlt, Array.getElem_modify, hg', onCells]
    · apply List.ext_getElem?
      intro j
      rw [List.getElem?_take, Array.getElem?_toList]
      by_cases hj : j < n * 3
      · have hjc : j < cur.size := by
          have : n * 3 ≤ cap * 3 := Nat.mul_le_mul_right _ hc
          omega
        have hjf : j < (flatK edE 3 m.toArray).size := by simp; omega
        rw [if_pos hj, ← flatK_cat, Array.getElem?_toList, Array.getElem?_eq_getElem hjf]
        simp only [putCells, Array.getElem?_mapIdx, Array.getElem?_eq_getElem hjc, Option.map_some]
        rw [if_pos (by simp; omega)]
        simp only [Nat.sub_zero]
        rw [getElem!_pos (flatK edE 3 m.toArray) j hjf]; rfl
      · rw [if_neg hj, List.getElem?_eq_none (by rw [cat_len]; omega)]
theorem grown_sorted {w : World} {g q : Nat} {os : Array Obj} (d : Array Ed) : w.grownBy (sortWorldK edE 3 w g 0 q d os) (some g) := by
  refine ⟨rfl, rfl, rfl, by simp [sortWorldK, grow, putRowK, putRow, mapBlock, Sort.ahead], fun i hi hne => ?_⟩
  have hne' : g ≠ i := fun e => hne (by rw [e])
  simp [sortWorldK, grow, putRowK, putRow, mapBlock, Sort.ahead, Array.getElem?_append, hi, Array.getElem_modify, hne']

/-! ### Sorted -/
theorem swoE : SWO (ltOf cmpE) where
  irrefl x := by unfold ltOf; rw [cmpE_neg]; exact ltE_irrefl x
  trans x y z h1 h2 := by unfold ltOf at *; rw [cmpE_neg] at *; exact ltE_trans h1 h2
  ntrans x y z h1 h2 := by
    unfold ltOf at *; rw [cmpE_neg] at *
    cases h : ltE x z
    · rfl
    · cases hb : ltE y x
      · have := ltE_total h1 hb; subst this; rw [h2] at h; cases h
      · have := ltE_trans hb h; rw [h2] at this; cases this
theorem totE (x y : Ed) (h1 : ltOf cmpE x y = false) (h2 : ltOf cmpE y x = false) : x = y := by
  unfold ltOf at *; rw [cmpE_neg] at *; exact ltE_total h1 h2
theorem isAggE (w : World) : (isAgg 47).run Try.prog w = .ok true w := by kernel_rfl
theorem sizeOfE (w : World) : (Go.sizeOf 47).run Try.prog w = .ok 3 w := by kernel_rfl
theorem infoE : (Try.prog.info? 47).map (fun i => (i.zero, i.size, i.bytes)) = some (some (.agg #[.int .i64 0, .int .i64 0, .int .i64 0]), 3, 24) := by kernel_rfl
def srtE (l : List Ed) : List Ed := l.mergeSort (fun x y => !ltE y x)
theorem srtE_len (l : List Ed) : (srtE l).length = l.length := List.length_mergeSort l
theorem srtE_eq (l : List Ed) : l.mergeSort (fun x y => !(ltOf cmpE) y x) = srtE l := by
  unfold srtE; congr 1; funext x y; unfold ltOf; rw [cmpE_neg]
theorem sortE_own (l : List Ed) (B e g n cap bf : Nat) (w : World) (h : w.ownsRow B e 3 (.slice (some ⟨g, 0, none⟩) n cap) n (cat l)) (hf : w.cell? ⟨bf, 0, none⟩ = some (.func (.func 58) #[] #[])) (hne : bf ≠ g) (hn : n ≤ 100000) :
    Calls Try.prog 56 #[.slice (some ⟨g, 0, none⟩) n cap, .func (.func 71) #[] #[.pointer (some ⟨bf, 0, none⟩)]] w fun e' w' => e' = .returned (.tuple #[]) ∧ w'.ownsRow B e 3 (.slice (some ⟨g, 0, none⟩) n cap) n (cat (srtE l)) ∧ w.grownBy w' (some g) := by
  obtain ⟨hH, hlt, hBg, hl⟩ := holds_own h
  have eg : ∀ args w, (callFunc 71 args).run Try.prog w = .ok (.enter 71 args) w := enters_of Try.func71 (by kernel_rfl) rfl
  have hcmp : CmpLays Try.prog 71 #[.pointer (some ⟨bf, 0, none⟩)] edE 3 cmpE g 0 l.toArray.size w := fun m os dk hs x y => by
    have hc : (sortWorldK edE 3 w g 0 m dk os).cell? ⟨bf, 0, none⟩ = some (.func (.func 58) #[] #[]) := by
      have hb := World.block_lt_of_cell? w _ hf
      have := (grown_sorted (w := w) (g := g) (q := m) (os := os) dk).block bf hb (fun e => hne (Option.some.inj e))
      simp only [World.cell?] at hf ⊢
      rw [this]; exact hf
    exact gByc_up x y bf _ hc
  have hcon := AnyQ.slices_SortFunc_total Try.laySortE 3 isAggE sizeOfE edE (fun _ => rfl) (fun x v hv => cat_one [x] v (by simpa [cat] using hv)) cmpE swoE 71 #[.pointer (some ⟨bf, 0, none⟩)] g 0 cap l.toArray w eg hcmp hH hlt (by simp; omega) totE
  have hcon' : Calls Try.prog 56 #[.slice (some ⟨g, 0, none⟩) l.toArray.size cap, .func (.func 71) #[] #[.pointer (some ⟨bf, 0, none⟩)]] w _ := hcon
  rw [show l.toArray.size = n by simpa using hl] at hcon'
  refine hcon'.mono ?_
  rintro e' w' ⟨rfl, q, os, rfl⟩
  rw [srtE_eq]
  exact ⟨rfl, own_sorted h (by rw [srtE_len]; exact hl), grown_sorted _⟩

/-! ### Copies -/
/-- Edges in memory of the call's own. -/
def RetOwnE (l : List Ed) (w : World) (e : Ending) (w' : World) : Prop := ∃ v, e = .returned v ∧ w'.ownsRow w.heap.size 47 3 v l.length (cat l) ∧ Below w.heap.size w w'
theorem sg_cells {w : World} {b off : Nat} {l : List Ed} (hc : ∀ i (h : i < l.length) j, j < 3 → w.cell? ⟨b, off + i * 3 + j, none⟩ = (edE l[i])[j]?) : ∀ (j : Nat) (u : Value), (cat l)[j]? = some u → w.cell? ⟨b, off + j, none⟩ = some u := by
  intro j u hu
  have hj : j < (cat l).length := (List.getElem?_eq_some_iff.1 hu).1
  rw [cat_len] at hj
  have h1 := hc (j / 3) (by omega) (j % 3) (by omega)
  have h2 := cat_get l (j / 3) (by omega) (j % 3) (by omega)
  rw [show j / 3 * 3 + j % 3 = j by omega] at h2
  rw [show off + j / 3 * 3 + j % 3 = off + j by omega] at h1
  rw [h1, ← h2, hu]
set_option maxRecDepth 100000 in
theorem cloneE_any (l : List Ed) (p : Option Addr) (c : Nat) (w : World) (hin : Sg 3 w edE p l) (hl : l.length ≤ 100000) :
    Calls Try.prog 55 #[.slice p l.length c] w (RetOwnE l w) := by
  obtain ⟨i0, hi0, hz0, hz1, hz2⟩ := info_parts infoE
  rcases Nat.eq_zero_or_pos l.length with h0 | h0
  · have : l = [] := List.length_eq_zero_iff.1 h0
    subst this
    clear hin
    cases p with
    | none =>
      refine (AnyE.slices_Clone_nil Try.layCloneE 0 c w).mono ?_
      rintro e w' ⟨rfl, rfl⟩
      exact ⟨_, rfl, World.ownsRow_nil _ _ _ _, Below.refl _ _⟩
    | some ad =>
      have q22 : ∀ (w : World) (a : Option Addr) (n c n' c' : Nat), (binOp .eql 22 (.slice a n c) (.slice none n' c')).run Try.prog w = .ok (.bool a.isNone) w := fun w a n c n' c' => Lib.run_eql_slice_nil w _ _ a n c n' c' Try.underlying22
      have hown0 : (w.alloc (.cells #[] 47)).ownsRow w.heap.size 47 3 (.slice (some ⟨w.heap.size, 0, none⟩) 0 0) 0 [] := ⟨rfl, .inr ⟨w.heap.size, _, _, rfl, Nat.le_refl _, heap_alloc_new w _, Nat.le_refl _, by simp, rfl, rfl⟩⟩
      go_enter Try.func55, Try.ntmps55
      go_wp2_with (at_builtin; refine wpList_append_own _ rfl _ _ 22 rfl w.heap.size 47 i0 _ 3 24 Try.underlying22 hi0 hz0 hz1 hz2 rfl (by decide) _ _ _ rfl hown0 ad 0 c [] rfl rfl (by simp) (by simp) (by simp) (by simp) (by simp) ?_; intro v' w1 hown' hgrow _)
      go_ret
      exact ⟨_, rfl, hown', ((Below.refl _ _).alloc (Nat.le_refl _) _).grown hgrow (by simp) (fun j e => by cases e; exact Nat.le_refl _)⟩
  · obtain ⟨b, off, rfl, hb, hc⟩ := hin.get 0 h0
    have hcon := AnyE.slices_Clone Try.layCloneE i0 _ 3 24 hi0 hz0 hz1 hz2 rfl (by decide) sizeOfE b off l.length c (cat l) w (cat_len l) (by simp [maxLen]; omega) (by omega) (sg_cells hc) (cat_one l)
    refine Calls.mono hcon ?_
    rintro e w' ⟨v, rfl, hown, _, hB⟩
    exact ⟨v, rfl, hown, hB⟩
end Go.Proofs.Ytlgjhmenjfmpfaa
