/-
  Rows of numbers: elements struck out of a row that the call owns. Nothing here speaks of a program.
-/
import Derived.Test.YtlgjhmenjfmpfaaBase
import Derived.Shelf.SlicesE.DeleteFunc
namespace Go.Proofs.Ytlgjhmenjfmpfaa
open Go.RowKit Go.Sort Go.Shelf Go.Lib

/-- A number as it lies in memory; numbers that are no states read as 0. -/
def nmI (x : Int) : Int := if 0 ≤ x ∧ x ≤ 1000000 then x else 0
def encN (x : Int) : Value := .int .i64 (nmI x)
theorem nmI_in {x : Int} (h : 0 ≤ x ∧ x ≤ 1000000) : nmI x = x := if_pos h
theorem nmI_bd (x : Int) : 0 ≤ nmI x ∧ nmI x ≤ 1000000 := by unfold nmI; split <;> omega
theorem encN_in {l : List Int} (h : ∀ x ∈ l, 0 ≤ x ∧ x ≤ 1000000) : l.map encN = l.map (Value.int .i64) :=
  List.map_congr_left (fun x hx => by unfold encN; rw [nmI_in (h x hx)])
theorem own_holdsN {w : World} {B e g n cap : Nat} {l : List Int} (h : w.ownsRow B e 1 (.slice (some ⟨g, 0, none⟩) n cap) n (l.map (Value.int .i64))) (hi : ∀ x ∈ l, 0 ≤ x ∧ x ≤ 1000000) :
    Holds encN w g 0 l.toArray ∧ g < w.heap.size ∧ B ≤ g ∧ l.length = n ∧ n ≤ cap := by
  have hn : l.length = n := by have := h.1; simpa using this
  rcases h.2 with ⟨e0, _⟩ | ⟨g', cap', cur, e0, hg, hh, hc, hm, hs, ht⟩
  · cases e0
  · cases e0
    refine ⟨fun j hj => ?_, (Array.getElem?_eq_some_iff.1 hh).1, hg, hn, hc⟩
    have hj' : j < l.length := by simpa using hj
    refine ⟨?_, by simp [World.frozen?, hh]⟩
    have e1 : (l.map encN)[j]? = cur.toList[j]? := by
      rw [encN_in hi, ← ht, List.getElem?_take, if_pos (by omega)]
    rw [List.getElem?_map, List.getElem?_eq_getElem hj', Array.getElem?_toList] at e1
    rw [getElem!_pos l.toArray j hj, Nat.zero_add]
    simp [World.cell?, hh]
    exact e1.symm
theorem own_struck {w : World} {B e g n cap q : Nat} {l m : List Int} (h : w.ownsRow B e 1 (.slice (some ⟨g, 0, none⟩) n cap) n (l.map (Value.int .i64))) (hm : m.length ≤ n) (hi : ∀ x ∈ m, 0 ≤ x ∧ x ≤ 1000000) :
    (putRow encN (Sort.ahead w q) g 0 (m ++ List.replicate (n - m.length) 0).toArray).ownsRow B e 1 (.slice (some ⟨g, 0, none⟩) m.length cap) m.length (m.map (Value.int .i64)) := by
  rcases h.2 with ⟨e0, _⟩ | ⟨g', cap', cur, e0, hg, hh, hc, hcm, hs, ht⟩
  · cases e0
  · cases e0
    have hlt : g < w.heap.size := (Array.getElem?_eq_some_iff.1 hh).1
    refine ⟨by simp, .inr ⟨g, cap, putCells encN 0 (m ++ List.replicate (n - m.length) 0).toArray cur, rfl, hg, ?_, by omega, hcm, by simpa [putCells] using hs, ?_⟩⟩
    · have hg' : w.heap[g] = .cells cur e (0, 0) := by have := Array.getElem?_eq_some_iff.1 hh; exact this.2
      simp [putRow, mapBlock, Sort.ahead, hlt, Array.getElem_modify, hg', onCells]
    · apply List.ext_getElem?
      intro j
      rw [List.getElem?_take, Array.getElem?_toList]
      by_cases hj : j < m.length
      · have hjc : j < cur.size := by omega
        rw [if_pos (by omega), List.getElem?_map, List.getElem?_eq_getElem hj]
        simp only [putCells, Array.getElem?_mapIdx, Array.getElem?_eq_getElem hjc, Option.map_some]
        rw [if_pos (by simp; omega)]
        simp only [Nat.sub_zero]
        rw [getElem!_pos _ j (by simp; omega)]
        simp [hj, encN, nmI_in (hi _ (List.getElem_mem hj))]
      · rw [if_neg (by omega), List.getElem?_eq_none (by simp; omega)]
theorem grown_struck {w : World} {g q : Nat} (d : Array Int) : w.grownBy (putRow encN (Sort.ahead w q) g 0 d) (some g) := by
  refine ⟨rfl, rfl, rfl, by simp [putRow, mapBlock, Sort.ahead], fun i hi hne => ?_⟩
  have hne' : g ≠ i := fun e => hne (by rw [e])
  simp [putRow, mapBlock, Sort.ahead, hi, Array.getElem_modify, hne']
theorem grown_over {w : World} {g q : Nat} (d : Array Int) (os : Array Obj) : w.grownBy (sortWorld encN w g 0 q d os) (some g) := by
  refine ⟨rfl, rfl, rfl, by simp [sortWorld, grow, putRow, mapBlock, Sort.ahead], fun i hi hne => ?_⟩
  have hne' : g ≠ i := fun e => hne (by rw [e])
  simp [sortWorld, grow, putRow, mapBlock, Sort.ahead, Array.getElem?_append, hi, Array.getElem_modify, hne']
end Go.Proofs.Ytlgjhmenjfmpfaa
