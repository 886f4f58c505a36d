/-
  Plain lemmas: a list sorted, then each number once, is in order and has the same members. Nothing here speaks of a program.
-/
import Derived.Test.YtkknkbdkokdbfaaDoorHp
import Derived.Lib.SlicesCompact
namespace Go.Proofs.YtkknkbdkokdbfaaDoor
open Go.RowKit

theorem cmpt_inv (d : Array Int) (hs : ∀ i j, i ≤ j → j < d.size → d[i]! ≤ d[j]!) : ∀ m, m ≤ d.size → (Lib.compactUpTo d m).Pairwise (· < ·) ∧ ∀ x, x ∈ Lib.compactUpTo d m ↔ ∃ i, i < m ∧ d[i]! = x
  | 0, _ => ⟨by simp [Lib.compactUpTo], by simp [Lib.compactUpTo]⟩
  | m + 1, hm => by
    obtain ⟨h1, h2⟩ := cmpt_inv d hs m (by omega)
    rw [Lib.compactUpTo_succ]
    by_cases hk : Lib.keeps d m = true
    · rw [if_pos hk]
      refine ⟨List.pairwise_append.2 ⟨h1, by simp, fun a ha b hb => ?_⟩, fun x => ?_⟩
      · rw [List.mem_singleton] at hb
        subst hb
        obtain ⟨i, hi, rfl⟩ := (h2 a).1 ha
        have hne : m = 0 ∨ d[m]! ≠ d[m - 1]! := by simpa [Lib.keeps] using hk
        have hne : d[m]! ≠ d[m - 1]! := hne.resolve_left (by omega)
        have a1 := hs i (m - 1) (by omega) (by omega)
        have a2 := hs (m - 1) m (by omega) (by omega)
        omega
      · rw [List.mem_append, h2, List.mem_singleton]
        constructor
        · rintro (⟨i, hi, e⟩ | e)
          · exact ⟨i, by omega, e⟩
          · exact ⟨m, by omega, e.symm⟩
        · rintro ⟨i, hi, e⟩
          by_cases him : i = m
          · subst him; exact .inr e.symm
          · exact .inl ⟨i, by omega, e⟩
    · rw [if_neg hk, List.append_nil]
      have hne : ¬ (m = 0 ∨ d[m]! ≠ d[m - 1]!) := by simpa [Lib.keeps] using hk
      have h0 : m ≠ 0 := fun e => hne (.inl e)
      have he : d[m]! = d[m - 1]! := Classical.byContradiction (fun e => hne (.inr e))
      refine ⟨h1, fun x => ?_⟩
      rw [h2]
      constructor
      · rintro ⟨i, hi, e⟩; exact ⟨i, by omega, e⟩
      · rintro ⟨i, hi, e⟩
        by_cases him : i = m
        · subst him; exact ⟨i - 1, by omega, by rw [← he]; exact e⟩
        · exact ⟨i, by omega, e⟩
theorem sort_compact (l : List Int) : (Lib.compact (l.mergeSort fun x y => decide (x ≤ y))).Pairwise (· < ·) ∧ ∀ x, x ∈ Lib.compact (l.mergeSort fun x y => decide (x ≤ y)) ↔ x ∈ l := by
  have hsrt : (l.mergeSort fun x y => decide (x ≤ y)).Pairwise (fun x y => x ≤ y) := by
    have := List.pairwise_mergeSort (le := fun (x y : Int) => decide (x ≤ y)) (fun a b c h1 h2 => by simp at *; omega) (fun a b => by simp; omega) l
    exact this.imp (fun h => by simpa using h)
  have hmem : ∀ x, x ∈ (l.mergeSort fun x y => decide (x ≤ y)) ↔ x ∈ l := fun x => List.mem_mergeSort
  generalize (l.mergeSort fun x y => decide (x ≤ y)) = z at *
  have hs : ∀ i j, i ≤ j → j < z.toArray.size → z.toArray[i]! ≤ z.toArray[j]! := by
    intro i j hij hj
    have hj' : j < z.length := by simpa using hj
    rw [getElem!_pos z.toArray i (by simp; omega), getElem!_pos z.toArray j hj]
    by_cases e : i = j
    · subst e; exact Int.le_refl _
    · have := List.pairwise_iff_getElem.1 hsrt i j (by omega) hj' (by omega)
      simpa using this
  obtain ⟨h1, h2⟩ := cmpt_inv z.toArray hs z.length (by simp)
  refine ⟨h1, fun x => ?_⟩
  rw [← hmem x]
  show x ∈ Lib.compactUpTo z.toArray z.length ↔ _
  rw [h2]
  constructor
  · rintro ⟨i, hi, rfl⟩
    rw [getElem!_pos z.toArray i (by simpa using hi)]
    simp
  · intro hx
    obtain ⟨i, hi, e⟩ := List.mem_iff_getElem.1 hx
    exact ⟨i, hi, by rw [getElem!_pos z.toArray i (by simpa using hi)]; simpa using e⟩
/-- What the program's step returns is what the reference finds. -/
theorem step_sorted {G : Gr} {st : List Int} {b : Int} (hv : Vg G) : Lib.compact ((stepL G.es st b).mergeSort fun x y => decide (x ≤ y)) = nextA G st b :=
  step_law hv (sort_compact _).1 (sort_compact _).2
end Go.Proofs.YtkknkbdkokdbfaaDoor
