/-
  Plain definitions and lemmas on the table of the reference's Balanced. Nothing here speaks of a program.
-/
import Derived.Test.YtpopaehdmeejpaaDoorPlain
namespace Go.Proofs.YtpopaehdmeejpaaDoor
open Go.RowKit

def stepL (l : List Int) : List Int := List.zipWith (· + ·) (0 :: l) (l.tail ++ [0])
def tab (n : Nat) : Nat → List Int | 0 => (List.replicate (2 * n + 1) 0).set n 1 | i + 1 => stepL (tab n i)
theorem stepL_len (l : List Int) (h : 0 < l.length) : (stepL l).length = l.length := by
  simp only [stepL, List.length_zipWith, List.length_cons, List.length_append, List.length_tail, List.length_nil]; omega
theorem tab_len (n i : Nat) : (tab n i).length = 2 * n + 1 := by
  induction i with
  | zero => simp [tab]
  | succ i ih => rw [tab, stepL_len _ (by omega), ih]
theorem stepL_get (l : List Int) (x : Nat) (hx : x < l.length) : (stepL l).getD x 0 = (if x = 0 then 0 else l.getD (x - 1) 0) + l.getD (x + 1) 0 := by
  have hlen : x < (stepL l).length := by rw [stepL_len l (by omega)]; exact hx
  rw [List.getD_eq_getElem?_getD, List.getElem?_eq_getElem hlen]
  simp only [stepL, List.getElem_zipWith, Option.getD_some]
  congr 1
  · cases x with
    | zero => simp
    | succ x => simp [List.getD_eq_getElem?_getD, List.getElem?_eq_getElem (show x < l.length by omega)]
  · rw [List.getElem_append]
    split
    · rename_i h
      simp only [List.length_tail] at h
      rw [List.getElem_tail, List.getD_eq_getElem?_getD, List.getElem?_eq_getElem (show x + 1 < l.length by omega)]; rfl
    · rename_i h
      simp only [List.length_tail] at h
      rw [List.getD_eq_getElem?_getD, List.getElem?_eq_none (by omega)]
      simp
theorem tab_all : ∀ n, n < 31 → ∀ i, i < n → ((tab n i).all fun x => decide (0 ≤ x) && decide (x ≤ 200000000)) = true ∧ (tab n i).getD 0 0 = 0 ∧ (tab n i).getD (2 * n) 0 = 0 := by decide +kernel
theorem tab_end : ∀ n, n < 31 → (tab n n).getD n 0 = (blc n).1 ∧ (blc n).2 = 0 := by decide +kernel
theorem tab_bd (n i : Nat) (hn : n < 31) (hi : i < n) (d : Nat) : 0 ≤ (tab n i).getD d 0 ∧ (tab n i).getD d 0 ≤ 200000000 := by
  have h := (tab_all n hn i hi).1
  rw [List.all_eq_true] at h
  rw [List.getD_eq_getElem?_getD]
  by_cases hd : d < (tab n i).length
  · rw [List.getElem?_eq_getElem hd]
    have := h _ (List.getElem_mem hd)
    simpa using this
  · rw [List.getElem?_eq_none (by omega)]; simp
/-- The next row, behind d places. -/
def nx (l : List Int) : Nat → List Int
  | 0 => List.replicate l.length 0
  | d + 1 => if 0 < l.getD d 0 then (((nx l d).set (d - 1) ((nx l d).getD (d - 1) 0 + l.getD d 0)).set (d + 1) (((nx l d).set (d - 1) ((nx l d).getD (d - 1) 0 + l.getD d 0)).getD (d + 1) 0 + l.getD d 0)) else nx l d
theorem nx_len (l : List Int) (d : Nat) : (nx l d).length = l.length := by
  induction d with
  | zero => simp [nx]
  | succ d ih => simp only [nx]; split <;> simp [ih]
theorem getD_set (l : List Int) (i j : Nat) (a : Int) (h : i < l.length) : (l.set i a).getD j 0 = if i = j then a else l.getD j 0 := by
  by_cases hij : i = j
  · subst hij
    rw [if_pos rfl, List.getD_eq_getElem?_getD, List.getElem?_set_self h]; rfl
  · rw [if_neg hij, List.getD_eq_getElem?_getD, List.getElem?_set_ne hij, List.getD_eq_getElem?_getD]
/-- Pointwise: what has come from the right and from the left. -/
theorem nx_get (l : List Int) (h0 : l.getD 0 0 = 0) (hl : l.getD (l.length - 1) 0 = 0) (hp : ∀ d, 0 ≤ l.getD d 0) (d : Nat) (hd : d ≤ l.length) (x : Nat) (hx : x < l.length) :
    (nx l d).getD x 0 = (if x + 1 < d then l.getD (x + 1) 0 else 0) + (if 1 ≤ x ∧ x - 1 < d then l.getD (x - 1) 0 else 0) := by
  induction d generalizing x with
  | zero => rw [List.getD_eq_getElem?_getD]; simp [nx, hx]
  | succ d ih =>
    have hpd := hp d
    simp only [nx]
    split
    · rename_i hpos
      have hd0 : d ≠ 0 := by rintro rfl; omega
      have hdl : d ≠ l.length - 1 := by intro e; rw [e] at hpos; omega
      rw [getD_set _ _ _ _ (by rw [List.length_set, nx_len]; omega), getD_set _ _ _ _ (by rw [nx_len]; omega), getD_set _ _ _ _ (by rw [nx_len]; omega)]
      rw [if_neg (show ¬ d - 1 = d + 1 by omega), ih (by omega) (d + 1) (by omega), ih (by omega) (d - 1) (by omega), ih (by omega) x hx]
      rw [if_neg (show ¬ d + 1 + 1 < d by omega), if_neg (show ¬ (1 ≤ d + 1 ∧ d + 1 - 1 < d) by omega), if_neg (show ¬ (d - 1 + 1 < d) by omega)]
      by_cases e1 : d + 1 = x
      · subst e1
        rw [if_pos rfl, if_neg (by omega), if_pos (by omega)]
        simp
      · rw [if_neg e1]
        by_cases e2 : d - 1 = x
        · subst e2
          rw [if_pos rfl, if_pos (show d - 1 + 1 < d + 1 by omega)]
          rw [show d - 1 + 1 = d by omega]
          split <;> split <;> first | omega | (exfalso; omega)
        · rw [if_neg e2]
          have e3 : (x + 1 < d + 1) ↔ (x + 1 < d) := by omega
          have e4 : (1 ≤ x ∧ x - 1 < d + 1) ↔ (1 ≤ x ∧ x - 1 < d) := by omega
          simp only [e3, e4]
    · rename_i hpos
      have hz : l.getD d 0 = 0 := by omega
      rw [ih (by omega) x hx]
      by_cases e1 : d + 1 = x
      · subst e1
        have e3 : 1 ≤ d + 1 ∧ d + 1 - 1 < d + 1 := by omega
        rw [if_neg (show ¬ d + 1 + 1 < d by omega), if_neg (show ¬ (1 ≤ d + 1 ∧ d + 1 - 1 < d) by omega), if_neg (show ¬ d + 1 + 1 < d + 1 by omega), if_pos e3, Nat.add_sub_cancel, hz]
      · by_cases e2 : x + 1 = d
        · subst e2
          rw [if_neg (show ¬ x + 1 < x + 1 by omega), if_pos (show x + 1 < x + 1 + 1 by omega), hz]
          split <;> split <;> first | omega | (exfalso; omega)
        · have e3 : (x + 1 < d + 1) ↔ (x + 1 < d) := by omega
          have e4 : (1 ≤ x ∧ x - 1 < d + 1) ↔ (1 ≤ x ∧ x - 1 < d) := by omega
          simp only [e3, e4]
theorem list_ext_getD (a b : List Int) (hl : a.length = b.length) (h : ∀ x, x < a.length → a.getD x 0 = b.getD x 0) : a = b := by
  apply List.ext_getElem hl
  intro i h1 h2
  have := h i h1
  rw [List.getD_eq_getElem?_getD, List.getD_eq_getElem?_getD, List.getElem?_eq_getElem h1, List.getElem?_eq_getElem h2] at this
  exact this
theorem nx_full (n i : Nat) (hn : n < 31) (hi : i < n) : nx (tab n i) (2 * n + 1) = tab n (i + 1) := by
  have hl := tab_len n i
  obtain ⟨_, h0, h1⟩ := tab_all n hn i hi
  apply list_ext_getD
  · rw [nx_len, tab_len, tab_len]
  · intro x hx
    rw [nx_len, hl] at hx
    rw [nx_get _ h0 (by rw [hl]; exact h1) (fun d => (tab_bd n i hn hi d).1) (2 * n + 1) (by omega) x (by omega), tab, stepL_get _ x (by omega)]
    by_cases hx0 : x = 0
    · subst hx0; simp; omega
    · have e : 1 ≤ x ∧ x - 1 < 2 * n + 1 := by omega
      rw [if_neg hx0, if_pos e]
      by_cases hxe : x + 1 < 2 * n + 1
      · rw [if_pos hxe]; omega
      · have : (tab n i).getD (x + 1) 0 = 0 := by rw [List.getD_eq_getElem?_getD, List.getElem?_eq_none (by omega)]; rfl
        rw [if_neg hxe, this]; omega
theorem nx_bd (n i : Nat) (hn : n < 31) (hi : i < n) (d : Nat) (hd : d ≤ 2 * n + 1) (x : Nat) (hx : x < 2 * n + 1) : 0 ≤ (nx (tab n i) d).getD x 0 ∧ (nx (tab n i) d).getD x 0 ≤ 400000000 := by
  have hl := tab_len n i
  obtain ⟨_, h0, h1⟩ := tab_all n hn i hi
  rw [nx_get _ h0 (by rw [hl]; exact h1) (fun d => (tab_bd n i hn hi d).1) d (by omega) x (by omega)]
  have a := tab_bd n i hn hi (x + 1)
  have b := tab_bd n i hn hi (x - 1)
  split <;> split <;> omega
theorem nx_pos (l : List Int) (e : Nat) (h : 0 < l.getD (e + 1) 0) : nx l (e + 1 + 1) = ((nx l (e + 1)).set e ((nx l (e + 1)).getD e 0 + l.getD (e + 1) 0)).set (e + 1 + 1) ((nx l (e + 1)).getD (e + 1 + 1) 0 + l.getD (e + 1) 0) := by
  conv => lhs; rw [nx]
  rw [if_pos h, Nat.add_sub_cancel]
  congr 2
  rw [List.getD_eq_getElem?_getD, List.getElem?_set_ne (by omega), List.getD_eq_getElem?_getD]
theorem own_vrow {w : World} {B e g n : Nat} {xs : List Value} (h : w.ownsRow B e 1 (.slice (some ⟨g, 0, none⟩) n n) n xs) : VRow w g e xs := by
  rcases h.2 with ⟨h0, _⟩ | ⟨g', cap, cur, hv, _, hh, _, _, hs, ht⟩
  · cases h0
  · cases hv
    have : cur.toList = xs := by rw [← ht]; exact (List.take_of_length_le (by rw [Array.length_toList]; omega)).symm
    unfold VRow
    rw [hh, ← this]
theorem own_head {w : World} {B e g n c : Nat} {xs : List Value} (h : w.ownsRow B e 1 (.slice (some ⟨g, 0, none⟩) n c) n xs) : B ≤ g := (h.lt g rfl).1
theorem cint_getD (l : List Int) (i : Nat) (h : i < l.length) : (cint l)[i]? = some (.int .i64 (l.getD i 0)) := by
  rw [List.getD_eq_getElem?_getD, List.getElem?_eq_getElem h]; simp [cint, h]
theorem cint_set (l : List Int) (i : Nat) (x : Int) : (cint l).set i (.int .i64 x) = cint (l.set i x) := by simp [cint, List.map_set]
theorem made_row {w : World} {B e g n : Nat} (h : w.ownsRow B e 1 (.slice (some ⟨g, 0, none⟩) n n) n (madeCells (Value.int .i64 0).cells (n * 1)).toList) : VRow w g e (cint (List.replicate n 0)) := by
  have := own_vrow h
  rw [show (Value.int .i64 0).cells = #[Value.int .i64 0] from rfl, toList_madeCells_one, Nat.mul_one] at this
  simpa [cint] using this
theorem VRow.grown {w w' : World} {B t : Nat} {l : List Value} (h : VRow w B t l) (hg : w.grownBy w' none) : VRow w' B t l := (hg.block B h.lt (by simp)).trans h
end Go.Proofs.YtpopaehdmeejpaaDoor
