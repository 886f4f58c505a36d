/-
  Plain definitions and lemmas on tables with lookahead: what is written, facts of well formed tables. Nothing here speaks of a program.
-/
import Derived.Test.YthfgdahooigifaaLook
namespace Go.Proofs.Ythfgdahooigifaa
open Go.RowKit

def encB (T : Tb) : List Int → List UInt8
  | [] => []
  | [a] => (baseW T a).data.toList
  | a :: b :: r => match swapW T.swaps a b with
    | some w => w.data.toList ++ encB T r
    | none => (baseW T a).data.toList ++ encB T (b :: r)
def encW (T : Tb) (l : List Int) : ByteArray := ⟨(encB T l).toArray⟩
theorem encB_one (T : Tb) (l : List Int) (m : Nat) (h : m < l.length) (h1 : ¬ m + 1 < l.length) : encB T (l.drop m) = (baseW T l[m]).data.toList ++ encB T (l.drop (m + 1)) := by
  have h2 : l.drop (m + 1) = [] := List.drop_eq_nil_of_le (by omega)
  rw [List.drop_eq_getElem_cons h, h2]; simp [encB]
theorem encB_swap (T : Tb) (l : List Int) (m : Nat) (h : m + 1 < l.length) (w : ByteArray) (hw : swapW T.swaps l[m] l[m + 1] = some w) : encB T (l.drop m) = w.data.toList ++ encB T (l.drop (m + 2)) := by
  rw [List.drop_eq_getElem_cons (by omega : m < l.length), List.drop_eq_getElem_cons h]; simp [encB, hw]
theorem encB_base (T : Tb) (l : List Int) (m : Nat) (h : m + 1 < l.length) (hw : swapW T.swaps l[m] l[m + 1] = none) : encB T (l.drop m) = (baseW T l[m]).data.toList ++ encB T (l.drop (m + 1)) := by
  rw [List.drop_eq_getElem_cons (by omega : m < l.length), List.drop_eq_getElem_cons h]; simp [encB, hw]
theorem outB_f {N : Nat} {a : Int} (h : outB N a = false) : 0 ≤ a ∧ a < N := by simp [outB] at h; omega
/-- What Encode answers, for lists that are not too long. -/
def encA (T : Tb) (l : List Int) : ByteArray × Int := if fmd T = false then (ByteArray.empty, 1) else if l.any (outB T.base.length) = true then (ByteArray.empty, 2) else (encW T l, 0)
theorem encA_bad {T : Tb} (l : List Int) (h : fmd T = false) : encA T l = (ByteArray.empty, 1) := by simp [encA, h]
theorem encA_out {T : Tb} {l : List Int} (h : fmd T = true) (h2 : l.any (outB T.base.length) = true) : encA T l = (ByteArray.empty, 2) := by
  unfold encA; rw [if_neg (by simp [h]), if_pos h2]
theorem encA_ok {T : Tb} {l : List Int} (h : fmd T = true) (h2 : l.any (outB T.base.length) = false) : encA T l = (encW T l, 0) := by
  unfold encA; rw [if_neg (by simp [h]), if_neg (by simp [h2])]
theorem any_f {α : Type} {f : α → Bool} {l : List α} (h : l.any f = false) (k : Nat) (hk : k < l.length) : f l[k] = false := by
  have := List.any_eq_false.1 h l[k] (List.getElem_mem hk); simpa using this

/-! ### Facts of well formed tables -/
theorem lexB_trans {a b c : Sw} (h : lexB a b = true) (k : lexB b c = true) : lexB a c = true := by
  simp [lexB] at *; omega
theorem fmd_split {T : Tb} (h : fmd T = true) : preB T = true ∧ ssOk T = true ∧ wsOk T.q T.n T.base = true ∧ wsOk T.q (2 * T.n) (T.swaps.map Sw.wd) = true := by
  simpa [fmd] using h
theorem sorted_lt {N : Nat} {l : List Sw} (h : allB l.length (sOk N l) = true) : ∀ m k (hm : m < l.length) (hk : k < m), lexB l[k] l[m] = true := by
  intro m
  induction m with
  | zero => intro k _ hk; omega
  | succ m ih =>
    intro k hm hk
    have hs := allB_get h (m + 1) hm
    unfold sOk at hs
    rw [Nat.add_sub_cancel, sget_eq l m (by omega), sget_eq l (m + 1) hm] at hs
    have h1 : lexB l[m] l[m + 1] = true := by simpa using (Bool.and_eq_true_iff.1 hs).2
    by_cases e : k = m
    · subst e; exact h1
    · exact lexB_trans (ih k (by omega) (by omega)) h1
theorem swap_uniq {N : Nat} {l : List Sw} (h : allB l.length (sOk N l) = true) {x y : Sw} (hx : x ∈ l) (hy : y ∈ l) (h1 : x.i = y.i) (h2 : x.j = y.j) : x = y := by
  obtain ⟨k, hk, rfl⟩ := List.mem_iff_getElem.1 hx
  obtain ⟨m, hm, rfl⟩ := List.mem_iff_getElem.1 hy
  rcases Nat.lt_trichotomy k m with e | e | e
  · have := sorted_lt h m k hm e; simp [lexB] at this; omega
  · subst e; rfl
  · have := sorted_lt h k m hk e; simp [lexB] at this; omega
theorem swapF_eq {T : Tb} (h : fmd T = true) (i j : Int) : swapF T.swaps (i, j) = swapW T.swaps i j := by
  have hs := (fmd_split h).2.1
  unfold swapF swapW
  congr 1
  cases h1 : T.swaps.find? (fun s => decide (s.i = i) && decide (s.j = j)) with
  | none =>
    rw [List.find?_eq_none] at h1 ⊢
    intro x hx; exact h1 x (List.mem_reverse.1 hx)
  | some y =>
    have hy := List.mem_of_find?_eq_some h1
    have py := List.find?_some h1
    cases h2 : T.swaps.reverse.find? (fun s => decide (s.i = i) && decide (s.j = j)) with
    | none =>
      rw [List.find?_eq_none] at h2
      exact absurd py (h2 y (List.mem_reverse.2 hy))
    | some x =>
      have hx := List.mem_reverse.1 (List.mem_of_find?_eq_some h2)
      have px := List.find?_some h2
      simp only [Bool.and_eq_true, decide_eq_true_eq] at px py
      rw [swap_uniq hs hx hy (by omega) (by omega)]
theorem wsOk_get {q n : Int} {l : List ByteArray} (h : wsOk q n l = true) (k : Nat) (hk : k < l.length) : (l[k].size : Int) = n ∧ wchk q l[k].data.toList = 0 := by
  have := allB_get h k hk
  unfold wOk at this
  rw [bget_eq l k hk] at this
  simp at this
  exact ⟨this.1, this.2.1⟩
theorem base_size {T : Tb} (h : fmd T = true) (a : Int) (h0 : 0 ≤ a) (h1 : a < T.base.length) : ((baseW T a).size : Int) = T.n := by
  unfold baseW; rw [bget_eq _ _ (by omega)]; exact (wsOk_get (fmd_split h).2.2.1 _ (by omega)).1
theorem swap_size {T : Tb} (h : fmd T = true) (k : Nat) (hk : k < T.swaps.length) : (T.swaps[k].wd.size : Int) = 2 * T.n := by
  have := (wsOk_get (fmd_split h).2.2.2 k (by simpa using hk)).1
  simpa using this
theorem swapW_size {T : Tb} (h : fmd T = true) {i j : Int} {w : ByteArray} (hw : swapW T.swaps i j = some w) : (w.size : Int) = 2 * T.n := by
  unfold swapW at hw
  obtain ⟨s, hs, rfl⟩ := Option.map_eq_some_iff.1 hw
  obtain ⟨k, hk, rfl⟩ := List.mem_iff_getElem.1 (List.mem_of_find?_eq_some hs)
  exact swap_size h k hk
theorem fmd_bd {T : Tb} (h : fmd T = true) : 1 ≤ T.n ∧ T.n ≤ 8 := by
  have := of_decide_eq_true (show preB T = true from (fmd_split h).1); omega

def mtS (i j : Int) (s : Sw) : Bool := decide (s.i = i) && decide (s.j = j)
theorem swapW_def (l : List Sw) (i j : Int) : swapW l i j = (l.find? (mtS i j)).map Sw.wd := rfl
theorem find_hit {α : Type} {f : α → Bool} {l : List α} (k : Nat) (h : k < l.length) (hn : ∀ j (hj : j < l.length), j < k → f l[j] = false) (hk : f l[k] = true) : l.find? f = some l[k] := by
  induction l generalizing k with
  | nil => simp at h
  | cons x l ih =>
    cases k with
    | zero => simp only [List.getElem_cons_zero] at hk ⊢; simp [hk]
    | succ k =>
      have h0 := hn 0 (by simp) (by omega)
      simp only [List.getElem_cons_zero] at h0
      have := ih k (by simpa using h) (fun j hj hjk => by have := hn (j + 1) (by simpa using hj) (by omega); simpa using this) (by simpa using hk)
      simp [h0, this]
theorem find_miss {α : Type} {f : α → Bool} {l : List α} (hn : ∀ j (hj : j < l.length), f l[j] = false) : l.find? f = none := by
  rw [List.find?_eq_none]; intro x hx
  obtain ⟨j, hj, rfl⟩ := List.mem_iff_getElem.1 hx
  simp [hn j hj]
theorem swapW_hit {l : List Sw} {i j : Int} (k : Nat) (h : k < l.length) (hn : ∀ m (hm : m < l.length), m < k → mtS i j l[m] = false) (hk : mtS i j l[k] = true) : swapW l i j = some l[k].wd := by
  rw [swapW_def, find_hit k h hn hk]; rfl
theorem swapW_miss {l : List Sw} {i j : Int} (hn : ∀ m (hm : m < l.length), mtS i j l[m] = false) : swapW l i j = none := by
  rw [swapW_def, find_miss hn]; rfl
end Go.Proofs.Ythfgdahooigifaa
