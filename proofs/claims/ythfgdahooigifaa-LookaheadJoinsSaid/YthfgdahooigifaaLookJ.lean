/-
  Plain lemmas on what is written for two lists, one after the other. Nothing here speaks of a program.
-/
import Derived.Test.YthfgdahooigifaaLook2
namespace Go.Proofs.Ythfgdahooigifaa
open Go.RowKit

def isSw (l : List Sw) (i j : Int) : Bool := l.any (fun s => decide (s.i = i) && decide (s.j = j))
theorem isSw_eq (l : List Sw) (i j : Int) : isSw l i j = (swapW l i j).isSome := by
  unfold isSw swapW
  rw [Option.isSome_map, List.any_eq, Bool.eq_iff_iff]
  simp [List.find?_isSome]
theorem isSw_some {l : List Sw} {i j : Int} (h : isSw l i j = true) : ∃ w, swapW l i j = some w := by
  rw [isSw_eq] at h; exact Option.isSome_iff_exists.1 h
theorem isSw_none {l : List Sw} {i j : Int} (h : isSw l i j = false) : swapW l i j = none := by
  rw [isSw_eq] at h; simpa using h
/-- Whether the last input is written alone. -/
def aloneL (S : List Sw) : List Int → Bool
  | [] => false
  | [_] => true
  | x :: y :: r => if isSw S x y then aloneL S r else aloneL S (y :: r)
/-- The same behind a first part, after which `b` holds. -/
def aloneF (S : List Sw) (b : Bool) (l : List Int) : Bool := if l = [] then b else aloneL S l
theorem aloneF_start (S : List Sw) (l : List Int) : aloneF S false l = aloneL S l := by
  unfold aloneF; split
  · rename_i h; subst h; rfl
  · rfl
theorem aloneF_end (S : List Sw) (b : Bool) (l : List Int) (m : Nat) (h : l.length ≤ m) : aloneF S b (l.drop m) = b := by
  rw [List.drop_eq_nil_of_le h]; rfl
theorem aloneF_one (S : List Sw) (b : Bool) (l : List Int) (m : Nat) (h : m < l.length) (h1 : ¬ m + 1 < l.length) : aloneF S b (l.drop m) = aloneF S true (l.drop (m + 1)) := by
  have h2 : l.drop (m + 1) = [] := List.drop_eq_nil_of_le (by omega)
  rw [List.drop_eq_getElem_cons h, h2]; rfl
theorem aloneF_swap' (S : List Sw) (b : Bool) (x y : Int) (r : List Int) (hs : isSw S x y = true) : aloneF S b (x :: y :: r) = aloneF S false r := by
  rw [aloneF_start]; simp [aloneF, aloneL, hs]
theorem aloneF_base' (S : List Sw) (b : Bool) (x y : Int) (r : List Int) (hs : isSw S x y = false) : aloneF S b (x :: y :: r) = aloneF S true (y :: r) := by
  simp [aloneF, aloneL, hs]
theorem aloneF_swap (S : List Sw) (b : Bool) (l : List Int) (m : Nat) (h : m + 1 < l.length) (hs : isSw S l[m] l[m + 1] = true) : aloneF S b (l.drop m) = aloneF S false (l.drop (m + 2)) := by
  rw [List.drop_eq_getElem_cons (by omega : m < l.length), List.drop_eq_getElem_cons h]; exact aloneF_swap' S b _ _ _ hs
theorem aloneF_base (S : List Sw) (b : Bool) (l : List Int) (m : Nat) (h : m + 1 < l.length) (hs : isSw S l[m] l[m + 1] = false) : aloneF S b (l.drop m) = aloneF S true (l.drop (m + 1)) := by
  rw [List.drop_eq_getElem_cons (by omega : m < l.length), List.drop_eq_getElem_cons h]; exact aloneF_base' S b _ _ _ hs

theorem encB_app (T : Tb) (b : List Int) : ∀ (n : Nat) (a : List Int), a.length ≤ n →
    (aloneL T.swaps a = true → ∀ x y, a.getLast? = some x → b.head? = some y → isSw T.swaps x y = false) → encB T (a ++ b) = encB T a ++ encB T b
  | _, [], _, _ => by simp [encB]
  | _, [x], _, h => by
    cases b with
    | nil => simp [encB]
    | cons y r =>
      have := isSw_none (h rfl x y rfl rfl)
      show encB T (x :: y :: r) = encB T [x] ++ encB T (y :: r)
      simp [encB, this]
  | 0, x :: y :: r, hn, _ => by simp at hn
  | n + 1, x :: y :: r, hn, h => by
    cases hs : isSw T.swaps x y
    · have h1 := isSw_none hs
      have ih := encB_app T b n (y :: r) (by simp at hn ⊢; omega) (fun ha u v hu hv => h (by rw [aloneL, hs]; exact ha) u v (by simpa using hu) hv)
      show encB T (x :: y :: (r ++ b)) = encB T (x :: y :: r) ++ encB T b
      rw [show encB T (x :: y :: (r ++ b)) = (baseW T x).data.toList ++ encB T (y :: (r ++ b)) by simp [encB, h1], show encB T (x :: y :: r) = (baseW T x).data.toList ++ encB T (y :: r) by simp [encB, h1], List.append_assoc, ← ih]; rfl
    · obtain ⟨w, h1⟩ := isSw_some hs
      have ih := encB_app T b n r (by simp at hn ⊢; omega) (fun ha u v hu hv => h (by rw [aloneL, hs]; exact ha) u v (by
        cases r with
        | nil => simp at hu
        | cons z r => simpa using hu) hv)
      show encB T (x :: y :: (r ++ b)) = encB T (x :: y :: r) ++ encB T b
      simp only [encB, h1, List.append_assoc, ih]
theorem encB_len {T : Tb} (h : fmd T = true) : ∀ (n : Nat) (l : List Int), l.length ≤ n → l.any (outB T.base.length) = false → (encB T l).length = l.length * T.n.toNat
  | _, [], _, _ => by simp [encB]
  | _, [x], _, ho => by
    have := outB_f (any_f ho 0 (by simp))
    have h2 := base_size h x this.1 this.2
    simp [encB]; omega
  | 0, x :: y :: r, hn, _ => by simp at hn
  | n + 1, x :: y :: r, hn, ho => by
    have h0 := outB_f (any_f ho 0 (by simp))
    have h2 := base_size h x h0.1 h0.2
    simp only [List.getElem_cons_zero] at h0 h2
    have ho1 : (y :: r).any (outB T.base.length) = false := by rw [List.any_cons] at ho; simp at ho ⊢; exact ho.2
    have ho2 : r.any (outB T.base.length) = false := by rw [List.any_cons] at ho1; simp at ho1 ⊢; exact ho1.2
    cases hs : swapW T.swaps x y with
    | none =>
      have ih := encB_len h n (y :: r) (by simp at hn ⊢; omega) ho1
      simp only [encB, hs, List.length_append, ih, List.length_cons]
      have : (baseW T x).data.toList.length = T.n.toNat := by simp; omega
      rw [this, Nat.succ_mul (r.length + 1)]; omega
    | some w =>
      have ih := encB_len h n r (by simp at hn ⊢; omega) ho2
      have hw := swapW_size h hs
      simp only [encB, hs, List.length_append, ih, List.length_cons]
      have : w.data.toList.length = 2 * T.n.toNat := by simp; omega
      rw [this, Nat.succ_mul (r.length + 1), Nat.succ_mul r.length]; omega
/-- The inputs that a law picks. -/
def picks (N : Nat) (l : List UInt8) : List Int := l.map (fun n => (n.toNat : Int) % N)
theorem picks_ok {N : Nat} (hN : 0 < N) (l : List UInt8) : (picks N l).any (outB N) = false := by
  rw [List.any_eq_false]; intro x hx
  obtain ⟨n, _, rfl⟩ := List.mem_map.1 hx
  have h1 := Int.emod_nonneg (n.toNat : Int) (b := N) (by omega)
  have h2 := Int.emod_lt_of_pos (n.toNat : Int) (b := N) (by omega)
  simp [outB]; omega
theorem encW_app (T : Tb) (a b : List Int) (h : aloneL T.swaps a = true → ∀ x y, a.getLast? = some x → b.head? = some y → isSw T.swaps x y = false) : encW T (a ++ b) = encW T a ++ encW T b := by
  unfold encW
  rw [encB_app T b a.length a (Nat.le_refl _) h]
  apply ByteArray.ext
  simp
theorem encW_size {T : Tb} (h : fmd T = true) (l : List Int) (ho : l.any (outB T.base.length) = false) : (encW T l).size = l.length * T.n.toNat := by
  have := encB_len h l.length l (Nat.le_refl _) ho
  unfold encW; simp [ByteArray.size, this]
theorem any_app_f {α : Type} {f : α → Bool} {a b : List α} (ha : a.any f = false) (hb : b.any f = false) : (a ++ b).any f = false := by rw [List.any_append, ha, hb]; rfl
end Go.Proofs.Ythfgdahooigifaa
