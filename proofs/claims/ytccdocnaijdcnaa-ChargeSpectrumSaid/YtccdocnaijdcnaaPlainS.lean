/-
  Plain lemmas on the sums at the four frequencies. Nothing here speaks of a program.
-/
import Derived.Test.YtccdocnaijdcnaaPlainP
namespace Go.Proofs.Ytccdocnaijdcnaa
open Go.RowKit

/-- The sums at the four frequencies by the offsets modulo 4. -/
theorem Pa_tab (v : Nat → Int) (k : Nat) :
    Pa 0 v 0 k = Su v k ∧ Pa 0 v 1 k = 0 ∧ Pa 0 v 2 k = 0 ∧ Pa 0 v 3 k = 0 ∧
    Pa 2 v 1 k = 0 ∧ Pa 2 v 3 k = 0 ∧ Pa 2 v 0 k = Pa 1 v 0 k + Pa 1 v 2 k ∧ Pa 2 v 2 k = Pa 1 v 1 k + Pa 1 v 3 k ∧
    Pa 3 v 0 k = Pa 1 v 0 k ∧ Pa 3 v 1 k = Pa 1 v 3 k ∧ Pa 3 v 2 k = Pa 1 v 2 k ∧ Pa 3 v 3 k = Pa 1 v 1 k ∧
    Su v k = Pa 1 v 0 k + Pa 1 v 1 k + Pa 1 v 2 k + Pa 1 v 3 k := by
  induction k with
  | zero => simp [Pa, Su]
  | succ k ih =>
    have hk : k % 4 = 0 ∨ k % 4 = 1 ∨ k % 4 = 2 ∨ k % 4 = 3 := by omega
    have h0 : ((0 : Int) * (k : Int)) % 4 = 0 := by omega
    rcases hk with hk | hk | hk | hk
    · have h1 : ((1 : Int) * (k : Int)) % 4 = 0 := by omega
      have h2 : ((2 : Int) * (k : Int)) % 4 = 0 := by omega
      have h3 : ((3 : Int) * (k : Int)) % 4 = 0 := by omega
      simp only [Pa, Su, h0, h1, h2, h3]; simp; omega
    · have h1 : ((1 : Int) * (k : Int)) % 4 = 1 := by omega
      have h2 : ((2 : Int) * (k : Int)) % 4 = 2 := by omega
      have h3 : ((3 : Int) * (k : Int)) % 4 = 3 := by omega
      simp only [Pa, Su, h0, h1, h2, h3]; simp; omega
    · have h1 : ((1 : Int) * (k : Int)) % 4 = 2 := by omega
      have h2 : ((2 : Int) * (k : Int)) % 4 = 0 := by omega
      have h3 : ((3 : Int) * (k : Int)) % 4 = 2 := by omega
      simp only [Pa, Su, h0, h1, h2, h3]; simp; omega
    · have h1 : ((1 : Int) * (k : Int)) % 4 = 3 := by omega
      have h2 : ((2 : Int) * (k : Int)) % 4 = 2 := by omega
      have h3 : ((3 : Int) * (k : Int)) % 4 = 1 := by omega
      simp only [Pa, Su, h0, h1, h2, h3]; simp; omega
/-- The alternating sum is the one at the frequency 2. -/
theorem Su_alt (s : ByteArray) (k : Nat) : Su (vAt true s) k = Pa 2 (vAt false s) 0 k - Pa 2 (vAt false s) 2 k := by
  induction k with
  | zero => simp [Pa, Su]
  | succ k ih =>
    rcases (show k % 2 = 0 ∨ k % 2 = 1 by omega) with hk | hk
    · have h2 : ((2 : Int) * (k : Int)) % 4 = 0 := by omega
      have hv : vAt true s k = vAt false s k := by unfold vAt; rw [if_neg (by simp; omega), if_neg (by simp)]
      simp only [Pa, Su, h2, hv]; simp; omega
    · have h2 : ((2 : Int) * (k : Int)) % 4 = 2 := by omega
      have hv : vAt true s k = -vAt false s k := by unfold vAt; rw [if_pos (by simp; omega), if_neg (by simp)]
      simp only [Pa, Su, h2, hv]; simp; omega
theorem Lo_Su_Hi (v : Nat → Int) (k : Nat) : Lo v k ≤ Su v k ∧ Su v k ≤ Hi v k ∧ Lo v k ≤ 0 ∧ 0 ≤ Hi v k := by
  induction k with
  | zero => simp [Lo, Su, Hi]
  | succ k ih => simp only [Lo, Hi]; omega
theorem wid_Su (t : Bool) (s : ByteArray) (n : Int) (h : wid t s ≤ n) : -n ≤ Su (vAt t s) s.size ∧ Su (vAt t s) s.size ≤ n := by
  have := Lo_Su_Hi (vAt t s) s.size
  unfold wid at h
  omega
/-- The sum at the offsets divisible by 4. -/
def q4 (v : Nat → Int) : Nat → Int | 0 => 0 | k + 1 => q4 v k + v (4 * k)
theorem q4_Pa (v : Nat → Int) (k n : Nat) (h1 : n ≤ 4 * k) (h2 : 4 * k < n + 4) : q4 v k = Pa 1 v 0 n := by
  induction k generalizing n with
  | zero =>
    obtain rfl : n = 0 := by omega
    rfl
  | succ k ih =>
    have step : ∀ m, m % 4 ≠ 0 → Pa 1 v 0 (m + 1) = Pa 1 v 0 m := fun m hm => Pa_miss 1 v 0 m (by omega)
    have h4 : Pa 1 v 0 (4 * k + 1) = Pa 1 v 0 (4 * k) + v (4 * k) := Pa_hit 1 v 0 (4 * k) _ rfl (by omega)
    have hq := ih (4 * k) (by omega) (by omega)
    simp only [q4]
    have e1 := step (4 * k + 1) (by omega)
    have e2 := step (4 * k + 2) (by omega)
    have e3 := step (4 * k + 3) (by omega)
    rcases (show n = 4 * k + 1 ∨ n = 4 * k + 2 ∨ n = 4 * k + 3 ∨ n = 4 * k + 4 by omega) with rfl | rfl | rfl | rfl
    · omega
    · rw [show 4 * k + 2 = 4 * k + 1 + 1 from rfl, e1]; omega
    · rw [show 4 * k + 3 = 4 * k + 2 + 1 from rfl, e2, show 4 * k + 2 = 4 * k + 1 + 1 from rfl, e1]; omega
    · rw [show 4 * k + 4 = 4 * k + 3 + 1 from rfl, e3, show 4 * k + 3 = 4 * k + 2 + 1 from rfl, e2, show 4 * k + 2 = 4 * k + 1 + 1 from rfl, e1]; omega
theorem q4_bd (v : Nat → Int) (hv : ∀ i, -1 ≤ v i ∧ v i ≤ 1) (k : Nat) : -(k : Int) ≤ q4 v k ∧ q4 v k ≤ k := by
  induction k with
  | zero => simp [q4]
  | succ k ih => have := hv (4 * k); simp only [q4]; omega
end Go.Proofs.Ytccdocnaijdcnaa
