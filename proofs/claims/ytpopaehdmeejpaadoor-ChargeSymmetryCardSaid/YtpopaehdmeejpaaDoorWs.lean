/-
  Walks: the reference's Balanced, the disparity of the program, small functions of the statements.
-/
import Derived.Test.YtpopaehdmeejpaaDoorPlainB
import Derived.Test.YtpopaehdmeejpaaDoorPlainP
import Derived.Test.YtpopaehdmeejpaaDoorWe
namespace Go.Proofs.YtpopaehdmeejpaaDoor
open Go.RowKit

theorem dsp_count (s : ByteArray) : 2 * (Lib.countByte s.data.toList 49 : Int) - s.size = dsp s := by
  have h : ∀ k, k ≤ s.size → 2 * (((s.data.toList.take k).count 49 : Nat) : Int) - k = Su (vAt false s) k := by
    intro k
    induction k with
    | zero => intro _; simp [Su]
    | succ k ih =>
      intro hk
      have := ih (by omega)
      rw [take_snoc s k (by omega), List.count_append, Su, vAt_f s k (by omega)]
      have hc : ([s[k]] : List UInt8).count 49 = if s[k] = 49 then 1 else 0 := by
        by_cases e : s[k] = 49
        · simp [e]
        · simp [e]
      rw [hc]
      unfold val1
      by_cases e : s[k] = 49
      · rw [if_pos e, if_pos (by rw [e]; rfl)]; omega
      · have e' : ¬ ((s[k].toNat : Int) = 49) := fun h => e (UInt8.toNat.inj (by show s[k].toNat = 49; omega))
        rw [if_neg e, if_neg e']; omega
  have := h s.size (Nat.le_refl _)
  rw [List.take_of_length_le (by simp)] at this
  exact this

/-- What Disparity answers. -/
def dis (s : ByteArray) : Int × Int := if wchk 2 s.data.toList ≠ 0 then (0, wchk 2 s.data.toList) else (dsp s, 0)

/-- A binary word, and short enough. -/
def bin (s : ByteArray) (n : Int) : Bool := decide ((s.size : Int) ≤ n) && (wchk 2 s.data.toList == 0)

set_option maxHeartbeats 400000 in
theorem binary_any (s : ByteArray) (n : Int) (w : World) (hs : s.size ≤ maxLen) :
    Calls Tryd.prog 4 #[.string s, .int .i64 n] w fun e w' => e = .returned (.bool (bin s n)) ∧ Dr w w' := by
  by_cases h1 : (s.size : Int) ≤ n
  · have HB : Hid (bin s n = (wchk 2 s.data.toList == 0)) := by unfold Hid bin; rw [decide_eq_true h1]; rfl
    go_enter Tryd.func4, Tryd.ntmps4
    go_wp2_with fail
    refine (wcheck_any 2 s _ hs).mono ?_
    rintro e w1 ⟨rfl, hD⟩
    go_wp2
    go_ret
    exact ⟨ret_bool HB.out.symm, hD⟩
  · have HB : Hid (bin s n = false) := by unfold Hid bin; rw [decide_eq_false h1]; rfl
    have hd := decide_eq_false h1
    go_enter Tryd.func4, Tryd.ntmps4
    go_wp2
    go_ret
    exact ⟨ret_bool HB.out.symm, Dr.refl _⟩

def iabs (x : Int) : Int := max x (-x)
end Go.Proofs.YtpopaehdmeejpaaDoor
