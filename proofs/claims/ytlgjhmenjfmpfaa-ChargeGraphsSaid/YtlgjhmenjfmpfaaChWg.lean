/-
  Walks: Balanced of the program.
-/
import Derived.Test.YtlgjhmenjfmpfaaChWe
namespace Go.Proofs.Ytlgjhmenjfmpfaa.Chg
open Go.RowKit

set_option maxHeartbeats 400000 in
theorem balanced_any (n : Int) (w : World) :
    Calls Try.prog 32 #[.int .i64 n] w fun e w' => e = .returned (.tuple #[.int .i64 (blc n).1, .int .i64 (blc n).2]) ∧ w = w' := by
  by_cases h1 : n < 0
  · have HP := hidI (blc_out n (.inl h1))
    go_enter Try.func32, Try.ntmps32
    go_wp2
    go_ret2
    exact ⟨ret_ii HP.out, rfl⟩
  by_cases h2 : 30 < n
  · have HP := hidI (blc_out n (.inr h2))
    go_enter Try.func32, Try.ntmps32
    go_wp2
    go_ret2
    exact ⟨ret_ii HP.out, rfl⟩
  by_cases ho : n % 2 = 1
  · have HP := hidI (blc_odd n (by omega) (by omega) ho)
    have ho' : (n % 2 == 1) = true := by simpa using ho
    go_enter Try.func32, Try.ntmps32
    go_wp2
    go_ret2
    exact ⟨ret_ii HP.out, rfl⟩
  obtain ⟨m, rfl⟩ : ∃ m : Nat, n = 2 * m := ⟨(n / 2).toNat, by omega⟩
  have hm : m ≤ 15 := by omega
  have HP := hidI (blc_even m hm)
  have ho' : (2 * (m : Int) % 2 == 1) = false := by simp
  clear ho h1 h2
  go_enter Try.func32, Try.ntmps32
  go_wp2
  go_loop [4, 5] (fun o i => ∃ k : Nat, k ≤ m ∧ i = .int .i64 (k + 1 : Nat) ∧ o = .int .i64 (balp m k)) (fun _ i => m + 1 - (intOf i).toNat)
  case atStart => exact ⟨0, by omega, rfl, rfl⟩
  case round =>
    obtain ⟨k, hk, rfl, rfl⟩ := hrel
    have hb := balp_tab m (by omega) k (by omega)
    by_cases hlt : k < m
    · go_wp2
      have hst := balp_step m (by omega) k (by omega)
      go_round
      case rel => exact ⟨k + 1, by omega, by go_num, int_eq hst⟩
      case measure => simp [intOf]; omega
    · obtain rfl : k = m := by omega
      go_wp2
      go_ret2
      exact ⟨ret_ii HP.out, rfl⟩
end Go.Proofs.Ytlgjhmenjfmpfaa.Chg
