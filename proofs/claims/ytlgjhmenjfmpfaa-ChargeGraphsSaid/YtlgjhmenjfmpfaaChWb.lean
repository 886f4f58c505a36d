/-
  Walks: Valid, NullValid and Spectrum of the reference; the check of words of the program.
-/
import Derived.Test.YtlgjhmenjfmpfaaChWa
namespace Go.Proofs.Ytlgjhmenjfmpfaa.Chg
open Go.RowKit

set_option maxHeartbeats 400000 in
theorem known_t (q : Int) (w : World) (h1 : 1 ≤ q) (h2 : q ≤ 16) :
    Calls Try.prog 49 #[.int .i64 q] w fun e w' => e = .returned (.bool true) ∧ w = w' := by
  go_enter Try.func49, Try.ntmps49
  go_wp2
  go_ret
  exact ⟨rfl, rfl⟩

set_option maxHeartbeats 400000 in
theorem known_f (q : Int) (w : World) (h : q < 1 ∨ 16 < q) :
    Calls Try.prog 49 #[.int .i64 q] w fun e w' => e = .returned (.bool false) ∧ w = w' := by
  by_cases h1 : 1 ≤ q
  · have h2 : 16 < q := by omega
    go_enter Try.func49, Try.ntmps49
    go_wp2
    go_ret
    exact ⟨ret_bool (by simp; omega), rfl⟩
  · go_enter Try.func49, Try.ntmps49
    go_wp2
    go_ret
    exact ⟨rfl, rfl⟩
end Go.Proofs.Ytlgjhmenjfmpfaa.Chg
