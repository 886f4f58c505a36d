/-
  Walks: Polarity of the program, refusals too.
-/
import Derived.Test.YtlgjhmenjfmpfaaChWp
namespace Go.Proofs.Ytlgjhmenjfmpfaa.Chg
open Go.RowKit

/-- A slice of bools, and an error number, in memory of the call's own. -/
def RetSlB (r : List Bool) (k : Int) (w : World) (e : Ending) (w' : World) : Prop :=
  ∃ q d, e = .returned (.tuple #[.slice q r.length d, .int .i64 k]) ∧ Sl w' Value.bool q r ∧ Below w.heap.size w w'
theorem RetSlB.mk {r r' : List Bool} {k k' : Int} {w w' : World} {q : Option Addr} {d : Nat} (hr : k = k' ∧ r = r') (hs : Sl w' Value.bool q r') (hB : Below w.heap.size w w') :
    RetSlB r k w (.returned (.tuple #[.slice q r'.length d, .int .i64 k'])) w' := by
  obtain ⟨rfl, rfl⟩ := hr; exact ⟨q, d, rfl, hs, hB⟩
theorem RetSlB.nil {r : List Bool} {k k' : Int} {w w' : World} {q : Option Addr} {d : Nat} (hr : k = k' ∧ r = []) (hB : Below w.heap.size w w') :
    RetSlB r k w (.returned (.tuple #[.slice q 0 d, .int .i64 k'])) w' := by
  obtain ⟨rfl, rfl⟩ := hr; exact ⟨q, d, rfl, Sl.nil _ _ _, hB⟩

set_option maxHeartbeats 400000 in
theorem polar_any (l : List ByteArray) (p : Option Addr) (c : Nat) (x : Int) (w : World) (hl : l.length ≤ 9223372036854775807) (hp : Sl w Value.string p l) (hz : ∀ j (hj : j < l.length), l[j].size ≤ maxLen) :
    Calls Try.prog 31 #[.slice p l.length c, .int .i64 x] w (RetSlB (polR x l) (polErr x l) w) := by
  by_cases h1 : x < -65536
  · have HP := hidI (pol_out x l (.inl h1))
    go_enter Try.func31, Try.ntmps31
    go_wp2
    go_ret2
    exact RetSlB.nil HP.out (Below.refl _ _)
  by_cases h2 : 65536 < x
  · have HP := hidI (pol_out x l (.inr h2))
    go_enter Try.func31, Try.ntmps31
    go_wp2
    go_ret2
    exact RetSlB.nil HP.out (Below.refl _ _)
  by_cases h3 : 4096 < l.length
  · have HP := hidI (pol_long x l (by omega) (by omega) h3)
    go_enter Try.func31, Try.ntmps31
    go_wp2
    go_ret2
    exact RetSlB.nil HP.out (Below.refl _ _)
  exact callsIn_wide.1 (polar_in l p c x w (by omega) (by omega) (by omega) hp hz)

end Go.Proofs.Ytlgjhmenjfmpfaa.Chg
