/-
  Walks: the edges that leave a state, as a sequence (door seat).
-/
import Derived.Test.YtkknkbdkokdbfaaDoorHm
namespace Go.Proofs.YtkknkbdkokdbfaaDoor
open Go.RowKit

set_option maxHeartbeats 1000000 in
theorem leaving_in (F : Fence) (n : Nat) (hf : F.fn 48) (hro : F.round = none) (g : Value) (s : Int) (q m : Int) (p : Option Addr) (k c : Nat) (hg : g = .agg #[.int .i64 q, .int .i64 m, .slice p k c]) (w : World) :
    CallsIn F n Tryd.prog 48 #[g, .int .i64 s] w fun e w' => e = .returned (.func (.func 70) #[] #[.pointer (some ⟨w.heap.size, 0, none⟩), .pointer (some ⟨w.heap.size + 1, 0, none⟩)]) ∧
      w' = (w.alloc (.cells #[.int .i64 q, .int .i64 m, .slice p k c] 24)).alloc (.cells #[.int .i64 s] 3) := by
  subst hg
  refine callsIn_of_wp Tryd.func48 rfl hf ?_ hro
  simp only [Tryd.ntmps48, List.size_toArray, List.length_cons, List.length_nil, Nat.reduceAdd, Nat.reduceSub, Array.replicate_succ, Array.replicate_zero, List.push_toArray, List.append_toArray, List.nil_append, List.cons_append]
  gi_wp2
  go_ret
  exact ⟨rfl, rfl⟩
end Go.Proofs.YtkknkbdkokdbfaaDoor
