/-
  Walks: whether a graph is deterministic.
-/
import Derived.Test.YtlgjhmenjfmpfaaGh
namespace Go.Proofs.Ytlgjhmenjfmpfaa
open Go.RowKit Go.Sort Go.Shelf Go.Lib

theorem ret_bi' {a : Bool} {b : Int} {x : Bool × Int} (h : x = (a, b)) : Ending.returned (.tuple #[.bool a, .int .i64 b]) = .returned (.tuple #[.bool x.1, .int .i64 x.2]) := by subst h; rfl
def TwoEds (w : World) (a b : Ed) (u v : Value) (wx : World) : Prop :=
  ∃ g h, u = .pointer (some ⟨g, 0, none⟩) ∧ v = .pointer (some ⟨h, 0, none⟩) ∧ VRow wx g 47 (edE a) ∧ VRow wx h 47 (edE b) ∧ Below w.heap.size w wx
end Go.Proofs.Ytlgjhmenjfmpfaa
