/-
  Walks: the states that are reached from a set by a label, of the reference (door seat).
-/
import Derived.Test.YtlgjhmenjfmpfaaGy
import Derived.Test.YtlgjhmenjfmpfaaGs
namespace Go.Proofs.Ytlgjhmenjfmpfaa
open Go.RowKit Go.Sort Go.Shelf Go.Lib

/-- The states that are reached from a set by a label, and the error. -/
def stepA (G : Gr) (st : List Int) (b : Int) : List Int × Int := if chkG G = 0 then (if chkS G.n none st = 0 then (if b < 0 ∨ G.q ≤ b then ([], 2) else (nextA G st b, 0)) else ([], chkS G.n none st)) else ([], 1)

end Go.Proofs.Ytlgjhmenjfmpfaa
