/-
  Walks: the part of a graph on a set, checked (door seat).
-/
import Derived.Test.YtlgjhmenjfmpfaaGn
import Derived.Test.YtlgjhmenjfmpfaaGs
namespace Go.Proofs.Ytlgjhmenjfmpfaa
open Go.RowKit Go.Sort Go.Shelf Go.Lib

/-- The part on a set, and the error. -/
def keepA (G : Gr) (st : List Int) : Gr × Int := if chkG G = 0 then (if chkS G.n none st = 0 then (partA G st, 0) else (⟨0, 0, []⟩, chkS G.n none st)) else (⟨0, 0, []⟩, 1)

end Go.Proofs.Ytlgjhmenjfmpfaa
