/-
  Walks: why a list is no set of states, of the reference (door seat).
-/
import Derived.Test.YtlgjhmenjfmpfaaGa
import Derived.Test.YtlgjhmenjfmpfaaGp
namespace Go.Proofs.Ytlgjhmenjfmpfaa
open Go.RowKit Go.Sort Go.Lib

end Go.Proofs.Ytlgjhmenjfmpfaa
