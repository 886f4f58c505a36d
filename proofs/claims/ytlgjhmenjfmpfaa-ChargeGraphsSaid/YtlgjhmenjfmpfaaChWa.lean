/-
  Walks: the letters and the checks of words; the disparity and the range of the reference.
-/
import Derived.Test.YtlgjhmenjfmpfaaProg
import Derived.Test.YtlgjhmenjfmpfaaChPlain
import Derived.WalkKit
import Derived.WalkSpells
import Derived.WalkLawsBesides
import Derived.Deep.QuietTactic
import Derived.BigQuiet
namespace Go.Proofs.Ytlgjhmenjfmpfaa.Chg
open Go.RowKit

end Go.Proofs.Ytlgjhmenjfmpfaa.Chg
