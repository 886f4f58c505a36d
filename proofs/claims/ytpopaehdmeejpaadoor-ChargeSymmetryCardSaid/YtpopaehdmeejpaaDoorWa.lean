/-
  Walks: the letters and the checks of words; the disparity and the range of the reference.
-/
import Derived.Test.YtpopaehdmeejpaaDoorProg
import Derived.Test.YtpopaehdmeejpaaDoorPlain
import Derived.WalkKit
import Derived.WalkSpells
import Derived.WalkLawsBesides
import Derived.Deep.QuietTactic
import Derived.BigQuiet
namespace Go.Proofs.YtpopaehdmeejpaaDoor
open Go.RowKit

end Go.Proofs.YtpopaehdmeejpaaDoor
