/- octet: the walks of texts' ends. No condition. -/
import Derived.Test.YtnfidlgiaaeleaaOct
import Derived.Test.YtnfidlgiaaeleaaOctT
set_option linter.unusedVariables false
set_option linter.unusedSimpArgs false
namespace Go.Proofs.Try.Oct
open Go Go.Abs Go.Proofs Go.Mdl



end Go.Proofs.Try.Oct
