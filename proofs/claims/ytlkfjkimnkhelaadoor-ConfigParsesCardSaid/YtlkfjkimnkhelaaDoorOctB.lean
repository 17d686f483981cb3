/- octet: the walks of texts' ends. No condition. -/
import Derived.Test.YtlkfjkimnkhelaaDoorOct
import Derived.Test.YtlkfjkimnkhelaaDoorOctT
set_option linter.unusedVariables false
set_option linter.unusedSimpArgs false
namespace Go.Proofs.Tryd.Oct
open Go Go.Abs Go.Proofs Go.Mdl



end Go.Proofs.Tryd.Oct
