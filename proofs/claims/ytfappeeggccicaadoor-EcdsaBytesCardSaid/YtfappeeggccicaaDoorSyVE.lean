/- Typed functions, printed by a program out of the code: what each function of the code computes. -/
import Derived.Test.YtfappeeggccicaaDoorSyVC3
set_option linter.unusedVariables false
namespace Go.Sy
open Go
end Go.Sy
