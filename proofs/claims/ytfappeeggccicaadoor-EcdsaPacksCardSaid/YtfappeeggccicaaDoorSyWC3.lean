/- The links: each typed function is what the code computes. Printed by a program. -/
import Derived.Test.YtfappeeggccicaaDoorSyVC3
import Derived.Test.YtfappeeggccicaaDoorSyWC2
set_option linter.unusedVariables false
set_option maxRecDepth 100000
namespace Go.Sy
open Go Go.Proofs
end Go.Sy
