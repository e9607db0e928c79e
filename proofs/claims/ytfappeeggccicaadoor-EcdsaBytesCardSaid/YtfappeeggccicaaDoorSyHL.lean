/- Points of an x, and back. -/
import Derived.Test.YtfappeeggccicaaDoorSyHa
set_option linter.unusedVariables false
set_option linter.unusedSimpArgs false
namespace Go.Sy
open Go
end Go.Sy
