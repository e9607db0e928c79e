/- Plain law: what Recover answers, by the group alone. -/
import Derived.Test.YtfappeeggccicaaDoorSyEB
set_option linter.unusedVariables false
set_option linter.unusedSimpArgs false
namespace Go.Sy
open Go
end Go.Sy
