/- The group's order: n times any point is the identity. -/
import Derived.Test.YtfappeeggccicaaDoorSyHa
set_option linter.unusedVariables false
set_option linter.unusedSimpArgs false
namespace Go.Sy
open Go
abbrev J3n := Nat × Nat × Nat
end Go.Sy
