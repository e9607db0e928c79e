/- Multiples on both sides; the laws of multiples. -/
import Derived.Test.YtfappeeggccicaaDoorSyVC2
import Derived.Test.YtfappeeggccicaaDoorSyHa
set_option linter.unusedVariables false
set_option linter.unusedSimpArgs false
namespace Go.Sy
open Go
abbrev J3 := Nat × Nat × Nat
abbrev getJ (l : List J3) (i : Nat) : J3 := l.getD i ((0, 0, 0) : Nat × Nat × Nat)
end Go.Sy
