/- Numbers modulo the order of the group, as a field. -/
import Derived.Test.YtfappeeggccicaaGreatDoorSyEA
import Derived.Test.YtfappeeggccicaaGreatDoorSyHJ
set_option linter.unusedVariables false
set_option linter.unusedSimpArgs false
namespace Go.Sy
open Go
instance : NeZero ordN := ⟨by decide⟩
abbrev FN := Fin ordN
theorem FN.ext {a b : FN} (h : a.val = b.val) : a = b := Fin.ext h
theorem fit_of {x : Nat} (h : fitV x = true) : x ≠ 0 ∧ x < ordN := by simpa [fitV] using h
end Go.Sy
