/- Numbers modulo the order of the group, as a field. -/
import Derived.Test.YtfappeeggccicaaDoorSyEA
import Derived.Test.YtfappeeggccicaaDoorSyHJ
set_option linter.unusedVariables false
set_option linter.unusedSimpArgs false
namespace Go.Sy
open Go
instance : NeZero ordN := ⟨by decide⟩
abbrev FN := Fin ordN
theorem FN.ext {a b : FN} (h : a.val = b.val) : a = b := Fin.ext h
theorem low_of {x : Nat} (h : lowV x = true) : x ≤ halfN := by simpa [lowV] using h
theorem of_check {s : P3} (h : checkV s = 0) : fitV s.1 = true ∧ fitV s.2.1 = true ∧ lowV s.2.1 = true := by
 unfold checkV at h
 by_cases h1 : fitV s.1 = true
 ·rw [if_pos h1] at h
  by_cases h2 : fitV s.2.1 = true
  ·rw [if_pos h2] at h
   by_cases h3 : lowV s.2.1 = true
   ·exact ⟨h1, h2, h3⟩
   ·rw [if_neg h3] at h; exact absurd h (by decide)
  ·rw [if_neg h2] at h; exact absurd h (by decide)
 ·rw [if_neg h1] at h; exact absurd h (by decide)
end Go.Sy
