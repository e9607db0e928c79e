/- What the curve's functions compute: points, sums. -/
import Derived.Test.YtfappeeggccicaaDoorSyVC1
import Derived.Test.YtfappeeggccicaaDoorSyGb
import Derived.Test.YtfappeeggccicaaDoorSyMa3
set_option linter.unusedVariables false
set_option linter.unusedSimpArgs false
namespace Go.Sy
open Go
def rhsN (x : Nat) : Nat := (x * (x * x % prP) % prP + 7) % prP
theorem cmp_neg {a b : Nat} : decide (cmpI a b < 0) = decide (a < b) := by
 unfold cmpI
 by_cases h : a < b
 ·simp [h]
 ·rw [if_neg h]; split <;> simp [h]
abbrev P3 := Nat × Nat × Bool
def OnN (p : P3) : Prop := (p.2.2 = true ∧ p.1 = 0 ∧ p.2.1 = 0) ∨ (p.2.2 = false ∧ p.1 < prP ∧ p.2.1 < prP ∧ p.2.1 * p.2.1 % prP = rhsN p.1)
instance (p : P3) : Decidable (OnN p) := by unfold OnN; infer_instance
def In256 (p : P3) : Prop := p.1 < M256 ∧ p.2.1 < M256
end Go.Sy
set_option linter.unusedVariables false
set_option linter.unusedSimpArgs false
namespace Go.Sy
open Go
abbrev getP (l : List P3) (i : Nat) : P3 := l.getD i ((0, 0, false) : Nat × Nat × Bool)
end Go.Sy
set_option linter.unusedVariables false
set_option linter.unusedSimpArgs false
namespace Go.Sy
open Go
end Go.Sy
