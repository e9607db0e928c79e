/- What the curve's functions compute: points, sums. -/
import Derived.Test.YtfappeeggccicaaDoorSyVC1
import Derived.Test.YtfappeeggccicaaDoorSyGb
import Derived.Test.YtfappeeggccicaaDoorSyMa3
set_option linter.unusedVariables false
set_option linter.unusedSimpArgs false
namespace Go.Sy
open Go
def rhsN (x : Nat) : Nat := (x * (x * x % prP) % prP + 7) % prP
theorem cmp_neg {a b : Nat} : decide (cmpI a b < 0) = decide (a < b) := by
 unfold cmpI
 by_cases h : a < b
 ·simp [h]
 ·rw [if_neg h]; split <;> simp [h]
abbrev P3 := Nat × Nat × Bool
def OnN (p : P3) : Prop := (p.2.2 = true ∧ p.1 = 0 ∧ p.2.1 = 0) ∨ (p.2.2 = false ∧ p.1 < prP ∧ p.2.1 < prP ∧ p.2.1 * p.2.1 % prP = rhsN p.1)
instance (p : P3) : Decidable (OnN p) := by unfold OnN; infer_instance
def In256 (p : P3) : Prop := p.1 < M256 ∧ p.2.1 < M256
theorem eqP_step {x1 x2 : Nat} {b1 : Bool} {p q : P3} (hp : In256 p) (hq : In256 q) : ((u256eq p.1 q.1) && ((u256eq p.2.1 q.2.1) && (p.2.2 == q.2.2))) = decide (p = q) := by
 obtain ⟨a, b, c⟩ := p
 obtain ⟨d, e, f⟩ := q
 simp only [u256eq_val hp.1 hq.1, u256eq_val hp.2 hq.2]
 by_cases h1 : a = d <;> by_cases h2 : b = e <;> by_cases h3 : c = f <;> simp [h1, h2, h3]
end Go.Sy
set_option linter.unusedVariables false
set_option linter.unusedSimpArgs false
namespace Go.Sy
open Go
abbrev getP (l : List P3) (i : Nat) : P3 := l.getD i ((0, 0, false) : Nat × Nat × Bool)
theorem sameP {p : P3} (h : In256 p) : ((u256eq p.1 p.1) && ((u256eq p.2.1 p.2.1) && (p.2.2 == p.2.2))) = true := by
 rw [eqP_step (x1 := 0) (x2 := 0) (b1 := true) h h]; simp
theorem nsameP {p : P3} (h : In256 p) : (!((u256eq p.1 p.1) && ((u256eq p.2.1 p.2.1) && (p.2.2 == p.2.2)))) = false := by rw [sameP h]; rfl
end Go.Sy
set_option linter.unusedVariables false
set_option linter.unusedSimpArgs false
namespace Go.Sy
open Go
end Go.Sy
