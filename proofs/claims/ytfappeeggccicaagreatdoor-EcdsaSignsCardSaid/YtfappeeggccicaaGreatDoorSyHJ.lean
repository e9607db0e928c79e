/- The group's order: n times any point is the identity. -/
import Derived.Test.YtfappeeggccicaaGreatDoorSyHa
set_option linter.unusedVariables false
set_option linter.unusedSimpArgs false
namespace Go.Sy
open Go
abbrev J3n := Nat × Nat × Nat
def mP (a b : Nat) : Nat := a * b % prP
def sP (a b : Nat) : Nat := (a + (prP - b % prP) % prP) % prP
def hN (j : J3n) : Nat := sP (mP gN.1 (mP j.2.2 j.2.2)) j.1
end Go.Sy
