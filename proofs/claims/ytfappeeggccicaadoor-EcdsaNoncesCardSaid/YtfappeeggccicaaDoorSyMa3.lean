/- Bits, lengths, powers on both sides: the law of powers. -/

import Derived.Test.YtfappeeggccicaaDoorSyMa1

import Derived.Test.YtfappeeggccicaaDoorSyMa2

set_option linter.unusedVariables false

set_option linter.unusedSimpArgs false

namespace Go.Sy

open Go

theorem wI64 (n : Nat) (h : n < 9223372036854775808) : IntKind.wrap .i64 (n : Int) = (n : Int) := by
  have h1 : (IntKind.i64).signed = true := rfl
  have h2 : (2 : Int) ^ (IntKind.i64).bits = 18446744073709551616 := rfl
  have h3 : (2 : Int) ^ ((IntKind.i64).bits - 1) = 9223372036854775808 := rfl
  simp only [IntKind.wrap, h1, h2, h3, Bool.true_and]
  have e : (n : Int) % 18446744073709551616 = n := by omega
  rw [e]
  rw [if_neg (by simp; omega)]

theorem wI64z (z : Int) (h1 : -9223372036854775808 ≤ z) (h2 : z < 9223372036854775808) : IntKind.wrap .i64 z = z := by
  have g1 : (IntKind.i64).signed = true := rfl
  have g2 : (2 : Int) ^ (IntKind.i64).bits = 18446744073709551616 := rfl
  have g3 : (2 : Int) ^ ((IntKind.i64).bits - 1) = 9223372036854775808 := rfl
  simp only [IntKind.wrap, g1, g2, g3, Bool.true_and]
  split
  · rename_i h; simp at h; omega
  · rename_i h; simp at h; omega

theorem shrN (n s : Nat) (h : s ≤ 64) : shrI .u64 (n : Int) (s : Int) = ((n / 2 ^ s : Nat) : Int) := by
  have e : min (s : Int).toNat (IntKind.u64).bits = s := by
    have : (IntKind.u64).bits = 64 := rfl
    rw [this]; simp; omega
  simp only [shrI, e]
  have : (2 : Int) ^ s = ((2 ^ s : Nat) : Int) := by simp
  rw [this, Int.fdiv_eq_ediv_of_nonneg _ (Int.natCast_nonneg _)]
  exact (Int.natCast_ediv _ _).symm

end Go.Sy

set_option linter.unusedVariables false

set_option linter.unusedSimpArgs false

namespace Go.Sy

open Go

end Go.Sy

set_option linter.unusedVariables false

set_option linter.unusedSimpArgs false

namespace Go.Sy

open Go

theorem ansK_good {k : Int} (h : k = 0 ∨ k = 1) (v : Nat) : ansK k v = (v, 0) := by unfold ansK; rw [if_pos h]

end Go.Sy

set_option linter.unusedVariables false

set_option linter.unusedSimpArgs false

namespace Go.Sy

open Go

theorem orN {a b : Nat} (ha : a < 18446744073709551616) (hb : b < 18446744073709551616) : orI .u64 (a : Int) (b : Int) = ((a ||| b : Nat) : Int) := by
  have e : ∀ n : Nat, n < 18446744073709551616 → (BitVec.ofInt (IntKind.u64).bits (n : Int)).toNat = n := fun n hn => by
    rw [BitVec.toNat_ofInt]
    have : ((2 ^ (IntKind.u64).bits : Nat) : Int) = 18446744073709551616 := rfl
    rw [this]; omega
  simp only [orI_eq, BitVec.toNat_or, e a ha, e b hb]
  rw [wrap64, Nat.mod_eq_of_lt (Nat.or_lt_two_pow (n := 64) ha hb)]

theorem shlN (n s : Nat) (h : s ≤ 64) : shlI .u64 (n : Int) (s : Int) = ((n * 2 ^ s % 18446744073709551616 : Nat) : Int) := by
  have e : min (s : Int).toNat (IntKind.u64).bits = s := by
    have : (IntKind.u64).bits = 64 := rfl
    rw [this]; simp; omega
  simp only [shlI, e]
  have : ((n : Int) * (2 : Int) ^ s) = ((n * 2 ^ s : Nat) : Int) := by simp
  rw [this, wrap64]

end Go.Sy

set_option linter.unusedVariables false

set_option linter.unusedSimpArgs false

namespace Go.Sy

open Go

end Go.Sy

set_option linter.unusedVariables false

set_option linter.unusedSimpArgs false

namespace Go.Sy

open Go

end Go.Sy

set_option linter.unusedVariables false

set_option linter.unusedSimpArgs false

namespace Go.Sy

open Go

end Go.Sy

set_option linter.unusedVariables false

set_option linter.unusedSimpArgs false

namespace Go.Sy

open Go

end Go.Sy

set_option linter.unusedVariables false

set_option linter.unusedSimpArgs false

namespace Go.Sy

open Go

theorem blt_of {a b : Nat} (h : a < b) : Nat.blt a b = true := by simpa using h

end Go.Sy
