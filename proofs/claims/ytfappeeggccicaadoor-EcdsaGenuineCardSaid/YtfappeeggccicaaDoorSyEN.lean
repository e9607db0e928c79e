/- Numbers modulo the order of the group, as a field. -/

import Derived.Test.YtfappeeggccicaaDoorSyEA

import Derived.Test.YtfappeeggccicaaDoorSyHJ

set_option linter.unusedVariables false

set_option linter.unusedSimpArgs false

namespace Go.Sy

open Go

instance : NeZero ordN := ⟨by decide⟩

/-- The field. -/
abbrev FN := Fin ordN

theorem FN.ext {a b : FN} (h : a.val = b.val) : a = b := Fin.ext h

def toN (n : Nat) : FN := ⟨n % ordN, Nat.mod_lt _ ordN_pos⟩

theorem toN_mod (n : Nat) : toN (n % ordN) = toN n := FN.ext (Nat.mod_mod _ _)

theorem toN_add (a b : Nat) : toN (a + b) = toN a + toN b := FN.ext (Nat.add_mod _ _ _)

theorem toN_mul (a b : Nat) : toN (a * b) = toN a * toN b := FN.ext (Nat.mul_mod _ _ _)

theorem toN_mulm (a b : Nat) : toN (a * b % ordN) = toN a * toN b := (toN_mod _).trans (toN_mul a b)

theorem toN_addm (a b : Nat) : toN ((a + b) % ordN) = toN a + toN b := (toN_mod _).trans (toN_add a b)

theorem toN_ord : toN ordN = 0 := by decide

theorem toN_zero : toN 0 = 0 := rfl

theorem toN_one : toN 1 = 1 := by decide

theorem toN_neg (y : Nat) : toN ((ordN - y % ordN) % ordN) = -toN y := by
  have h1 : toN ((ordN - y % ordN) + y % ordN) = 0 := by
    rw [Nat.sub_add_cancel (Nat.le_of_lt (Nat.mod_lt y ordN_pos))]; exact toN_ord
  rw [toN_add, toN_mod] at h1
  rw [toN_mod]
  grind

theorem toN_wN {x : Nat} (h0 : x ≠ 0) (h : x < ordN) : toN x * toN (wN x) = 1 := by
  have h1 : x % modK 1 ≠ 0 := by rw [modK_1, Nat.mod_eq_of_lt h]; exact h0
  have h2 : wN x = x ^ (ordN - 2) % ordN := by unfold wN; rw [invK_good (.inr rfl) h1]; rfl
  have h3 : x * (x ^ (ordN - 2) % ordN) % ordN = 1 := inv_mul 1 h1
  rw [← toN_mulm, h2, h3]; exact toN_one

theorem fit_of {x : Nat} (h : fitV x = true) : x ≠ 0 ∧ x < ordN := by simpa [fitV] using h

theorem of_fit {x : Nat} (h0 : x ≠ 0) (h : x < ordN) : fitV x = true := by simp [fitV, h0, h]

theorem of_low {x : Nat} (h : x ≤ halfN) : lowV x = true := by simp [lowV, h]

theorem not_low {x : Nat} (h : ¬ lowV x = true) : halfN < x := by simpa [lowV] using h

theorem two_half : 2 * halfN + 1 = ordN := by decide

theorem negS {s : Nat} (h0 : s ≠ 0) (h : s < ordN) : (ordN - s % ordN) % ordN = ordN - s := by
  rw [Nat.mod_eq_of_lt h, Nat.mod_eq_of_lt (by omega)]

theorem check_of {r s : Nat} {o : Bool} (h1 : fitV r = true) (h2 : fitV s = true) (h3 : lowV s = true) : checkV (r, s, o) = 0 := by
  unfold checkV
  rw [if_pos h1, if_pos h2, if_pos h3]

end Go.Sy
