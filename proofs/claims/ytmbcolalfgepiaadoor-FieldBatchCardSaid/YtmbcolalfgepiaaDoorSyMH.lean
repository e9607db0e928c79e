/- The document's numbers: digits of 32 bits. -/
import Derived.Test.YtmbcolalfgepiaaDoorSyMG
set_option linter.unusedVariables false
set_option linter.unusedSimpArgs false
namespace Go.Sy
open Go

/-- The eight digits of 32 bits. -/
def dg (x : Nat) : List Nat := [ln x 0 % 4294967296, ln x 0 / 4294967296, ln x 1 % 4294967296, ln x 1 / 4294967296, ln x 2 % 4294967296, ln x 2 / 4294967296, ln x 3 % 4294967296, ln x 3 / 4294967296]

theorem tmod32 (n : Nat) : Int.tmod (n : Int) 4294967296 = ((n % 4294967296 : Nat) : Int) := by
  rw [Int.tmod_eq_emod_of_nonneg (by omega)]; omega
theorem tdiv32 (n : Nat) : Int.tdiv (n : Int) 4294967296 = ((n / 4294967296 : Nat) : Int) := by
  rw [Int.tdiv_eq_ediv_of_nonneg (by omega)]; omega
theorem wdiv32 (n : Nat) (h : n < 18446744073709551616) : IntKind.wrap .u64 (Int.tdiv (n : Int) 4294967296) = ((n / 4294967296 : Nat) : Int) := by
  rw [tdiv32, wrap64]; omega

theorem digits_val (x : Nat) : ref01IDigits x = some (cst (dg x)) := by
  rw [ref01IDigits_eq]
  unfold ref01IDigitsB
  rw [limb_ln, limb_ln, limb_ln, limb_ln, tmod32, tmod32, tmod32, tmod32, wdiv32 _ (ln_lt x 0), wdiv32 _ (ln_lt x 1), wdiv32 _ (ln_lt x 2), wdiv32 _ (ln_lt x 3)]
  rfl
theorem dg_val {x : Nat} (h : x < M256) : valL 4294967296 (dg x) = x := by
  have := ln_sum h
  have := ln_lt x 0; have := ln_lt x 1; have := ln_lt x 2; have := ln_lt x 3
  simp only [valL, dg]
  omega
theorem dg_digs (x : Nat) : digs 4294967296 (dg x) := by
  have := ln_lt x 0; have := ln_lt x 1; have := ln_lt x 2; have := ln_lt x 3
  intro k
  match k with
  | 0 => simp [dg]; omega
  | 1 => simp [dg]; omega
  | 2 => simp [dg]; omega
  | 3 => simp [dg]; omega
  | 4 => simp [dg]; omega
  | 5 => simp [dg]; omega
  | 6 => simp [dg]; omega
  | 7 => simp [dg]; omega
  | k + 8 => simp [dg]
end Go.Sy
