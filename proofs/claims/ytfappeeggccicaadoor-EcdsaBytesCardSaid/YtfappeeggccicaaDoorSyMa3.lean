/- Bits, lengths, powers on both sides: the law of powers. -/
import Derived.Test.YtfappeeggccicaaDoorSyMa1
import Derived.Test.YtfappeeggccicaaDoorSyMa2
set_option linter.unusedVariables false
set_option linter.unusedSimpArgs false
namespace Go.Sy
open Go
theorem wI64 (n : Nat) (h : n < 9223372036854775808) : IntKind.wrap .i64 (n : Int) = (n : Int) := by
 have h1 : (IntKind.i64).signed = true := rfl
 have h2 : (2 : Int) ^ (IntKind.i64).bits = 18446744073709551616 := rfl
 have h3 : (2 : Int) ^ ((IntKind.i64).bits - 1) = 9223372036854775808 := rfl
 simp only [IntKind.wrap, h1, h2, h3, Bool.true_and]
 have e : (n : Int) % 18446744073709551616 = n := by omega
 rw [e]
 rw [if_neg (by simp; omega)]
theorem wI64z (z : Int) (h1 : -9223372036854775808 ≤ z) (h2 : z < 9223372036854775808) : IntKind.wrap .i64 z = z := by
 have g1 : (IntKind.i64).signed = true := rfl
 have g2 : (2 : Int) ^ (IntKind.i64).bits = 18446744073709551616 := rfl
 have g3 : (2 : Int) ^ ((IntKind.i64).bits - 1) = 9223372036854775808 := rfl
 simp only [IntKind.wrap, g1, g2, g3, Bool.true_and]
 split
 ·rename_i h; simp at h; omega
 ·rename_i h; simp at h; omega
theorem shrN (n s : Nat) (h : s ≤ 64) : shrI .u64 (n : Int) (s : Int) = ((n / 2 ^ s : Nat) : Int) := by
 have e : min (s : Int).toNat (IntKind.u64).bits = s := by
  have : (IntKind.u64).bits = 64 := rfl
  rw [this]; simp; omega
 simp only [shrI, e]
 have : (2 : Int) ^ s = ((2 ^ s : Nat) : Int) := by simp
 rw [this, Int.fdiv_eq_ediv_of_nonneg _ (Int.natCast_nonneg _)]
 exact (Int.natCast_ediv _ _).symm
theorem tdiv64 (i : Nat) (h : i < 256) : IntKind.wrap .i64 (Int.tdiv (i : Int) (64 : Int)) = ((i / 64 : Nat) : Int) := by
 have : Int.tdiv (i : Int) (64 : Int) = ((i / 64 : Nat) : Int) := rfl
 rw [this, wI64 _ (by omega)]
theorem tmod64 (i : Nat) : Int.tmod (i : Int) (64 : Int) = ((i % 64 : Nat) : Int) := rfl
end Go.Sy
set_option linter.unusedVariables false
set_option linter.unusedSimpArgs false
namespace Go.Sy
open Go
end Go.Sy
set_option linter.unusedVariables false
set_option linter.unusedSimpArgs false
namespace Go.Sy
open Go
end Go.Sy
set_option linter.unusedVariables false
set_option linter.unusedSimpArgs false
namespace Go.Sy
open Go
theorem setLimb_over {z i a b : Nat} (hz : z < 2 ^ (64 * i)) (ha : a < 18446744073709551616) (hb : b < 18446744073709551616) : setLimb (setLimb z i (a : Int)) i (b : Int) = z + b * 2 ^ (64 * i) := by
 obtain ⟨h1, _⟩ := setLimb_new' hz ha
 rw [h1]
 unfold setLimb
 have e1 : (z + a * 2 ^ (64 * i)) / 2 ^ (64 * i) = a := by
  rw [Nat.add_mul_div_right _ _ (Nat.two_pow_pos _), Nat.div_eq_of_lt hz, Nat.zero_add]
 have e2 : ((b : Int) % 18446744073709551616).toNat = b := by omega
 rw [e1, e2, Nat.mod_eq_of_lt ha]
 omega
theorem orN {a b : Nat} (ha : a < 18446744073709551616) (hb : b < 18446744073709551616) : orI .u64 (a : Int) (b : Int) = ((a ||| b : Nat) : Int) := by
 have e : ∀ n : Nat, n < 18446744073709551616 → (BitVec.ofInt (IntKind.u64).bits (n : Int)).toNat = n := fun n hn => by
  rw [BitVec.toNat_ofInt]
  have : ((2 ^ (IntKind.u64).bits : Nat) : Int) = 18446744073709551616 := rfl
  rw [this]; omega
 simp only [orI_eq, BitVec.toNat_or, e a ha, e b hb]
 rw [wrap64, Nat.mod_eq_of_lt (Nat.or_lt_two_pow (n := 64) ha hb)]
theorem shlN (n s : Nat) (h : s ≤ 64) : shlI .u64 (n : Int) (s : Int) = ((n * 2 ^ s % 18446744073709551616 : Nat) : Int) := by
 have e : min (s : Int).toNat (IntKind.u64).bits = s := by
  have : (IntKind.u64).bits = 64 := rfl
  rw [this]; simp; omega
 simp only [shlI, e]
 have : ((n : Int) * (2 : Int) ^ s) = ((n * 2 ^ s : Nat) : Int) := by simp
 rw [this, wrap64]
theorem limb_shr {a b r : Nat} (ha : a < 18446744073709551616) (hr : r < 64) (hr0 : 0 < r) : (a / 2 ^ r) ||| (b * 2 ^ (64 - r) % 18446744073709551616) = (a + 18446744073709551616 * b) / 2 ^ r % 18446744073709551616 := by
 have h64 : (18446744073709551616 : Nat) = 2 ^ (64 - r) * 2 ^ r := by rw [← Nat.pow_add]; (have : 64 - r + r = 64 := by omega); rw [this]
 have hlt : a / 2 ^ r < 2 ^ (64 - r) := by
  rw [Nat.div_lt_iff_lt_mul (Nat.two_pow_pos r), ← h64]; exact ha
 have e1 : b * 2 ^ (64 - r) % 18446744073709551616 = 2 ^ (64 - r) * (b % 2 ^ r) := by
  rw [h64, Nat.mul_comm b, Nat.mul_mod_mul_left]
 have e2 : (a + 18446744073709551616 * b) / 2 ^ r = a / 2 ^ r + 2 ^ (64 - r) * b := by
  rw [h64, Nat.mul_right_comm, Nat.add_mul_div_right _ _ (Nat.two_pow_pos r)]
 rw [e1, Nat.or_comm, ← Nat.two_pow_add_eq_or_of_lt hlt, e2]
 have hdb := Nat.div_add_mod b (2 ^ r)
 have e3 : a / 2 ^ r + 2 ^ (64 - r) * b = (2 ^ (64 - r) * (b % 2 ^ r) + a / 2 ^ r) + 18446744073709551616 * (b / 2 ^ r) := by
  rw [h64]
  have : 2 ^ (64 - r) * b = 2 ^ (64 - r) * 2 ^ r * (b / 2 ^ r) + 2 ^ (64 - r) * (b % 2 ^ r) := by
   rw [Nat.mul_assoc, ← Nat.mul_add, hdb]
  omega
 have hb := Nat.mod_lt b (Nat.two_pow_pos r)
 have hlt2 : 2 ^ (64 - r) * (b % 2 ^ r) + a / 2 ^ r < 18446744073709551616 := by
  rw [h64]
  calc 2 ^ (64 - r) * (b % 2 ^ r) + a / 2 ^ r < 2 ^ (64 - r) * (b % 2 ^ r) + 2 ^ (64 - r) := by omega
   _ = 2 ^ (64 - r) * (b % 2 ^ r + 1) := by rw [Nat.mul_add, Nat.mul_one]
   _ ≤ 2 ^ (64 - r) * 2 ^ r := Nat.mul_le_mul_left _ hb
 rw [e3, Nat.add_mul_mod_self_left, Nat.mod_eq_of_lt hlt2]
theorem ln_shr {x n i : Nat} : ln (x / 2 ^ n) i = (ln x (i + n / 64) + 18446744073709551616 * (x / 2 ^ (64 * (i + n / 64 + 1)))) / 2 ^ (n % 64) % 18446744073709551616 := by
 have e1 : x / 2 ^ n / 2 ^ (64 * i) = x / 2 ^ (64 * (i + n / 64)) / 2 ^ (n % 64) := by
  rw [Nat.div_div_eq_div_mul, Nat.div_div_eq_div_mul, ← Nat.pow_add, ← Nat.pow_add]
  congr 2
  omega
 have e2 : ln x (i + n / 64) + 18446744073709551616 * (x / 2 ^ (64 * (i + n / 64 + 1))) = x / 2 ^ (64 * (i + n / 64)) := by
  rw [pow64, Nat.mul_comm 18446744073709551616 (2 ^ _), ← Nat.div_div_eq_div_mul]
  exact Nat.mod_add_div _ _
 rw [e2]
 unfold ln
 rw [e1]
theorem shl_mod {x j s : Nat} : ln x j * 2 ^ s % 18446744073709551616 = x / 2 ^ (64 * j) * 2 ^ s % 18446744073709551616 := by
 unfold ln
 rw [Nat.mod_mul_mod]
theorem shrRound {x n i z : Nat} (hx : x < M256) (hn : n < 256) (hi : i + n / 64 < 4) (hz : z < 2 ^ (64 * i)) (b4 : Nat) :
  u256ShrL0R (n : Int) (i : Int) x b4 z = some (.inl ((n : Int), ((i : Int) + 1), x, b4, z + ln (x / 2 ^ n) i * 2 ^ (64 * i))) := by
 have hr : n % 64 < 64 := Nat.mod_lt _ (by decide)
 have hA : ln x (i + n / 64) / 2 ^ (n % 64) < 18446744073709551616 := Nat.lt_of_le_of_lt (Nat.div_le_self _ _) (ln_lt _ _)
 have w1 : IntKind.wrap .i64 ((i : Int) + ((n / 64 : Nat) : Int)) = ((i + n / 64 : Nat) : Int) := by rw [wI64z _ (by omega) (by omega)]; omega
 have w2 : IntKind.wrap .i64 ((4 : Int) - ((n / 64 : Nat) : Int)) = (4 : Int) - ((n / 64 : Nat) : Int) := wI64z _ (by omega) (by omega)
 have w3 : IntKind.wrap .i64 ((i : Int) + 1) = (i : Int) + 1 := wI64z _ (by omega) (by omega)
 have w4 : IntKind.wrap .i64 (((i + n / 64 : Nat) : Int) + 1) = ((i + n / 64 + 1 : Nat) : Int) := by rw [wI64z _ (by omega) (by omega)]; omega
 have w5 : IntKind.wrap .i64 ((64 : Int) - ((n % 64 : Nat) : Int)) = ((64 - n % 64 : Nat) : Int) := by rw [wI64z _ (by omega) (by omega)]; omega
 have hi4 : i < 4 := by omega
 have b0 : decide (0 ≤ (i : Int)) = true := by simp
 have b1 : Nat.blt (Int.toNat (i : Int)) 4 = true := by simp only [Int.toNat_natCast]; simpa using hi4
 have b2 : Nat.blt (Int.toNat ((i + n / 64 : Nat) : Int)) 4 = true := by simp only [Int.toNat_natCast]; simpa using hi
 have b3 : decide (((n % 64 : Nat) : Int) < 0) = false := by simp; omega
 have eA : shrI .u64 (limb x (Int.toNat ((i + n / 64 : Nat) : Int))) ((n % 64 : Nat) : Int) = ((ln x (i + n / 64) / 2 ^ (n % 64) : Nat) : Int) := by
  simp only [Int.toNat_natCast]; rw [limb_ln, shrN _ _ (by omega)]
 unfold u256ShrL0R
 rw [tdiv64 n hn, tmod64, w1, w2, w3, w4, w5, eA]
 refine guard_step (by simp; omega) (guard_step (by simp; omega) (guard_step b2 (guard_step b2 (guard_else b3 (guard_step b0 (guard_step b1 (guard_step b1 (guard_step (inU64_nat hA) ?_))))))))
 simp only [Int.toNat_natCast]
 have hset := (setLimb_new' hz hA).1
 by_cases h3 : i + n / 64 < 3
 ·refine guard_step (by simp; omega) ?_
  by_cases hr0 : 0 < n % 64
  ·have hB : ln x (i + n / 64 + 1) * 2 ^ (64 - n % 64) % 18446744073709551616 < 18446744073709551616 := Nat.mod_lt _ (by decide)
   have eB : shlI .u64 (limb x (i + n / 64 + 1)) ((64 - n % 64 : Nat) : Int) = ((ln x (i + n / 64 + 1) * 2 ^ (64 - n % 64) % 18446744073709551616 : Nat) : Int) := by rw [limb_ln, shlN _ _ (by omega)]
   have eL : limb (setLimb z i ((ln x (i + n / 64) / 2 ^ (n % 64) : Nat) : Int)) i = ((ln x (i + n / 64) / 2 ^ (n % 64) : Nat) : Int) := by
    rw [setLimb_limb (inU64_nat hA) hi4 hi4, if_pos rfl]
   have hor : (ln x (i + n / 64) / 2 ^ (n % 64)) ||| (ln x (i + n / 64 + 1) * 2 ^ (64 - n % 64) % 18446744073709551616) = ln (x / 2 ^ n) i := by
    rw [shl_mod, limb_shr (ln_lt _ _) hr hr0, ← ln_shr]
   have b5 : Nat.blt (i + n / 64 + 1) 4 = true := by simp; omega
   rw [eB, eL, orN hA hB, hor]
   refine guard_step (by simp; omega) (guard_step b0 (guard_step (by simpa using hi4) (guard_step (by simpa using hi4) (guard_step (by simp; omega) (guard_step b5 (guard_step b5 (guard_else (by simp) (guard_step b0 (guard_step (by simpa using hi4) (guard_step (by simpa using hi4) (guard_step (inU64_nat (ln_lt _ _)) ?_)))))))))))
   rw [setLimb_over hz hA (ln_lt _ _)]
  ·have hr1 : n % 64 = 0 := by omega
   refine guard_else (by simp; omega) ?_
   rw [hset, ln_shr, hr1]
   simp only [Nat.pow_zero, Nat.div_one]
   rw [Nat.add_mul_mod_self_left, Nat.mod_eq_of_lt (ln_lt _ _)]
 ·have h33 : i + n / 64 = 3 := by omega
  refine guard_else (by simp; omega) ?_
  rw [hset, ln_shr, h33]
  have : x / 2 ^ (64 * (3 + 1)) = 0 := Nat.div_eq_of_lt hx
  rw [this, Nat.mul_zero, Nat.add_zero, Nat.mod_eq_of_lt (Nat.lt_of_le_of_lt (Nat.div_le_self _ _) (ln_lt _ _))]
theorem shrLoop {x n : Nat} (hx : x < M256) (hn : n < 256) (b4 : Nat) (k : Nat) : ∀ (fuel i z : Nat), k < fuel → i + n / 64 + k = 4 → z = x / 2 ^ n % 2 ^ (64 * i) →
  iter (fun p : Int × Int × Nat × Nat × Nat => u256ShrL0R p.1 p.2.1 p.2.2.1 p.2.2.2.1 p.2.2.2.2) fuel ((n : Int), (i : Int), x, b4, z) = some (b4, x / 2 ^ n) := by
 induction k with
 | zero =>
  intro fuel i z hf hi hz
  obtain ⟨fuel, rfl⟩ : ∃ q, fuel = q + 1 := ⟨fuel - 1, by omega⟩
  refine iter_end ?_
  show u256ShrL0R (n : Int) (i : Int) x b4 z = _
  unfold u256ShrL0R
  have w2 : IntKind.wrap .i64 ((4 : Int) - ((n / 64 : Nat) : Int)) = (4 : Int) - ((n / 64 : Nat) : Int) := wI64z _ (by omega) (by omega)
  rw [tdiv64 n hn, w2]
  refine guard_else (by simp; omega) ?_
  have hlt : x / 2 ^ n < 2 ^ (64 * i) := by
   rw [Nat.div_lt_iff_lt_mul (Nat.two_pow_pos n), ← Nat.pow_add]
   exact Nat.lt_of_lt_of_le hx (show M256 ≤ 2 ^ (64 * i + n) from by
    have : M256 = 2 ^ 256 := by decide
    rw [this]; exact Nat.pow_le_pow_right (by decide) (by omega))
  rw [hz, Nat.mod_eq_of_lt hlt]
 | succ k ih =>
  intro fuel i z hf hi hz
  obtain ⟨fuel, rfl⟩ : ∃ q, fuel = q + 1 := ⟨fuel - 1, by omega⟩
  have hzl : z < 2 ^ (64 * i) := by rw [hz]; exact Nat.mod_lt _ (Nat.two_pow_pos _)
  refine iter_more (shrRound hx hn (by omega) hzl b4) ?_
  have e : ((i : Int) + 1) = ((i + 1 : Nat) : Int) := by omega
  rw [e]
  refine ih fuel (i + 1) _ (by omega) (by omega) ?_
  rw [hz, pow64, Nat.mul_comm 18446744073709551616, Nat.mod_mul, Nat.mul_comm (2 ^ (64 * i))]
  rfl
theorem u256Shr_val {x n : Nat} (hx : x < M256) (hn : n < 256) : u256Shr x (n : Int) = some (x / 2 ^ n) := by
 rw [u256Shr_eq]
 unfold u256ShrB
 refine guard_else (by simp; omega) (guard_else (by first | (simp; done) | (simp; omega)) (guard_else (by simp) (bind_step ((u256ShrL0_eq _ _ _ _ _).trans (shrLoop hx hn 0 (4 - n / 64) 1000 0 0 (by omega) (by omega) ?_)) rfl)))
 simp [Nat.mod_one]
end Go.Sy
set_option linter.unusedVariables false
set_option linter.unusedSimpArgs false
namespace Go.Sy
open Go
theorem u256Shr_n : u256Shr ordN 1 = some halfN := by
 have h : ordN / 2 ^ 1 = halfN := by decide
 rw [← h]; exact u256Shr_val (n := 1) ordN_lt (by omega)
end Go.Sy
set_option linter.unusedVariables false
set_option linter.unusedSimpArgs false
namespace Go.Sy
open Go
end Go.Sy
set_option linter.unusedVariables false
set_option linter.unusedSimpArgs false
namespace Go.Sy
open Go
end Go.Sy
set_option linter.unusedVariables false
set_option linter.unusedSimpArgs false
namespace Go.Sy
open Go
end Go.Sy
set_option linter.unusedVariables false
set_option linter.unusedSimpArgs false
namespace Go.Sy
open Go
theorem blt_of {a b : Nat} (h : a < b) : Nat.blt a b = true := by simpa using h
end Go.Sy
