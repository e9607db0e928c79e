/- Plain laws: sums, products of words, wrapped numbers. -/
import Derived.Test.YtmbcolalfgepiaaDoorSyMA
set_option linter.unusedVariables false
set_option linter.unusedSimpArgs false
namespace Go.Sy
open Go

theorem add64_val {a b c : Nat} (ha : a < 18446744073709551616) (hb : b < 18446744073709551616) (hc : c ≤ 1) :
    ∃ d o : Nat, bitsAdd64 (a : Int) (b : Int) (c : Int) = some ((d : Int), (o : Int)) ∧ d < 18446744073709551616 ∧ o ≤ 1 ∧ d + 18446744073709551616 * o = a + b + c := by
  refine ⟨(a + b + c) % 18446744073709551616, (a + b + c) / 18446744073709551616, ?_, Nat.mod_lt _ (by decide), by omega, by omega⟩
  simp [bitsAdd64, hide_eq, hc]

theorem u256Add_val {x y : Nat} (hx : x < M256) (hy : y < M256) : ∃ r o : Nat, u256Add x y = some (r, (o : Int)) ∧ r < M256 ∧ o ≤ 1 ∧ r + M256 * o = x + y := by
  obtain ⟨d0, o0, e0, hd0, ho0, h0⟩ := add64_val (c := 0) (ln_lt x 0) (ln_lt y 0) (by decide)
  obtain ⟨d1, o1, e1, hd1, ho1, h1⟩ := add64_val (c := o0) (ln_lt x 1) (ln_lt y 1) ho0
  obtain ⟨d2, o2, e2, hd2, ho2, h2⟩ := add64_val (c := o1) (ln_lt x 2) (ln_lt y 2) ho1
  obtain ⟨d3, o3, e3, hd3, ho3, h3⟩ := add64_val (c := o2) (ln_lt x 3) (ln_lt y 3) ho2
  have sx := ln_sum hx
  have sy := ln_sum hy
  have e0' : bitsAdd64 (ln x 0 : Int) (ln y 0 : Int) 0 = some ((d0 : Int), (o0 : Int)) := by simpa using e0
  refine ⟨d0 + 18446744073709551616 * d1 + 340282366920938463463374607431768211456 * d2 + 6277101735386680763835789423207666416102355444464034512896 * d3, o3, ?_, ?_, ho3, ?_⟩
  · rw [u256Add_eq]
    unfold u256AddB
    refine bind_step (a := ((d0 : Int), (o0 : Int))) (by rw [limb_ln, limb_ln]; exact e0') (guard_step (inU64_nat hd0) ?_)
    refine bind_step (a := ((d1 : Int), (o1 : Int))) (by rw [limb_ln, limb_ln]; exact e1) (guard_step (inU64_nat hd1) ?_)
    refine bind_step (a := ((d2 : Int), (o2 : Int))) (by rw [limb_ln, limb_ln]; exact e2) (guard_step (inU64_nat hd2) ?_)
    refine bind_step (a := ((d3 : Int), (o3 : Int))) (by rw [limb_ln, limb_ln]; exact e3) (guard_step (inU64_nat hd3) ?_)
    rw [four_val hd0 hd1 hd2 hd3]
  · simp only [M256] at *; omega
  · simp only [M256] at *; omega

theorem wrap64 (n : Nat) : IntKind.wrap .u64 (n : Int) = ((n % 18446744073709551616 : Nat) : Int) := by
  have h1 : (IntKind.u64).signed = false := rfl
  have h2 : (2 : Int) ^ (IntKind.u64).bits = 18446744073709551616 := rfl
  simp only [IntKind.wrap, h1, h2, Bool.false_and, Bool.false_eq_true, if_false]
  omega

theorem shr32 (n : Nat) : shrI .u64 (n : Int) 32 = ((n / 4294967296 : Nat) : Int) := by
  have h : (2 : Int) ^ (min (32 : Int).toNat (IntKind.u64).bits) = 4294967296 := rfl
  simp only [shrI, h]
  rw [Int.fdiv_eq_ediv_of_nonneg _ (by decide)]
  omega

theorem and32 (n : Nat) (hn : n < 18446744073709551616) : andI .u64 (n : Int) 4294967295 = ((n % 4294967296 : Nat) : Int) := by
  have h : (BitVec.ofInt (IntKind.u64).bits (n : Int) &&& BitVec.ofInt (IntKind.u64).bits 4294967295).toNat = n % 4294967296 := by
    have e1 : (BitVec.ofInt (IntKind.u64).bits (n : Int)).toNat = n := by
      rw [BitVec.toNat_ofInt]
      have : ((2 ^ (IntKind.u64).bits : Nat) : Int) = 18446744073709551616 := rfl
      rw [this]; omega
    have e2 : (BitVec.ofInt (IntKind.u64).bits 4294967295).toNat = 2 ^ 32 - 1 := rfl
    rw [BitVec.toNat_and, e1, e2, Nat.and_two_pow_sub_one_eq_mod]
  simp only [andI, h]
  rw [wrap64]
  omega

theorem mul64_val {a b : Nat} (ha : a < 18446744073709551616) (hb : b < 18446744073709551616) :
    ∃ h l : Nat, bitsMul64 (a : Int) (b : Int) = some ((h : Int), (l : Int)) ∧ h < 18446744073709551616 ∧ l < 18446744073709551616 ∧ l + 18446744073709551616 * h = a * b := by
  refine ⟨a * b / 18446744073709551616, a * b % 18446744073709551616, ?_, ?_, Nat.mod_lt _ (by decide), by omega⟩
  · rw [bitsMul64_eq]
    unfold bitsMul64B
    have a1 : a / 4294967296 < 4294967296 := by omega
    have b1 : b / 4294967296 < 4294967296 := by omega
    have a0 : a % 4294967296 < 4294967296 := by omega
    have b0 : b % 4294967296 < 4294967296 := by omega
    have ea : a = a % 4294967296 + 4294967296 * (a / 4294967296) := by omega
    have eb : b = b % 4294967296 + 4294967296 * (b / 4294967296) := by omega
    rw [shr32, shr32, and32 a ha, and32 b hb]
    have bd : ∀ {u v : Nat}, u < 4294967296 → v < 4294967296 → u * v ≤ 18446744065119617025 := fun hu hv => by
      have := Nat.mul_le_mul (Nat.le_of_lt_succ hu) (Nat.le_of_lt_succ hv)
      simpa using this
    have hP := bd a1 b1
    have hQ := bd a1 b0
    have hR := bd a0 b1
    have hS := bd a0 b0
    have hab : a * b = a % 4294967296 * (b % 4294967296) + 4294967296 * (a / 4294967296 * (b % 4294967296) + a % 4294967296 * (b / 4294967296)) + 18446744073709551616 * (a / 4294967296 * (b / 4294967296)) := by
      conv => lhs; rw [ea, eb]
      simp only [Nat.add_mul, Nat.mul_add]
      have e1 : 4294967296 * (a / 4294967296) * (b % 4294967296) = 4294967296 * (a / 4294967296 * (b % 4294967296)) := Nat.mul_assoc _ _ _
      have e2 : a % 4294967296 * (4294967296 * (b / 4294967296)) = 4294967296 * (a % 4294967296 * (b / 4294967296)) := Nat.mul_left_comm _ _ _
      have e3 : 4294967296 * (a / 4294967296) * (4294967296 * (b / 4294967296)) = 18446744073709551616 * (a / 4294967296 * (b / 4294967296)) := by
        rw [Nat.mul_mul_mul_comm]
      rw [e1, e2, e3]
      omega
    rw [hab]
    have cm : ∀ u v : Nat, (u : Int) * (v : Int) = ((u * v : Nat) : Int) := fun u v => (Int.natCast_mul u v).symm
    have ca : ∀ u v : Nat, (u : Int) + (v : Int) = ((u + v : Nat) : Int) := fun u v => (Int.natCast_add u v).symm
    rw [cm, cm, cm, cm, cm, hab]
    generalize a / 4294967296 * (b / 4294967296) = P at *
    generalize a / 4294967296 * (b % 4294967296) = Q at *
    generalize a % 4294967296 * (b / 4294967296) = R at *
    generalize a % 4294967296 * (b % 4294967296) = S at *
    have w : ∀ n : Nat, n < 18446744073709551616 → IntKind.wrap .u64 (n : Int) = (n : Int) := fun n h => by rw [wrap64, Nat.mod_eq_of_lt h]
    rw [w P (by omega), w Q (by omega), w R (by omega), w S (by omega), shr32 S, ca Q, w _ (by omega), shr32, and32 _ (by omega), ca P, w _ (by omega), ca _ R, w _ (by omega), shr32, ca, w _ (by omega), wrap64]
    congr 3
    omega
  · have := Nat.mul_lt_mul'' ha hb
    exact Nat.div_lt_of_lt_mul (by simpa using this)
end Go.Sy
