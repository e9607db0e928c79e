/- Moving by one place, the lowest bit. -/
import Derived.Test.YtmbcolalfgepiaaDoorSyMa3
set_option linter.unusedVariables false
set_option linter.unusedSimpArgs false
namespace Go.Sy
open Go

theorem or_bit {a b : Nat} (ha : a % 2 = 0) (hb : b < 2) : a ||| b = a + b := by
  obtain ⟨z, rfl⟩ : ∃ z, a = 2 ^ 1 * z := ⟨a / 2, by omega⟩
  exact (Nat.two_pow_add_eq_or_of_lt (i := 1) (by simpa using hb) z).symm

theorem or_lt64 {a b : Nat} (ha : a < 18446744073709551616) (hb : b < 18446744073709551616) : a ||| b < 18446744073709551616 := Nat.or_lt_two_pow (n := 64) ha hb

/-- A limb, moved by one, and the highest bit of the one below. -/
def shl1 (a b : Nat) : Nat := a * 2 % 18446744073709551616 + b / 9223372036854775808
theorem shl1_lt {a b : Nat} (hb : b < 18446744073709551616) : shl1 a b < 18446744073709551616 := by
  unfold shl1
  have : a * 2 % 18446744073709551616 % 2 = 0 := by omega
  omega
theorem shl1_or {a b : Nat} (hb : b < 18446744073709551616) : a * 2 % 18446744073709551616 ||| b / 9223372036854775808 = shl1 a b := or_bit (by omega) (by omega)

theorem shl1Round0 (x b4 : Nat) : u256ShlL0R 1 0 x b4 0 = some (.inl (1, 1, x, b4, ln x 0 * 2 % 18446744073709551616)) := by
  have h0 : ln x 0 * 2 % 18446744073709551616 < 18446744073709551616 := Nat.mod_lt _ (by decide)
  have e0 : shlI .u64 (limb x 0) 1 = ((ln x 0 * 2 % 18446744073709551616 : Nat) : Int) := by
    rw [limb_ln]; exact shlN (ln x 0) 1 (by omega)
  unfold u256ShlL0R
  refine guard_step rfl (guard_step rfl (guard_step rfl (guard_step rfl (guard_else rfl (guard_step rfl (guard_step rfl (guard_step rfl (guard_step ?_ (guard_else rfl ?_)))))))))
  · show inU64 (shlI .u64 (limb x 0) 1) = true
    rw [e0]; exact inU64_nat h0
  · show some (Sum.inl ((1 : Int), (1 : Int), x, b4, setLimb 0 0 (shlI .u64 (limb x 0) 1))) = _
    rw [e0]
    have := (setLimb_new' (x := 0) (i := 0) (by decide) h0).1
    rw [this]; simp

theorem shl1Round {x i z : Nat} (hi : i + 1 < 4) (hz : z < 2 ^ (64 * (i + 1))) (b4 : Nat) :
    u256ShlL0R 1 ((i + 1 : Nat) : Int) x b4 z = some (.inl (1, ((i + 2 : Nat) : Int), x, b4, z + shl1 (ln x (i + 1)) (ln x i) * 2 ^ (64 * (i + 1)))) := by
  have h0 : ln x (i + 1) * 2 % 18446744073709551616 < 18446744073709551616 := Nat.mod_lt _ (by decide)
  have h1 := ln_lt x i
  have t0 : IntKind.wrap .i64 (Int.tdiv (1 : Int) (64 : Int)) = 0 := by decide
  have t1 : Int.tmod (1 : Int) (64 : Int) = 1 := rfl
  have w1 : IntKind.wrap .i64 (((i + 1 : Nat) : Int) - 0) = ((i + 1 : Nat) : Int) := by rw [wI64z _ (by omega) (by omega)]; omega
  have w2 : IntKind.wrap .i64 (((i + 1 : Nat) : Int) - (1 : Int)) = (i : Int) := by rw [wI64z _ (by omega) (by omega)]; omega
  have w3 : IntKind.wrap .i64 ((64 : Int) - 1) = 63 := by decide
  have n1 : Int.toNat ((i + 1 : Nat) : Int) = i + 1 := rfl
  have n2 : Int.toNat (i : Int) = i := rfl
  have e0 : shlI .u64 (limb x (i + 1)) 1 = ((ln x (i + 1) * 2 % 18446744073709551616 : Nat) : Int) := by
    rw [limb_ln]; exact shlN (ln x (i + 1)) 1 (by omega)
  have e1 : shrI .u64 (limb x i) 63 = ((ln x i / 9223372036854775808 : Nat) : Int) := by
    rw [limb_ln]; exact shrN (ln x i) 63 (by omega)
  have e2 : limb (setLimb z (i + 1) ((ln x (i + 1) * 2 % 18446744073709551616 : Nat) : Int)) (i + 1) = ((ln x (i + 1) * 2 % 18446744073709551616 : Nat) : Int) := by
    rw [setLimb_limb (inU64_nat h0) hi hi, if_pos rfl]
  unfold u256ShlL0R
  rw [t0, t1, w1, w2, w3, n1, n2, e0, e1, e2, orN h0 (by omega), shl1_or h1]
  have hq : Nat.blt (i + 1) 4 = true := by simpa using hi
  have hq2 : Nat.blt i 4 = true := by simp; omega
  refine guard_step (decide_eq_true (by omega)) (guard_step (decide_eq_true (by omega)) (guard_step hq (guard_step hq (guard_else rfl (guard_step (decide_eq_true (by omega)) (guard_step hq (guard_step hq (guard_step (inU64_nat h0) (guard_step (decide_eq_true (by omega)) (guard_step rfl (guard_step (decide_eq_true (by omega)) (guard_step hq (guard_step hq (guard_step (decide_eq_true (by omega)) (guard_step hq2 (guard_step hq2 (guard_else rfl (guard_step (decide_eq_true (by omega)) (guard_step hq (guard_step hq (guard_step (inU64_nat (shl1_lt h1)) ?_)))))))))))))))))))))
  rw [setLimb_over hz h0 (shl1_lt h1), wI64z _ (by omega) (by omega)]
  rfl

theorem u256Shl_one {x : Nat} (hx : x < M256) : u256Shl x 1 = some (2 * x % M256) := by
  have s := ln_sum hx
  have l0 := ln_lt x 0
  have l1 := ln_lt x 1
  have l2 := ln_lt x 2
  have l3 := ln_lt x 3
  rw [u256Shl_eq]
  unfold u256ShlB
  refine guard_else rfl (guard_else rfl (guard_else rfl ?_))
  have h : u256ShlL0 1 (IntKind.wrap .i64 (Int.tdiv (1 : Int) (64 : Int))) x 0 0 = some (0, 2 * x % M256) := by
    have t0 : IntKind.wrap .i64 (Int.tdiv (1 : Int) (64 : Int)) = 0 := by decide
    rw [t0, u256ShlL0_eq]
    have b0 : ln x 0 * 2 % 18446744073709551616 < 18446744073709551616 := Nat.mod_lt _ (by decide)
    have g0 := shl1_lt (a := ln x 1) l0
    have g1 := shl1_lt (a := ln x 2) l1
    have g2 := shl1_lt (a := ln x 3) l2
    have r1 : u256ShlL0R 1 1 x 0 (ln x 0 * 2 % 18446744073709551616) = some (.inl (1, 2, x, 0, ln x 0 * 2 % 18446744073709551616 + shl1 (ln x 1) (ln x 0) * 18446744073709551616)) := shl1Round (i := 0) (by omega) b0 0
    generalize hz1 : ln x 0 * 2 % 18446744073709551616 + shl1 (ln x 1) (ln x 0) * 18446744073709551616 = z1 at *
    have b1 : z1 < 340282366920938463463374607431768211456 := by omega
    have r2 : u256ShlL0R 1 2 x 0 z1 = some (.inl (1, 3, x, 0, z1 + shl1 (ln x 2) (ln x 1) * 340282366920938463463374607431768211456)) := shl1Round (i := 1) (by omega) b1 0
    generalize hz2 : z1 + shl1 (ln x 2) (ln x 1) * 340282366920938463463374607431768211456 = z2 at *
    have b2 : z2 < 6277101735386680763835789423207666416102355444464034512896 := by omega
    have r3 : u256ShlL0R 1 3 x 0 z2 = some (.inl (1, 4, x, 0, z2 + shl1 (ln x 3) (ln x 2) * 6277101735386680763835789423207666416102355444464034512896)) := shl1Round (i := 2) (by omega) b2 0
    have e2 : z2 + shl1 (ln x 3) (ln x 2) * 6277101735386680763835789423207666416102355444464034512896 < M256 := by simp only [M256]; omega
    have e1 : z2 + shl1 (ln x 3) (ln x 2) * 6277101735386680763835789423207666416102355444464034512896 + M256 * (ln x 3 / 9223372036854775808) = 2 * x := by
      have m0 : ln x 0 * 2 % 18446744073709551616 + 18446744073709551616 * (ln x 0 / 9223372036854775808) = 2 * ln x 0 := by omega
      have m1 : ln x 1 * 2 % 18446744073709551616 + 18446744073709551616 * (ln x 1 / 9223372036854775808) = 2 * ln x 1 := by omega
      have m2 : ln x 2 * 2 % 18446744073709551616 + 18446744073709551616 * (ln x 2 / 9223372036854775808) = 2 * ln x 2 := by omega
      have m3 : ln x 3 * 2 % 18446744073709551616 + 18446744073709551616 * (ln x 3 / 9223372036854775808) = 2 * ln x 3 := by omega
      have hM : M256 = 115792089237316195423570985008687907853269984665640564039457584007913129639936 := rfl
      rw [hM, ← hz2, ← hz1]
      unfold shl1
      generalize ln x 0 / 9223372036854775808 = h0 at *
      generalize ln x 1 / 9223372036854775808 = h1 at *
      generalize ln x 2 / 9223372036854775808 = h2 at *
      generalize ln x 3 / 9223372036854775808 = h3 at *
      generalize ln x 0 * 2 % 18446744073709551616 = u0 at *
      generalize ln x 1 * 2 % 18446744073709551616 = u1 at *
      generalize ln x 2 * 2 % 18446744073709551616 = u2 at *
      generalize ln x 3 * 2 % 18446744073709551616 = u3 at *
      clear r1 r2 r3 hz1 hz2 b0 b1 b2 g0 g1 g2 e2 t0 hx
      generalize ln x 0 = a0 at *
      generalize ln x 1 = a1 at *
      generalize ln x 2 = a2 at *
      generalize ln x 3 = a3 at *
      omega
    have e : z2 + shl1 (ln x 3) (ln x 2) * 6277101735386680763835789423207666416102355444464034512896 = 2 * x % M256 := by
      rw [← e1, Nat.add_mul_mod_self_left, Nat.mod_eq_of_lt e2]
    rw [e] at r3
    refine iter_more (shl1Round0 x 0) (iter_more r1 (iter_more r2 (iter_more r3 (iter_end ?_))))
    show u256ShlL0R 1 4 x 0 _ = _
    unfold u256ShlL0R
    exact guard_else (by decide) rfl
  exact bind_step h rfl

end Go.Sy
