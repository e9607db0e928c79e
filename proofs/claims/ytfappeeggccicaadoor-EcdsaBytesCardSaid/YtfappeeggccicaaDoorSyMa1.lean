/- Plain laws of the typed functions: limbs, differences, comparisons. -/
import Derived.Test.YtfappeeggccicaaDoorSyVT
set_option linter.unusedVariables false
set_option linter.unusedSimpArgs false
namespace Go.Sy
open Go
def ln (x i : Nat) : Nat := x / 2 ^ (64 * i) % 18446744073709551616
theorem limb_ln (x i : Nat) : limb x i = (ln x i : Int) := by rw [limb, ln]
theorem ln_lt (x i : Nat) : ln x i < 18446744073709551616 := Nat.mod_lt _ (by decide)
theorem ln_sum {x : Nat} (h : x < M256) : x = ln x 0 + 18446744073709551616 * ln x 1 + 340282366920938463463374607431768211456 * ln x 2 + 6277101735386680763835789423207666416102355444464034512896 * ln x 3 := by
 simp only [ln, M256] at *
 omega
theorem sub64_val {a b c : Nat} (ha : a < 18446744073709551616) (hb : b < 18446744073709551616) (hc : c ≤ 1) :
  ∃ d o : Nat, bitsSub64 (a : Int) (b : Int) (c : Int) = some ((d : Int), (o : Int)) ∧ d < 18446744073709551616 ∧ o ≤ 1 ∧ a + 18446744073709551616 * o = b + c + d := by
 refine ⟨(a + 18446744073709551616 - b - c) % 18446744073709551616, if a < b + c then 1 else 0, ?_, Nat.mod_lt _ (by decide), by split <;> decide, ?_⟩
 ·simp [bitsSub64, hide_eq, hc]
 ·split <;> omega
theorem inU64_nat {a : Nat} (h : a < 18446744073709551616) : inU64 (a : Int) = true := by
 simp [inU64]; omega
theorem setLimb_new' {x i a : Nat} (hx : x < 2 ^ (64 * i)) (ha : a < 18446744073709551616) : setLimb x i (a : Int) = x + a * 2 ^ (64 * i) ∧ setLimb x i (a : Int) < 2 ^ (64 * (i + 1)) := by
 have h1 : x / 2 ^ (64 * i) = 0 := Nat.div_eq_of_lt hx
 have h2 : ((a : Int) % 18446744073709551616).toNat = a := by omega
 have e : setLimb x i (a : Int) = x + a * 2 ^ (64 * i) := by simp only [setLimb, h1, h2]; simp
 refine ⟨e, ?_⟩
 rw [e, show 64 * (i + 1) = 64 + 64 * i by omega, Nat.pow_add]
 have h3 : a + 1 ≤ 2 ^ 64 := by simp only [show (2 : Nat) ^ 64 = 18446744073709551616 from rfl]; omega
 have h4 := Nat.mul_le_mul_right (2 ^ (64 * i)) h3
 rw [Nat.add_mul] at h4
 omega
theorem four_val {a b c d : Nat} (ha : a < 18446744073709551616) (hb : b < 18446744073709551616) (hc : c < 18446744073709551616) (hd : d < 18446744073709551616) :
  setLimb (setLimb (setLimb (setLimb 0 0 (a : Int)) 1 (b : Int)) 2 (c : Int)) 3 (d : Int) = a + 18446744073709551616 * b + 340282366920938463463374607431768211456 * c + 6277101735386680763835789423207666416102355444464034512896 * d := by
 obtain ⟨e0, l0⟩ := setLimb_new' (x := 0) (i := 0) (by decide) ha
 obtain ⟨e1, l1⟩ := setLimb_new' l0 hb
 obtain ⟨e2, l2⟩ := setLimb_new' l1 hc
 obtain ⟨e3, l3⟩ := setLimb_new' l2 hd
 rw [e3, e2, e1, e0]
 simp only [show (2 : Nat) ^ (64 * 0) = 1 from rfl, show (2 : Nat) ^ (64 * 1) = 18446744073709551616 from rfl, show (2 : Nat) ^ (64 * 2) = 340282366920938463463374607431768211456 from rfl, show (2 : Nat) ^ (64 * 3) = 6277101735386680763835789423207666416102355444464034512896 from rfl]
 omega
theorem bind_step {α β : Type} {m : Option α} {a : α} {f : α → Option β} {r : Option β} (h : m = some a) (k : f a = r) : m.bind f = r := by rw [h]; exact k
theorem guard_step {α : Type} {c : Bool} {x y r : α} (h : c = true) (k : x = r) : cond c x y = r := by rw [h]; exact k
theorem guard_else {α : Type} {c : Bool} {x y r : α} (h : c = false) (k : y = r) : cond c x y = r := by rw [h]; exact k
theorem u256Sub_val {x y : Nat} (hx : x < M256) (hy : y < M256) : ∃ r o : Nat, u256Sub x y = some (r, (o : Int)) ∧ r < M256 ∧ o ≤ 1 ∧ r + y = x + M256 * o := by
 obtain ⟨d0, o0, e0, hd0, ho0, h0⟩ := sub64_val (c := 0) (ln_lt x 0) (ln_lt y 0) (by decide)
 obtain ⟨d1, o1, e1, hd1, ho1, h1⟩ := sub64_val (c := o0) (ln_lt x 1) (ln_lt y 1) ho0
 obtain ⟨d2, o2, e2, hd2, ho2, h2⟩ := sub64_val (c := o1) (ln_lt x 2) (ln_lt y 2) ho1
 obtain ⟨d3, o3, e3, hd3, ho3, h3⟩ := sub64_val (c := o2) (ln_lt x 3) (ln_lt y 3) ho2
 have sx := ln_sum hx
 have sy := ln_sum hy
 have e0' : bitsSub64 (ln x 0 : Int) (ln y 0 : Int) 0 = some ((d0 : Int), (o0 : Int)) := by simpa using e0
 refine ⟨d0 + 18446744073709551616 * d1 + 340282366920938463463374607431768211456 * d2 + 6277101735386680763835789423207666416102355444464034512896 * d3, o3, ?_, ?_, ho3, ?_⟩
 ·rw [u256Sub_eq]
  unfold u256SubB
  refine bind_step (a := ((d0 : Int), (o0 : Int))) (by rw [limb_ln, limb_ln]; exact e0') (guard_step (inU64_nat hd0) ?_)
  refine bind_step (a := ((d1 : Int), (o1 : Int))) (by rw [limb_ln, limb_ln]; exact e1) (guard_step (inU64_nat hd1) ?_)
  refine bind_step (a := ((d2 : Int), (o2 : Int))) (by rw [limb_ln, limb_ln]; exact e2) (guard_step (inU64_nat hd2) ?_)
  refine bind_step (a := ((d3 : Int), (o3 : Int))) (by rw [limb_ln, limb_ln]; exact e3) (guard_step (inU64_nat hd3) ?_)
  rw [four_val hd0 hd1 hd2 hd3]
 ·simp only [M256] at *; omega
 ·simp only [M256] at *; omega
theorem u256eq_val {x y : Nat} (hx : x < M256) (hy : y < M256) : u256eq x y = decide (x = y) := by
 simp only [u256eq, Nat.mod_eq_of_lt hx, Nat.mod_eq_of_lt hy]
 rfl
def cmpI (x y : Nat) : Int := if x < y then -1 else if x = y then 0 else 1
theorem u256Cmp_val {x y : Nat} (hx : x < M256) (hy : y < M256) : u256Cmp x y = some (cmpI x y) := by
 obtain ⟨r, o, e, hr, ho, h⟩ := u256Sub_val hx hy
 rw [u256Cmp_eq]
 simp only [u256CmpB, u256eq_val hx hy, e, Option.bind_some]
 by_cases hxy : x = y
 ·simp [hxy, cmpI]
 ·have ho' : o = 0 ∨ o = 1 := by omega
  rcases ho' with rfl | rfl
  ·have : ¬ x < y := by omega
   simp [hxy, cmpI, this]
  ·have : x < y := by simp only [M256] at *; omega
   simp [hxy, cmpI, this]
theorem iter_more {α ρ : Type} {f : α → Option (Sum α ρ)} {n : Nat} {a b : α} {r : Option ρ} (h : f a = some (.inl b)) (k : iter f n b = r) : iter f (n + 1) a = r := by
 simp only [iter, h]; exact k
theorem iter_end {α ρ : Type} {f : α → Option (Sum α ρ)} {n : Nat} {a : α} {r : ρ} (h : f a = some (.inr r)) : iter f (n + 1) a = some r := by
 simp only [iter, h]; rfl
end Go.Sy
set_option linter.unusedVariables false
set_option linter.unusedSimpArgs false
namespace Go.Sy
open Go
def ordN : Nat := 115792089237316195423570985008687907852837564279074904382605163141518161494337
def halfN : Nat := 57896044618658097711785492504343953926418782139537452191302581570759080747168
theorem fieldIOf_n : fieldIOf 1 = some ((ordN, 432420386565659656852420866394968145599), 0) := by rw [fieldIOf_eq]; kernel_rfl
theorem ecdsaIOrder_val : ecdsaIOrder = some ordN := by
 rw [ecdsaIOrder_eq, ecdsaIOrderB, fieldModulus_eq, fieldModulusB, fieldIOf_n]
 rfl
theorem ordN_lt : ordN < M256 := by decide
theorem halfN_lt : halfN < M256 := by decide
end Go.Sy
set_option linter.unusedVariables false
set_option linter.unusedSimpArgs false
namespace Go.Sy
open Go
theorem wrap64 (n : Nat) : IntKind.wrap .u64 (n : Int) = ((n % 18446744073709551616 : Nat) : Int) := by
 have h1 : (IntKind.u64).signed = false := rfl
 have h2 : (2 : Int) ^ (IntKind.u64).bits = 18446744073709551616 := rfl
 simp only [IntKind.wrap, h1, h2, Bool.false_and, Bool.false_eq_true, if_false]
 omega
end Go.Sy
set_option linter.unusedVariables false
set_option linter.unusedSimpArgs false
namespace Go.Sy
open Go
end Go.Sy
set_option linter.unusedVariables false
set_option linter.unusedSimpArgs false
namespace Go.Sy
open Go
end Go.Sy
set_option linter.unusedVariables false
set_option linter.unusedSimpArgs false
namespace Go.Sy
open Go
structure FoldOk (m rest : Nat) : Prop where
 sum : m + rest = M256
 two : rest * rest < 2 * M256
 three : 3 * rest < M256
 pos : 0 < rest
 big : rest < m
end Go.Sy
set_option linter.unusedVariables false
set_option linter.unusedSimpArgs false
namespace Go.Sy
open Go
end Go.Sy
set_option linter.unusedVariables false
set_option linter.unusedSimpArgs false
namespace Go.Sy
open Go
end Go.Sy
set_option linter.unusedVariables false
set_option linter.unusedSimpArgs false
namespace Go.Sy
open Go
end Go.Sy
set_option linter.unusedVariables false
set_option linter.unusedSimpArgs false
namespace Go.Sy
open Go
theorem wu64 (n : Nat) (h : n < 18446744073709551616) : IntKind.wrap .u64 (n : Int) = (n : Int) := by rw [wrap64, Nat.mod_eq_of_lt h]
end Go.Sy
set_option linter.unusedVariables false
set_option linter.unusedSimpArgs false
namespace Go.Sy
open Go
def prP : Nat := 115792089237316195423570985008687907853269984665640564039457584007908834671663
end Go.Sy
