/- Plain laws of the typed functions: limbs, differences, comparisons. -/

import Derived.Test.YtfappeeggccicaaDoorSyVT

set_option linter.unusedVariables false

set_option linter.unusedSimpArgs false

namespace Go.Sy

open Go

/-- The limb as a natural number. -/
def ln (x i : Nat) : Nat := x / 2 ^ (64 * i) % 18446744073709551616

theorem limb_ln (x i : Nat) : limb x i = (ln x i : Int) := by rw [limb, ln]

theorem ln_lt (x i : Nat) : ln x i < 18446744073709551616 := Nat.mod_lt _ (by decide)

theorem ln_sum {x : Nat} (h : x < M256) : x = ln x 0 + 18446744073709551616 * ln x 1 + 340282366920938463463374607431768211456 * ln x 2 + 6277101735386680763835789423207666416102355444464034512896 * ln x 3 := by
  simp only [ln, M256] at *
  omega

theorem sub64_val {a b c : Nat} (ha : a < 18446744073709551616) (hb : b < 18446744073709551616) (hc : c ≤ 1) :
    ∃ d o : Nat, bitsSub64 (a : Int) (b : Int) (c : Int) = some ((d : Int), (o : Int)) ∧ d < 18446744073709551616 ∧ o ≤ 1 ∧ a + 18446744073709551616 * o = b + c + d := by
  refine ⟨(a + 18446744073709551616 - b - c) % 18446744073709551616, if a < b + c then 1 else 0, ?_, Nat.mod_lt _ (by decide), by split <;> decide, ?_⟩
  · simp [bitsSub64, hide_eq, hc]
  · split <;> omega

theorem inU64_nat {a : Nat} (h : a < 18446744073709551616) : inU64 (a : Int) = true := by
  simp [inU64]; omega

theorem setLimb_new' {x i a : Nat} (hx : x < 2 ^ (64 * i)) (ha : a < 18446744073709551616) : setLimb x i (a : Int) = x + a * 2 ^ (64 * i) ∧ setLimb x i (a : Int) < 2 ^ (64 * (i + 1)) := by
  have h1 : x / 2 ^ (64 * i) = 0 := Nat.div_eq_of_lt hx
  have h2 : ((a : Int) % 18446744073709551616).toNat = a := by omega
  have e : setLimb x i (a : Int) = x + a * 2 ^ (64 * i) := by simp only [setLimb, h1, h2]; simp
  refine ⟨e, ?_⟩
  rw [e, show 64 * (i + 1) = 64 + 64 * i by omega, Nat.pow_add]
  have h3 : a + 1 ≤ 2 ^ 64 := by simp only [show (2 : Nat) ^ 64 = 18446744073709551616 from rfl]; omega
  have h4 := Nat.mul_le_mul_right (2 ^ (64 * i)) h3
  rw [Nat.add_mul] at h4
  omega

theorem four_val {a b c d : Nat} (ha : a < 18446744073709551616) (hb : b < 18446744073709551616) (hc : c < 18446744073709551616) (hd : d < 18446744073709551616) :
    setLimb (setLimb (setLimb (setLimb 0 0 (a : Int)) 1 (b : Int)) 2 (c : Int)) 3 (d : Int) = a + 18446744073709551616 * b + 340282366920938463463374607431768211456 * c + 6277101735386680763835789423207666416102355444464034512896 * d := by
  obtain ⟨e0, l0⟩ := setLimb_new' (x := 0) (i := 0) (by decide) ha
  obtain ⟨e1, l1⟩ := setLimb_new' l0 hb
  obtain ⟨e2, l2⟩ := setLimb_new' l1 hc
  obtain ⟨e3, l3⟩ := setLimb_new' l2 hd
  rw [e3, e2, e1, e0]
  simp only [show (2 : Nat) ^ (64 * 0) = 1 from rfl, show (2 : Nat) ^ (64 * 1) = 18446744073709551616 from rfl, show (2 : Nat) ^ (64 * 2) = 340282366920938463463374607431768211456 from rfl, show (2 : Nat) ^ (64 * 3) = 6277101735386680763835789423207666416102355444464034512896 from rfl]
  omega

theorem bind_step {α β : Type} {m : Option α} {a : α} {f : α → Option β} {r : Option β} (h : m = some a) (k : f a = r) : m.bind f = r := by rw [h]; exact k

theorem guard_step {α : Type} {c : Bool} {x y r : α} (h : c = true) (k : x = r) : cond c x y = r := by rw [h]; exact k

theorem guard_else {α : Type} {c : Bool} {x y r : α} (h : c = false) (k : y = r) : cond c x y = r := by rw [h]; exact k

theorem u256Sub_val {x y : Nat} (hx : x < M256) (hy : y < M256) : ∃ r o : Nat, u256Sub x y = some (r, (o : Int)) ∧ r < M256 ∧ o ≤ 1 ∧ r + y = x + M256 * o := by
  obtain ⟨d0, o0, e0, hd0, ho0, h0⟩ := sub64_val (c := 0) (ln_lt x 0) (ln_lt y 0) (by decide)
  obtain ⟨d1, o1, e1, hd1, ho1, h1⟩ := sub64_val (c := o0) (ln_lt x 1) (ln_lt y 1) ho0
  obtain ⟨d2, o2, e2, hd2, ho2, h2⟩ := sub64_val (c := o1) (ln_lt x 2) (ln_lt y 2) ho1
  obtain ⟨d3, o3, e3, hd3, ho3, h3⟩ := sub64_val (c := o2) (ln_lt x 3) (ln_lt y 3) ho2
  have sx := ln_sum hx
  have sy := ln_sum hy
  have e0' : bitsSub64 (ln x 0 : Int) (ln y 0 : Int) 0 = some ((d0 : Int), (o0 : Int)) := by simpa using e0
  refine ⟨d0 + 18446744073709551616 * d1 + 340282366920938463463374607431768211456 * d2 + 6277101735386680763835789423207666416102355444464034512896 * d3, o3, ?_, ?_, ho3, ?_⟩
  · rw [u256Sub_eq]
    unfold u256SubB
    refine bind_step (a := ((d0 : Int), (o0 : Int))) (by rw [limb_ln, limb_ln]; exact e0') (guard_step (inU64_nat hd0) ?_)
    refine bind_step (a := ((d1 : Int), (o1 : Int))) (by rw [limb_ln, limb_ln]; exact e1) (guard_step (inU64_nat hd1) ?_)
    refine bind_step (a := ((d2 : Int), (o2 : Int))) (by rw [limb_ln, limb_ln]; exact e2) (guard_step (inU64_nat hd2) ?_)
    refine bind_step (a := ((d3 : Int), (o3 : Int))) (by rw [limb_ln, limb_ln]; exact e3) (guard_step (inU64_nat hd3) ?_)
    rw [four_val hd0 hd1 hd2 hd3]
  · simp only [M256] at *; omega
  · simp only [M256] at *; omega

theorem u256eq_val {x y : Nat} (hx : x < M256) (hy : y < M256) : u256eq x y = decide (x = y) := by
  simp only [u256eq, Nat.mod_eq_of_lt hx, Nat.mod_eq_of_lt hy]
  rfl

/-- Below, the same, above. -/
def cmpI (x y : Nat) : Int := if x < y then -1 else if x = y then 0 else 1

theorem u256Cmp_val {x y : Nat} (hx : x < M256) (hy : y < M256) : u256Cmp x y = some (cmpI x y) := by
  obtain ⟨r, o, e, hr, ho, h⟩ := u256Sub_val hx hy
  rw [u256Cmp_eq]
  simp only [u256CmpB, u256eq_val hx hy, e, Option.bind_some]
  by_cases hxy : x = y
  · simp [hxy, cmpI]
  · have ho' : o = 0 ∨ o = 1 := by omega
    rcases ho' with rfl | rfl
    · have : ¬ x < y := by omega
      simp [hxy, cmpI, this]
    · have : x < y := by simp only [M256] at *; omega
      simp [hxy, cmpI, this]

theorem iter_more {α ρ : Type} {f : α → Option (Sum α ρ)} {n : Nat} {a b : α} {r : Option ρ} (h : f a = some (.inl b)) (k : iter f n b = r) : iter f (n + 1) a = r := by
  simp only [iter, h]; exact k

theorem iter_end {α ρ : Type} {f : α → Option (Sum α ρ)} {n : Nat} {a : α} {r : ρ} (h : f a = some (.inr r)) : iter f (n + 1) a = some r := by
  simp only [iter, h]; rfl

end Go.Sy

set_option linter.unusedVariables false

set_option linter.unusedSimpArgs false

namespace Go.Sy

open Go

/-- The order of the group. -/
def ordN : Nat := 115792089237316195423570985008687907852837564279074904382605163141518161494337

def halfN : Nat := 57896044618658097711785492504343953926418782139537452191302581570759080747168

theorem fieldIOf_n : fieldIOf 1 = some ((ordN, 432420386565659656852420866394968145599), 0) := by rw [fieldIOf_eq]; kernel_rfl

theorem ecdsaIOrder_val : ecdsaIOrder = some ordN := by
  rw [ecdsaIOrder_eq, ecdsaIOrderB, fieldModulus_eq, fieldModulusB, fieldIOf_n]
  rfl

theorem ordN_lt : ordN < M256 := by decide

theorem halfN_lt : halfN < M256 := by decide

end Go.Sy

set_option linter.unusedVariables false

set_option linter.unusedSimpArgs false

namespace Go.Sy

open Go

theorem add64_val {a b c : Nat} (ha : a < 18446744073709551616) (hb : b < 18446744073709551616) (hc : c ≤ 1) :
    ∃ d o : Nat, bitsAdd64 (a : Int) (b : Int) (c : Int) = some ((d : Int), (o : Int)) ∧ d < 18446744073709551616 ∧ o ≤ 1 ∧ d + 18446744073709551616 * o = a + b + c := by
  refine ⟨(a + b + c) % 18446744073709551616, (a + b + c) / 18446744073709551616, ?_, Nat.mod_lt _ (by decide), by omega, by omega⟩
  simp [bitsAdd64, hide_eq, hc]

theorem u256Add_val {x y : Nat} (hx : x < M256) (hy : y < M256) : ∃ r o : Nat, u256Add x y = some (r, (o : Int)) ∧ r < M256 ∧ o ≤ 1 ∧ r + M256 * o = x + y := by
  obtain ⟨d0, o0, e0, hd0, ho0, h0⟩ := add64_val (c := 0) (ln_lt x 0) (ln_lt y 0) (by decide)
  obtain ⟨d1, o1, e1, hd1, ho1, h1⟩ := add64_val (c := o0) (ln_lt x 1) (ln_lt y 1) ho0
  obtain ⟨d2, o2, e2, hd2, ho2, h2⟩ := add64_val (c := o1) (ln_lt x 2) (ln_lt y 2) ho1
  obtain ⟨d3, o3, e3, hd3, ho3, h3⟩ := add64_val (c := o2) (ln_lt x 3) (ln_lt y 3) ho2
  have sx := ln_sum hx
  have sy := ln_sum hy
  have e0' : bitsAdd64 (ln x 0 : Int) (ln y 0 : Int) 0 = some ((d0 : Int), (o0 : Int)) := by simpa using e0
  refine ⟨d0 + 18446744073709551616 * d1 + 340282366920938463463374607431768211456 * d2 + 6277101735386680763835789423207666416102355444464034512896 * d3, o3, ?_, ?_, ho3, ?_⟩
  · rw [u256Add_eq]
    unfold u256AddB
    refine bind_step (a := ((d0 : Int), (o0 : Int))) (by rw [limb_ln, limb_ln]; exact e0') (guard_step (inU64_nat hd0) ?_)
    refine bind_step (a := ((d1 : Int), (o1 : Int))) (by rw [limb_ln, limb_ln]; exact e1) (guard_step (inU64_nat hd1) ?_)
    refine bind_step (a := ((d2 : Int), (o2 : Int))) (by rw [limb_ln, limb_ln]; exact e2) (guard_step (inU64_nat hd2) ?_)
    refine bind_step (a := ((d3 : Int), (o3 : Int))) (by rw [limb_ln, limb_ln]; exact e3) (guard_step (inU64_nat hd3) ?_)
    rw [four_val hd0 hd1 hd2 hd3]
  · simp only [M256] at *; omega
  · simp only [M256] at *; omega

theorem wrap64 (n : Nat) : IntKind.wrap .u64 (n : Int) = ((n % 18446744073709551616 : Nat) : Int) := by
  have h1 : (IntKind.u64).signed = false := rfl
  have h2 : (2 : Int) ^ (IntKind.u64).bits = 18446744073709551616 := rfl
  simp only [IntKind.wrap, h1, h2, Bool.false_and, Bool.false_eq_true, if_false]
  omega

theorem shr32 (n : Nat) : shrI .u64 (n : Int) 32 = ((n / 4294967296 : Nat) : Int) := by
  have h : (2 : Int) ^ (min (32 : Int).toNat (IntKind.u64).bits) = 4294967296 := rfl
  simp only [shrI, h]
  rw [Int.fdiv_eq_ediv_of_nonneg _ (by decide)]
  omega

theorem and32 (n : Nat) (hn : n < 18446744073709551616) : andI .u64 (n : Int) 4294967295 = ((n % 4294967296 : Nat) : Int) := by
  have h : (BitVec.ofInt (IntKind.u64).bits (n : Int) &&& BitVec.ofInt (IntKind.u64).bits 4294967295).toNat = n % 4294967296 := by
    have e1 : (BitVec.ofInt (IntKind.u64).bits (n : Int)).toNat = n := by
      rw [BitVec.toNat_ofInt]
      have : ((2 ^ (IntKind.u64).bits : Nat) : Int) = 18446744073709551616 := rfl
      rw [this]; omega
    have e2 : (BitVec.ofInt (IntKind.u64).bits 4294967295).toNat = 2 ^ 32 - 1 := rfl
    rw [BitVec.toNat_and, e1, e2, Nat.and_two_pow_sub_one_eq_mod]
  simp only [andI, h]
  rw [wrap64]
  omega

theorem mul64_val {a b : Nat} (ha : a < 18446744073709551616) (hb : b < 18446744073709551616) :
    ∃ h l : Nat, bitsMul64 (a : Int) (b : Int) = some ((h : Int), (l : Int)) ∧ h < 18446744073709551616 ∧ l < 18446744073709551616 ∧ l + 18446744073709551616 * h = a * b := by
  refine ⟨a * b / 18446744073709551616, a * b % 18446744073709551616, ?_, ?_, Nat.mod_lt _ (by decide), by omega⟩
  · rw [bitsMul64_eq]
    unfold bitsMul64B
    have a1 : a / 4294967296 < 4294967296 := by omega
    have b1 : b / 4294967296 < 4294967296 := by omega
    have a0 : a % 4294967296 < 4294967296 := by omega
    have b0 : b % 4294967296 < 4294967296 := by omega
    have ea : a = a % 4294967296 + 4294967296 * (a / 4294967296) := by omega
    have eb : b = b % 4294967296 + 4294967296 * (b / 4294967296) := by omega
    rw [shr32, shr32, and32 a ha, and32 b hb]
    have bd : ∀ {u v : Nat}, u < 4294967296 → v < 4294967296 → u * v ≤ 18446744065119617025 := fun hu hv => by
      have := Nat.mul_le_mul (Nat.le_of_lt_succ hu) (Nat.le_of_lt_succ hv)
      simpa using this
    have hP := bd a1 b1
    have hQ := bd a1 b0
    have hR := bd a0 b1
    have hS := bd a0 b0
    have hab : a * b = a % 4294967296 * (b % 4294967296) + 4294967296 * (a / 4294967296 * (b % 4294967296) + a % 4294967296 * (b / 4294967296)) + 18446744073709551616 * (a / 4294967296 * (b / 4294967296)) := by
      conv => lhs; rw [ea, eb]
      simp only [Nat.add_mul, Nat.mul_add]
      have e1 : 4294967296 * (a / 4294967296) * (b % 4294967296) = 4294967296 * (a / 4294967296 * (b % 4294967296)) := Nat.mul_assoc _ _ _
      have e2 : a % 4294967296 * (4294967296 * (b / 4294967296)) = 4294967296 * (a % 4294967296 * (b / 4294967296)) := Nat.mul_left_comm _ _ _
      have e3 : 4294967296 * (a / 4294967296) * (4294967296 * (b / 4294967296)) = 18446744073709551616 * (a / 4294967296 * (b / 4294967296)) := by
        rw [Nat.mul_mul_mul_comm]
      rw [e1, e2, e3]
      omega
    rw [hab]
    have cm : ∀ u v : Nat, (u : Int) * (v : Int) = ((u * v : Nat) : Int) := fun u v => (Int.natCast_mul u v).symm
    have ca : ∀ u v : Nat, (u : Int) + (v : Int) = ((u + v : Nat) : Int) := fun u v => (Int.natCast_add u v).symm
    rw [cm, cm, cm, cm, cm, hab]
    generalize a / 4294967296 * (b / 4294967296) = P at *
    generalize a / 4294967296 * (b % 4294967296) = Q at *
    generalize a % 4294967296 * (b / 4294967296) = R at *
    generalize a % 4294967296 * (b % 4294967296) = S at *
    have w : ∀ n : Nat, n < 18446744073709551616 → IntKind.wrap .u64 (n : Int) = (n : Int) := fun n h => by rw [wrap64, Nat.mod_eq_of_lt h]
    rw [w P (by omega), w Q (by omega), w R (by omega), w S (by omega), shr32 S, ca Q, w _ (by omega), shr32, and32 _ (by omega), ca P, w _ (by omega), ca _ R, w _ (by omega), shr32, ca, w _ (by omega), wrap64]
    congr 3
    omega
  · have := Nat.mul_lt_mul'' ha hb
    exact Nat.div_lt_of_lt_mul (by simpa using this)

end Go.Sy

set_option linter.unusedVariables false

set_option linter.unusedSimpArgs false

namespace Go.Sy

open Go

/-- The number that digits make, the lowest first. -/
def valL (B : Nat) : List Nat → Nat
  | [] => 0
  | d :: l => d + B * valL B l

theorem valL_set (B : Nat) : ∀ (l : List Nat) (i v : Nat), i < l.length → valL B (l.set i v) + l.getD i 0 * B ^ i = valL B l + v * B ^ i
  | [], i, v, h => by simp at h
  | d :: l, 0, v, h => by simp [valL]; omega
  | d :: l, i + 1, v, h => by
    have ih := valL_set B l i v (by simpa using h)
    simp only [List.set_cons_succ, valL, List.getD_cons_succ, Nat.pow_succ]
    have e1 : l.getD i 0 * (B ^ i * B) = B * (l.getD i 0 * B ^ i) := by rw [← Nat.mul_assoc, Nat.mul_comm]
    have e2 : v * (B ^ i * B) = B * (v * B ^ i) := by rw [← Nat.mul_assoc, Nat.mul_comm]
    have e3 := congrArg (B * ·) ih
    simp only [Nat.mul_add] at e3
    rw [e1, e2]
    omega

/-- One row of the product: x times the digits, laid onto 'all' from a place on. -/
def rowN (B x : Nat) : List Nat → Nat → Nat → List Nat → Nat × List Nat
  | [], _, over, all => (over, all)
  | y :: ys, pos, over, all => rowN B x ys (pos + 1) ((x * y + all.getD pos 0 + over) / B) (all.set pos ((x * y + all.getD pos 0 + over) % B))

theorem rowN_val (B x : Nat) : ∀ (ys : List Nat) (pos over : Nat) (all : List Nat), pos + ys.length ≤ all.length →
    valL B (rowN B x ys pos over all).2 + (rowN B x ys pos over all).1 * B ^ (pos + ys.length) = valL B all + over * B ^ pos + x * valL B ys * B ^ pos
  | [], pos, over, all, h => by simp [rowN, valL]
  | y :: ys, pos, over, all, h => by
    simp only [List.length_cons] at h
    have hs := valL_set B all pos ((x * y + all.getD pos 0 + over) % B) (by omega)
    have ih := rowN_val B x ys (pos + 1) ((x * y + all.getD pos 0 + over) / B) (all.set pos ((x * y + all.getD pos 0 + over) % B)) (by simp; omega)
    simp only [rowN, List.length_cons, valL]
    rw [show pos + (ys.length + 1) = pos + 1 + ys.length by omega, ih]
    generalize all.getD pos 0 = c at *
    have hd := Nat.div_add_mod (x * y + c + over) B
    generalize (x * y + c + over) / B = q at *
    generalize (x * y + c + over) % B = r at *
    rw [Nat.pow_succ]
    have e1 : q * (B ^ pos * B) = B * q * B ^ pos := by rw [Nat.mul_comm (B ^ pos) B, ← Nat.mul_assoc, Nat.mul_comm q B]
    have e2 : x * valL B ys * (B ^ pos * B) = x * (B * valL B ys) * B ^ pos := by
      rw [Nat.mul_comm (B ^ pos) B, ← Nat.mul_assoc, Nat.mul_assoc x, Nat.mul_comm (valL B ys) B]
    have e3 : (B * q + r) * B ^ pos = (x * y + c + over) * B ^ pos := by rw [hd]
    rw [e1, e2]
    simp only [Nat.add_mul, Nat.mul_add] at e3 ⊢
    omega

theorem rowN_len (B x : Nat) : ∀ (ys : List Nat) (pos over : Nat) (all : List Nat), (rowN B x ys pos over all).2.length = all.length
  | [], _, _, _ => rfl
  | y :: ys, pos, over, all => by simp only [rowN]; rw [rowN_len B x ys]; simp

theorem getD_set {l : List Nat} {i k v : Nat} (h : i ≠ k) : (l.set i v).getD k 0 = l.getD k 0 := by
  simp [List.getD_eq_getElem?_getD, List.getElem?_set_ne h]

theorem rowN_keep (B x : Nat) : ∀ (ys : List Nat) (pos over : Nat) (all : List Nat) (k : Nat), pos + ys.length ≤ k → (rowN B x ys pos over all).2.getD k 0 = all.getD k 0
  | [], _, _, _, _, _ => rfl
  | y :: ys, pos, over, all, k, h => by
    simp only [List.length_cons] at h
    simp only [rowN]
    rw [rowN_keep B x ys _ _ _ k (by omega), getD_set (by omega)]

/-- The product, row by row. -/
def mulN (B : Nat) (ys : List Nat) : List Nat → Nat → List Nat → List Nat
  | [], _, all => all
  | x :: xs, i, all => mulN B ys xs (i + 1) ((rowN B x ys i 0 all).2.set (i + ys.length) (rowN B x ys i 0 all).1)

theorem mulN_val (B : Nat) (ys : List Nat) : ∀ (xs : List Nat) (i : Nat) (all : List Nat), i + xs.length + ys.length ≤ all.length → (∀ k, i + ys.length ≤ k → all.getD k 0 = 0) →
    valL B (mulN B ys xs i all) = valL B all + valL B xs * valL B ys * B ^ i
  | [], i, all, _, _ => by simp [mulN, valL]
  | x :: xs, i, all, h, hz => by
    simp only [List.length_cons] at h
    have hl := rowN_len B x ys i 0 all
    have hk := rowN_keep B x ys i 0 all (i + ys.length) (Nat.le_refl _)
    have hv := rowN_val B x ys i 0 all (by omega)
    have hs := valL_set B (rowN B x ys i 0 all).2 (i + ys.length) (rowN B x ys i 0 all).1 (by omega)
    rw [hk, hz _ (Nat.le_refl _)] at hs
    simp only [mulN, valL]
    rw [mulN_val B ys xs (i + 1) _ (by simp [hl]; omega) (fun k hk' => by
      rw [getD_set (by omega), rowN_keep B x ys i 0 all k (by omega)]
      exact hz k (by omega))]
    simp only [Nat.zero_mul, Nat.add_zero] at hs hv
    rw [hs, hv, Nat.pow_succ]
    have e : valL B xs * valL B ys * (B ^ i * B) = B * valL B xs * valL B ys * B ^ i := by
      rw [Nat.mul_comm (B ^ i) B, ← Nat.mul_assoc, Nat.mul_comm (valL B xs * valL B ys) B, ← Nat.mul_assoc]
    rw [e]
    simp only [Nat.add_mul]
    omega

end Go.Sy

set_option linter.unusedVariables false

set_option linter.unusedSimpArgs false

namespace Go.Sy

open Go

def cst (l : List Nat) : List Int := l.map fun (n : Nat) => (n : Int)

theorem cst_getD (l : List Nat) (i : Nat) : (cst l).getD i 0 = ((l.getD i 0 : Nat) : Int) := by
  simp only [cst, List.getD_eq_getElem?_getD, List.getElem?_map]
  cases l[i]? <;> simp

theorem cst_set (l : List Nat) (i v : Nat) : (cst l).set i (v : Int) = cst (l.set i v) := by
  simp [cst, List.map_set]

theorem toNat_nat (n : Nat) : Int.toNat (n : Int) = n := by omega

theorem wrapI (n : Nat) (h : n < 9223372036854775808) : IntKind.wrap .i64 (n : Int) = (n : Int) := by
  have h1 : (IntKind.i64).signed = true := rfl
  have h2 : (2 : Int) ^ (IntKind.i64).bits = 18446744073709551616 := rfl
  have h3 : (2 : Int) ^ ((IntKind.i64).bits - 1) = 9223372036854775808 := rfl
  simp only [IntKind.wrap, h1, h2, h3, Bool.true_and]
  rw [if_neg (by simp; omega)]
  omega

theorem blt_true {a b : Nat} (h : a < b) : Nat.blt a b = true := by simpa [Nat.blt_eq] using h

theorem nn (n : Nat) : decide (0 ≤ (n : Int)) = true := by simp

theorem mulRound {i j over : Nat} {all : List Nat} (hi : i < 4) (hj : j < 4) (ho : over < 18446744073709551616) (ha : all.getD (i + j) 0 < 18446744073709551616) (s13 : Int) (x y high low : Nat) :
    u256MulL1R (i : Int) (over : Int) s13 (j : Int) x y high low (cst all) =
      some (.inl ((i : Int), (((ln x i * ln y j + all.getD (i + j) 0 + over) / 18446744073709551616 : Nat) : Int), s13, ((j + 1 : Nat) : Int), x, y, high, low, cst (all.set (i + j) ((ln x i * ln y j + all.getD (i + j) 0 + over) % 18446744073709551616)))) := by
  obtain ⟨h, l, e1, hh, hl, ep⟩ := mul64_val (ln_lt x i) (ln_lt y j)
  obtain ⟨d1, c1, e2, hd1, hc1, q1⟩ := add64_val (c := 0) hl ha (by decide)
  obtain ⟨d2, c2, e3, hd2, hc2, q2⟩ := add64_val (c := 0) hd1 ho (by decide)
  have e2' : bitsAdd64 (l : Int) ((all.getD (i + j) 0 : Nat) : Int) 0 = some ((d1 : Int), (c1 : Int)) := by simpa using e2
  have e3' : bitsAdd64 (d1 : Int) (over : Int) 0 = some ((d2 : Int), (c2 : Int)) := by simpa using e3
  have hp : ln x i * ln y j ≤ 18446744073709551615 * 18446744073709551615 := Nat.mul_le_mul (Nat.le_of_lt_succ (ln_lt x i)) (Nat.le_of_lt_succ (ln_lt y j))
  have hw : IntKind.wrap .i64 ((i : Int) + (j : Int)) = ((i + j : Nat) : Int) := by rw [← Int.natCast_add]; exact wrapI _ (by omega)
  have hw1 : IntKind.wrap .i64 ((j : Int) + 1) = ((j + 1 : Nat) : Int) := by
    have := wrapI (j + 1) (by omega)
    simpa using this
  have hq : (ln x i * ln y j + all.getD (i + j) 0 + over) / 18446744073709551616 = h + c1 + c2 := by omega
  have hr : (ln x i * ln y j + all.getD (i + j) 0 + over) % 18446744073709551616 = d2 := by omega
  have hlt : h + c1 + c2 < 18446744073709551616 := by omega
  have hs : IntKind.wrap .u64 (IntKind.wrap .u64 ((h : Int) + (c1 : Int)) + (c2 : Int)) = ((h + c1 + c2 : Nat) : Int) := by
    rw [← Int.natCast_add, wrap64, Nat.mod_eq_of_lt (by omega), ← Int.natCast_add, wrap64, Nat.mod_eq_of_lt (by omega)]
  unfold u256MulL1R
  rw [hw, toNat_nat, toNat_nat, toNat_nat, cst_getD, hq, hr, hw1]
  have b1 := blt_true hi
  have b2 := blt_true hj
  have b3 : Nat.blt (i + j) 8 = true := blt_true (by omega)
  refine guard_step (decide_eq_true (by omega)) (guard_step (nn i) (guard_step b1 (guard_step b1 (guard_step (nn j) (guard_step b2 (guard_step b2 ?_))))))
  refine bind_step (a := ((h : Int), (l : Int))) (by rw [limb_ln, limb_ln]; exact e1) (guard_step (nn _) (guard_step b3 (guard_step b3 ?_)))
  refine bind_step e2' (bind_step e3' (guard_step (nn _) (guard_step b3 (guard_step b3 ?_))))
  rw [hs, cst_set]

/-- Are all digits below B? -/
def digs (B : Nat) (l : List Nat) : Prop := ∀ k, l.getD k 0 < B

theorem digs_set {B : Nat} {l : List Nat} (h : digs B l) {i v : Nat} (hv : v < B) : digs B (l.set i v) := by
  intro k
  by_cases hk : i = k
  · subst hk
    rcases Nat.lt_or_ge i l.length with hl | hl
    · simp [List.getD_eq_getElem?_getD, List.getElem?_set_self hl, hv]
    · rw [List.set_eq_of_length_le hl]; exact h i
  · rw [getD_set hk]; exact h k

theorem row_lt {B x y c o : Nat} (hx : x < B) (hy : y < B) (hc : c < B) (ho : o < B) : (x * y + c + o) / B < B := by
  refine Nat.div_lt_of_lt_mul ?_
  have h1 := Nat.mul_le_mul (Nat.le_of_lt_succ (show x < (B - 1).succ by omega)) (Nat.le_of_lt_succ (show y < (B - 1).succ by omega))
  obtain ⟨b, rfl⟩ : ∃ b, B = b + 1 := ⟨B - 1, by omega⟩
  simp only [Nat.add_sub_cancel] at h1
  have : (b + 1) * (b + 1) = b * b + 2 * b + 1 := by rw [Nat.add_mul, Nat.mul_add]; omega
  rw [this]; omega

theorem rowN_digs {B x : Nat} (hx : x < B) : ∀ (ys : List Nat) (pos over : Nat) (all : List Nat), digs B ys → over < B → digs B all → (rowN B x ys pos over all).1 < B ∧ digs B (rowN B x ys pos over all).2
  | [], _, _, _, _, ho, ha => ⟨ho, ha⟩
  | y :: ys, pos, over, all, hy, ho, ha => by
    simp only [rowN]
    exact rowN_digs hx ys _ _ _ (fun k => by simpa using hy (k + 1)) (row_lt hx (hy 0) (ha pos) ho) (digs_set ha (Nat.mod_lt _ (by omega)))

theorem mulExit (i over s13 : Int) (x y high low : Nat) (all : List Int) : u256MulL1R i over s13 4 x y high low all = some (.inr (i, over, s13, x, y, high, low, all)) := by
  unfold u256MulL1R
  exact guard_else rfl rfl

def lnL (y : Nat) : List Nat := [ln y 0, ln y 1, ln y 2, ln y 3]

theorem lnL_digs (y : Nat) : digs 18446744073709551616 (lnL y) := by
  intro k
  match k with
  | 0 => exact ln_lt y 0
  | 1 => exact ln_lt y 1
  | 2 => exact ln_lt y 2
  | 3 => exact ln_lt y 3
  | k + 4 => simp [lnL]

theorem mulLoop1 {i : Nat} (hi : i < 4) (s13 : Int) (x y high low : Nat) : ∀ (m j over : Nat) (all : List Nat), j ≤ 4 → 4 - j < m → over < 18446744073709551616 → digs 18446744073709551616 all →
    iter (fun p : Int × Int × Int × Int × Nat × Nat × Nat × Nat × List Int => u256MulL1R p.1 p.2.1 p.2.2.1 p.2.2.2.1 p.2.2.2.2.1 p.2.2.2.2.2.1 p.2.2.2.2.2.2.1 p.2.2.2.2.2.2.2.1 p.2.2.2.2.2.2.2.2) m ((i : Int), (over : Int), s13, (j : Int), x, y, high, low, cst all) =
      some ((i : Int), (((rowN 18446744073709551616 (ln x i) ((lnL y).drop j) (i + j) over all).1 : Nat) : Int), s13, x, y, high, low, cst (rowN 18446744073709551616 (ln x i) ((lnL y).drop j) (i + j) over all).2) := by
  intro m
  induction m with
  | zero => intro j over all _ h; omega
  | succ m ih =>
    intro j over all hj hm ho ha
    by_cases h4 : j = 4
    · subst h4
      exact iter_end (mulExit _ _ _ _ _ _ _ _)
    · have hj' : j < 4 := by omega
      refine iter_more (mulRound hi hj' ho (ha _) s13 x y high low) ?_
      have hd : (lnL y).drop j = ln y j :: (lnL y).drop (j + 1) := by
        have : j = 0 ∨ j = 1 ∨ j = 2 ∨ j = 3 := by omega
        rcases this with rfl | rfl | rfl | rfl <;> rfl
      rw [hd]
      simp only [rowN]
      exact ih (j + 1) _ _ (by omega) (by omega) (row_lt (ln_lt x i) (ln_lt y j) (ha _) ho) (digs_set ha (Nat.mod_lt _ (by decide)))

theorem mulRound0 {i : Nat} {all : List Nat} (hi : i < 4) (ha : digs 18446744073709551616 all) (x y high low : Nat) :
    u256MulL0R (i : Int) x y high low (cst all) = some (.inl (((i + 1 : Nat) : Int), x, y, high, low, cst ((rowN 18446744073709551616 (ln x i) (lnL y) i 0 all).2.set (i + 4) (rowN 18446744073709551616 (ln x i) (lnL y) i 0 all).1))) := by
  have h1 := mulLoop1 hi (i : Int) x y high low 1000 0 0 all (by decide) (by decide) (by decide) ha
  have hw : IntKind.wrap .i64 ((i : Int) + 4) = ((i + 4 : Nat) : Int) := by
    have := wrapI (i + 4) (by omega)
    simpa using this
  have hw1 : IntKind.wrap .i64 ((i : Int) + 1) = ((i + 1 : Nat) : Int) := by
    have := wrapI (i + 1) (by omega)
    simpa using this
  have hb : Nat.blt (i + 4) 8 = true := blt_true (by omega)
  unfold u256MulL0R
  refine guard_step (decide_eq_true (by omega)) ?_
  refine bind_step ((u256MulL1_eq _ _ _ _ _ _ _ _ _).trans h1) ?_
  simp only [List.drop_zero, Nat.add_zero]
  rw [hw, toNat_nat, hw1]
  refine guard_step (nn _) (guard_step hb (guard_step hb ?_))
  rw [cst_set]

theorem mulExit0 (x y high low : Nat) (all : List Int) : u256MulL0R 4 x y high low all = some (.inr (high, low, all)) := by
  unfold u256MulL0R
  exact guard_else rfl rfl

theorem mulLoop0 (x y high low : Nat) : ∀ (m i : Nat) (all : List Nat), i ≤ 4 → 4 - i < m → digs 18446744073709551616 all →
    iter (fun p : Int × Nat × Nat × Nat × Nat × List Int => u256MulL0R p.1 p.2.1 p.2.2.1 p.2.2.2.1 p.2.2.2.2.1 p.2.2.2.2.2) m ((i : Int), x, y, high, low, cst all) =
      some (high, low, cst (mulN 18446744073709551616 (lnL y) ((lnL x).drop i) i all)) ∧ digs 18446744073709551616 (mulN 18446744073709551616 (lnL y) ((lnL x).drop i) i all) := by
  intro m
  induction m with
  | zero => intro i all _ h; omega
  | succ m ih =>
    intro i all hi hm ha
    by_cases h4 : i = 4
    · subst h4
      exact ⟨iter_end (mulExit0 _ _ _ _ _), ha⟩
    · have hi' : i < 4 := by omega
      have hd : (lnL x).drop i = ln x i :: (lnL x).drop (i + 1) := by
        have : i = 0 ∨ i = 1 ∨ i = 2 ∨ i = 3 := by omega
        rcases this with rfl | rfl | rfl | rfl <;> rfl
      obtain ⟨g1, g2⟩ := rowN_digs (ln_lt x i) (lnL y) i 0 all (lnL_digs y) (by decide) ha
      obtain ⟨k1, k2⟩ := ih (i + 1) _ (by omega) (by omega) (digs_set (i := i + 4) g2 g1)
      rw [hd]
      exact ⟨iter_more (mulRound0 hi' ha x y high low) k1, k2⟩

theorem mulN_len (B : Nat) (ys : List Nat) : ∀ (xs : List Nat) (i : Nat) (all : List Nat), (mulN B ys xs i all).length = all.length
  | [], _, _ => rfl
  | x :: xs, i, all => by simp only [mulN]; rw [mulN_len B ys xs]; simp [rowN_len]

theorem lnL_val {x : Nat} (h : x < M256) : valL 18446744073709551616 (lnL x) = x := by
  have := ln_sum h
  simp only [valL, lnL]
  omega

theorem digs_eight {l : List Nat} (hl : l.length = 8) : ∃ a b c d e f g h, l = [a, b, c, d, e, f, g, h] := by
  match l, hl with
  | [a, b, c, d, e, f, g, h], _ => exact ⟨a, b, c, d, e, f, g, h, rfl⟩

theorem u256Mul_val {x y : Nat} (hx : x < M256) (hy : y < M256) : ∃ h l : Nat, u256Mul x y = some (h, l) ∧ h < M256 ∧ l < M256 ∧ l + M256 * h = x * y := by
  have hz : digs 18446744073709551616 (List.replicate 8 0) := by
    intro k
    simp only [List.getD_eq_getElem?_getD, List.getElem?_replicate]
    split <;> simp
  obtain ⟨h1, h2⟩ := mulLoop0 x y 0 0 1000 0 (List.replicate 8 0) (by decide) (by decide) hz
  have hv := mulN_val 18446744073709551616 (lnL y) (lnL x) 0 (List.replicate 8 0) (by simp [lnL]) (fun k _ => by
    simp only [List.getD_eq_getElem?_getD, List.getElem?_replicate]
    split <;> simp)
  have hl := mulN_len 18446744073709551616 (lnL y) (lnL x) 0 (List.replicate 8 0)
  simp only [List.drop_zero] at h1 h2
  rw [lnL_val hx, lnL_val hy] at hv
  generalize mulN 18446744073709551616 (lnL y) (lnL x) 0 (List.replicate 8 0) = all at *
  obtain ⟨a, b, c, d, e, f, g, h, rfl⟩ := digs_eight (hl.trans (by simp))
  have ha := h2 0; have hb := h2 1; have hc := h2 2; have hd := h2 3
  have he := h2 4; have hf := h2 5; have hg := h2 6; have hh := h2 7
  simp only [List.getD_cons_zero, List.getD_cons_succ] at ha hb hc hd he hf hg hh
  have z : valL 18446744073709551616 (List.replicate 8 0) = 0 := by decide
  rw [z] at hv
  refine ⟨e + 18446744073709551616 * f + 340282366920938463463374607431768211456 * g + 6277101735386680763835789423207666416102355444464034512896 * h,
    a + 18446744073709551616 * b + 340282366920938463463374607431768211456 * c + 6277101735386680763835789423207666416102355444464034512896 * d, ?_, ?_, ?_, ?_⟩
  · rw [u256Mul_eq]
    unfold u256MulB
    have e0 : (List.replicate 8 (0 : Int)) = cst (List.replicate 8 0) := rfl
    rw [e0]
    refine bind_step ((u256MulL0_eq _ _ _ _ _ _).trans h1) ?_
    have s1 : spliceL (limbs 0) 0 (List.take 4 (List.take 4 (List.drop 0 (cst [a, b, c, d, e, f, g, h])))) = [(a : Int), (b : Int), (c : Int), (d : Int)] := rfl
    have s2 : spliceL (limbs 0) 0 (List.take 4 (List.take 4 (List.drop 4 (cst [a, b, c, d, e, f, g, h])))) = [(e : Int), (f : Int), (g : Int), (h : Int)] := rfl
    simp only [s1, s2]
    refine guard_step (by simp [inU64_nat ha, inU64_nat hb, inU64_nat hc, inU64_nat hd]) (guard_step (by simp [inU64_nat he, inU64_nat hf, inU64_nat hg, inU64_nat hh]) ?_)
    have f1 := four_val ha hb hc hd
    have f2 := four_val he hf hg hh
    simp only [ofLimbs, List.getD_cons_zero, List.getD_cons_succ]
    rw [f1, f2]
  · simp only [M256]; omega
  · simp only [M256]; omega
  · simp only [valL, Nat.pow_zero, Nat.mul_one, Nat.zero_add] at hv
    rw [← hv]
    simp only [M256]
    omega

end Go.Sy

set_option linter.unusedVariables false

set_option linter.unusedSimpArgs false

namespace Go.Sy

open Go

theorem u256From_val {c : Nat} (hc : c < 18446744073709551616) : u256From (c : Int) = some c := by
  rw [u256From_eq]
  unfold u256FromB
  first
  | (refine guard_step (inU64_nat hc) ?_
     have := setLimb_new' (x := 0) (i := 0) (by decide) hc
     rw [this.1]; simp)
  | skip

/-- A modulus and what 2^256 is less it, small enough for the folding to end. -/
structure FoldOk (m rest : Nat) : Prop where
  sum : m + rest = M256
  two : rest * rest < 2 * M256
  three : 3 * rest < M256
  pos : 0 < rest
  big : rest < m

theorem foldRound {m rest high low b6 : Nat} (hf : FoldOk m rest) (hh : high < M256) (hl : low < M256) (h0 : high ≠ 0) :
    ∃ high' low', fieldModulusFoldL0R (m, rest) high low b6 = some (.inl ((m, rest), high', low', b6)) ∧ high' < M256 ∧ low' < M256 ∧ high' * M256 + low' = high * rest + low := by
  have hr : rest < M256 := by have := hf.sum; have := hf.big; omega
  obtain ⟨h, l, e1, g1, g2, g3⟩ := u256Mul_val hh hr
  obtain ⟨r, c, e2, k1, k2, k3⟩ := u256Add_val hl g2
  have hh1 : h < M256 - 1 := by
    have h1 : high * rest ≤ (M256 - 1) * rest := Nat.mul_le_mul_right _ (by omega)
    have h2 : (M256 - 1) * rest < M256 * rest := Nat.mul_lt_mul_of_pos_right (by simp [M256]) hf.pos
    have h3 : M256 * h < M256 * rest := by omega
    have h4 : h < rest := Nat.lt_of_mul_lt_mul_left h3
    have := hf.sum; have := hf.big; omega
  obtain ⟨t, o, e3, j1, j2, j3⟩ := u256Add_val (x := h) (y := c) (by omega) (by simp only [M256]; omega)
  have ho : o = 0 := by
    rcases (show o = 0 ∨ o = 1 by omega) with h | h
    · exact h
    · subst h; omega
  subst ho
  refine ⟨t, r, ?_, j1, k1, ?_⟩
  · unfold fieldModulusFoldL0R
    refine guard_step ?_ ?_
    · rw [u256eq_val hh (by simp [M256])]; simp [h0]
    · refine bind_step e1 (bind_step e2 (bind_step (u256From_val (by omega)) (bind_step e3 rfl)))
  · have : t = h + c := by omega
    subst this
    rw [Nat.add_mul, Nat.mul_comm h, Nat.mul_comm c]
    omega

theorem foldExit (f : Nat × Nat) (low b6 : Nat) : fieldModulusFoldL0R f 0 low b6 = some (.inr (f, low, b6)) := by
  unfold fieldModulusFoldL0R
  exact guard_else rfl rfl

theorem fold_mod {m rest high low high' low' : Nat} (hs : m + rest = M256) (h : high' * M256 + low' = high * rest + low) : (high' * M256 + low') % m = (high * M256 + low) % m := by
  rw [h, ← hs, Nat.mul_add]
  rw [Nat.add_assoc, Nat.mul_comm high m, Nat.mul_add_mod]

/-- Rounds with a bound on what is left. -/
theorem foldLoop {m rest b6 : Nat} (hf : FoldOk m rest) {high low : Nat} (hh : high < M256) (hl : low < M256) :
    ∃ r, fieldModulusFoldL0 (m, rest) high low b6 = some ((m, rest), r, b6) ∧ r < M256 ∧ r % m = (high * M256 + low) % m := by
  have fin : ∀ (n low : Nat), low < M256 → ∃ r, iter (fun p : (Nat × Nat) × Nat × Nat × Nat => fieldModulusFoldL0R p.1 p.2.1 p.2.2.1 p.2.2.2) (n + 1) ((m, rest), 0, low, b6) = some ((m, rest), r, b6) ∧ r < M256 ∧ r % m = (0 * M256 + low) % m :=
    fun n low hl => ⟨low, iter_end (foldExit _ _ _), hl, by simp⟩
  have step : ∀ (n high low : Nat) (Q : Nat → Nat → Prop), high < M256 → low < M256 →
      (∀ high' low', high' < M256 → low' < M256 → high' * M256 + low' = high * rest + low → Q high' low') →
      (∀ high' low', high' < M256 → low' < M256 → Q high' low' → ∃ r, iter (fun p : (Nat × Nat) × Nat × Nat × Nat => fieldModulusFoldL0R p.1 p.2.1 p.2.2.1 p.2.2.2) (n + 1) ((m, rest), high', low', b6) = some ((m, rest), r, b6) ∧ r < M256 ∧ r % m = (high' * M256 + low') % m) →
      ∃ r, iter (fun p : (Nat × Nat) × Nat × Nat × Nat => fieldModulusFoldL0R p.1 p.2.1 p.2.2.1 p.2.2.2) (n + 2) ((m, rest), high, low, b6) = some ((m, rest), r, b6) ∧ r < M256 ∧ r % m = (high * M256 + low) % m := by
    intro n high low Q hh hl hQ hn
    by_cases h0 : high = 0
    · subst h0; exact fin (n + 1) low hl
    · obtain ⟨h', l', e, g1, g2, g3⟩ := foldRound (b6 := b6) hf hh hl h0
      obtain ⟨r, k1, k2, k3⟩ := hn h' l' g1 g2 (hQ h' l' g1 g2 g3)
      exact ⟨r, iter_more e k1, k2, k3.trans (fold_mod hf.sum g3)⟩
  rw [fieldModulusFoldL0_eq]
  have hM : 0 < M256 := by simp [M256]
  refine step 998 high low (fun h' _ => h' ≤ rest) hh hl (fun h' l' g1 g2 g3 => ?_) (fun h1 l1 a1 a2 q1 => ?_)
  · have h1 : high * rest ≤ (M256 - 1) * rest := Nat.mul_le_mul_right _ (by omega)
    have h2 : (M256 - 1) * rest + rest = M256 * rest := by rw [← Nat.succ_mul]; first | done | (congr 1; done) | (congr 1; omega)
    have h3 : h' * M256 < (rest + 1) * M256 := by
      rw [Nat.add_mul, Nat.mul_comm rest M256]; have := hf.pos; omega
    exact Nat.le_of_lt_succ (Nat.lt_of_mul_lt_mul_right h3)
  refine step 997 h1 l1 (fun h' _ => h' ≤ 2) a1 a2 (fun h' l' g1 g2 g3 => ?_) (fun h2 l2 b1 b2 q2 => ?_)
  · have h1' : h1 * rest ≤ rest * rest := Nat.mul_le_mul_right _ q1
    have := hf.two
    have h3 : h' * M256 < 3 * M256 := by omega
    exact Nat.le_of_lt_succ (Nat.lt_of_mul_lt_mul_right h3)
  refine step 996 h2 l2 (fun h' l' => h' = 0 ∨ (h' = 1 ∧ l' < 2 * rest)) b1 b2 (fun h' l' g1 g2 g3 => ?_) (fun h3 l3 c1 c2 q3 => ?_)
  · have h1' : h2 * rest ≤ 2 * rest := Nat.mul_le_mul_right _ q2
    have := hf.three
    rcases Nat.lt_or_ge h' 1 with h | h
    · left; omega
    · right
      have h4 : 1 * M256 ≤ h' * M256 := Nat.mul_le_mul_right _ h
      have h5 : h' * M256 < 2 * M256 := by omega
      have h6 : h' < 2 := Nat.lt_of_mul_lt_mul_right h5
      have : h' = 1 := by omega
      subst this
      exact ⟨rfl, by omega⟩
  refine step 995 h3 l3 (fun h' _ => h' = 0) c1 c2 (fun h' l' g1 g2 g3 => ?_) (fun h4 l4 d1 d2 q4 => ?_)
  · have := hf.three
    rcases q3 with rfl | ⟨rfl, q⟩
    · rcases Nat.lt_or_ge h' 1 with h | h
      · omega
      · have h4 : 1 * M256 ≤ h' * M256 := Nat.mul_le_mul_right _ h
        omega
    · rcases Nat.lt_or_ge h' 1 with h | h
      · omega
      · have h4 : 1 * M256 ≤ h' * M256 := Nat.mul_le_mul_right _ h
        omega
  subst q4
  exact fin 995 l4 d2

end Go.Sy

set_option linter.unusedVariables false

set_option linter.unusedSimpArgs false

namespace Go.Sy

open Go

theorem foldRound1_stop {m rest low b6 : Nat} (hm : m < M256) (hl : low < M256) (h : low < m) : fieldModulusFoldL1R (m, rest) low b6 = some (.inr (low, b6)) := by
  unfold fieldModulusFoldL1R
  refine bind_step (u256Cmp_val hl hm) (guard_else ?_ rfl)
  simp [cmpI, h]

theorem foldRound1_go {m rest low b6 : Nat} (hm : m < M256) (hl : low < M256) (h : m ≤ low) : fieldModulusFoldL1R (m, rest) low b6 = some (.inl ((m, rest), low - m, b6)) := by
  obtain ⟨r, o, e, g1, g2, g3⟩ := u256Sub_val hl hm
  have ho : o = 0 := by
    rcases (show o = 0 ∨ o = 1 by omega) with h' | h'
    · exact h'
    · subst h'; omega
  subst ho
  have hr : r = low - m := by omega
  subst hr
  unfold fieldModulusFoldL1R
  refine bind_step (u256Cmp_val hl hm) (guard_step ?_ (bind_step e rfl))
  have : ¬ low < m := by omega
  simp only [cmpI, this, if_false]
  split <;> decide

theorem foldLoop1 {m rest low b6 : Nat} (hf : FoldOk m rest) (hl : low < M256) : fieldModulusFoldL1 (m, rest) low b6 = some (low % m, b6) := by
  have hs := hf.sum
  have hb := hf.big
  have hp := hf.pos
  have hm : m < M256 := by omega
  rw [fieldModulusFoldL1_eq]
  rcases Nat.lt_or_ge low m with h | h
  · rw [Nat.mod_eq_of_lt h]
    exact iter_end (foldRound1_stop hm hl h)
  · have e : low % m = low - m := by rw [Nat.mod_eq_sub_mod h, Nat.mod_eq_of_lt (by omega)]
    rw [e]
    have hstop := foldRound1_stop (rest := rest) (b6 := b6) hm (show low - m < M256 by omega) (show low - m < m by omega)
    exact iter_more (foldRound1_go hm hl h) (iter_end hstop)

/-- **fold: the remainder.** -/
theorem fold_val {m rest high low : Nat} (hf : FoldOk m rest) (hh : high < M256) (hl : low < M256) : fieldModulusFold (m, rest) high low = some ((high * M256 + low) % m) := by
  obtain ⟨r, e, g1, g2⟩ := foldLoop (b6 := 0) hf hh hl
  rw [fieldModulusFold_eq]
  unfold fieldModulusFoldB
  refine bind_step e (bind_step (foldLoop1 hf g1) ?_)
  rw [g2]

end Go.Sy

set_option linter.unusedVariables false

set_option linter.unusedSimpArgs false

namespace Go.Sy

open Go

end Go.Sy

set_option linter.unusedVariables false

set_option linter.unusedSimpArgs false

namespace Go.Sy

open Go

end Go.Sy

set_option linter.unusedVariables false

set_option linter.unusedSimpArgs false

namespace Go.Sy

open Go

theorem wu64 (n : Nat) (h : n < 18446744073709551616) : IntKind.wrap .u64 (n : Int) = (n : Int) := by rw [wrap64, Nat.mod_eq_of_lt h]

end Go.Sy

set_option linter.unusedVariables false

set_option linter.unusedSimpArgs false

namespace Go.Sy

open Go

/-- The prime, and the modulus of a kind. -/
def prP : Nat := 115792089237316195423570985008687907853269984665640564039457584007908834671663

def modK (k : Int) : Nat := if k = 0 then prP else ordN

def restK (k : Int) : Nat := if k = 0 then 4294968273 else 432420386565659656852420866394968145599

theorem foldOkK (k : Int) : FoldOk (modK k) (restK k) := by
  by_cases h : k = 0
  · subst h; exact ⟨by decide, by decide, by decide, by decide, by decide⟩
  · simp only [modK, restK, if_neg h]; exact ⟨by decide, by decide, by decide, by decide, by decide⟩

theorem modK_lt (k : Int) : modK k < M256 := by unfold modK; split <;> decide

theorem modK_pos (k : Int) : 0 < modK k := by unfold modK; split <;> decide

theorem mod_lt256 (k : Int) (n : Nat) : n % modK k < M256 := Nat.lt_trans (Nat.mod_lt _ (modK_pos k)) (modK_lt k)

theorem fieldIOf_good {k : Int} (h : k = 0 ∨ k = 1) : fieldIOf k = some ((modK k, restK k), 0) := by
  rcases h with rfl | rfl
  · rw [fieldIOf_eq]; kernel_rfl
  · exact fieldIOf_n

theorem fieldIOf_bad {k : Int} (h : ¬ (k = 0 ∨ k = 1)) : fieldIOf k = some ((0, 0), 1) := by
  rw [fieldIOf_eq]
  unfold fieldIOfB
  by_cases h0 : k < 0
  · exact guard_step (decide_eq_true h0) rfl
  · exact guard_else (decide_eq_false h0) (guard_step (decide_eq_true (by omega)) rfl)

theorem fieldFold_val (k : Int) {high low : Nat} (hh : high < M256) (hl : low < M256) : fieldModulusFold (modK k, restK k) high low = some ((high * M256 + low) % modK k) := fold_val (foldOkK k) hh hl

theorem fMul_val (k : Int) {x y : Nat} (hx : x < M256) (hy : y < M256) : fieldModulusMul (modK k, restK k) x y = some (x * y % modK k) := by
  obtain ⟨h, l, e, g1, g2, g3⟩ := u256Mul_val hx hy
  rw [fieldModulusMul_eq]
  unfold fieldModulusMulB
  refine bind_step e (bind_step (fieldFold_val k g1 g2) ?_)
  rw [← g3, Nat.mul_comm h, Nat.add_comm]

theorem fAdd_val (k : Int) {x y : Nat} (hx : x < M256) (hy : y < M256) : fieldModulusAdd (modK k, restK k) x y = some ((x + y) % modK k) := by
  obtain ⟨r, o, e, g1, g2, g3⟩ := u256Add_val hx hy
  rw [fieldModulusAdd_eq]
  unfold fieldModulusAddB
  refine bind_step e (bind_step (u256From_val (by omega)) (bind_step (fieldFold_val k (by simp only [M256]; omega) g1) ?_))
  rw [← g3, Nat.mul_comm o, Nat.add_comm]

theorem fOne_val (k : Int) {x : Nat} (hx : x < M256) : fieldModulusOne (modK k, restK k) x = some (x % modK k) := by
  rw [fieldModulusOne_eq]
  unfold fieldModulusOneB
  refine bind_step (fieldFold_val k (by decide) hx) ?_
  simp

theorem fNeg_val (k : Int) {x : Nat} (hx : x < M256) : fieldModulusNeg (modK k, restK k) x = some ((modK k - x % modK k) % modK k) := by
  have hlt := Nat.mod_lt x (modK_pos k)
  obtain ⟨r, o, e, g1, g2, g3⟩ := u256Sub_val (modK_lt k) (mod_lt256 k x)
  have ho : o = 0 := by
    rcases (show o = 0 ∨ o = 1 by omega) with h' | h'
    · exact h'
    · subst h'; omega
  subst ho
  have hr : r = modK k - x % modK k := by omega
  subst hr
  rw [fieldModulusNeg_eq]
  unfold fieldModulusNegB
  exact bind_step (fOne_val k hx) (bind_step e (bind_step (fOne_val k g1) rfl))

/-- The calls of both sides answer by one function of a good kind. -/
def ansK (k : Int) (v : Nat) : Nat × Int := if k = 0 ∨ k = 1 then (v, 0) else (0, 1)

theorem fieldModulus_val (k : Int) : fieldModulus k = some (ansK k (modK k)) := by
  rw [fieldModulus_eq]
  unfold fieldModulusB ansK
  by_cases h : k = 0 ∨ k = 1
  · rw [if_pos h]; exact bind_step (fieldIOf_good h) rfl
  · rw [if_neg h]; exact bind_step (fieldIOf_bad h) rfl

theorem fieldAdd_val (k : Int) {x y : Nat} (hx : x < M256) (hy : y < M256) : fieldAdd k x y = some (ansK k ((x + y) % modK k)) := by
  rw [fieldAdd_eq]
  unfold fieldAddB ansK
  by_cases h : k = 0 ∨ k = 1
  · rw [if_pos h]; exact bind_step (fieldIOf_good h) (guard_else rfl (bind_step (fAdd_val k hx hy) rfl))
  · rw [if_neg h]; exact bind_step (fieldIOf_bad h) (guard_step rfl rfl)

theorem fieldSub_val (k : Int) {x y : Nat} (hx : x < M256) (hy : y < M256) : fieldSub k x y = some (ansK k ((x + (modK k - y % modK k) % modK k) % modK k)) := by
  rw [fieldSub_eq]
  unfold fieldSubB ansK
  by_cases h : k = 0 ∨ k = 1
  · rw [if_pos h]; exact bind_step (fieldIOf_good h) (guard_else rfl (bind_step (fNeg_val k hy) (bind_step (fAdd_val k hx (mod_lt256 k _)) rfl)))
  · rw [if_neg h]; exact bind_step (fieldIOf_bad h) (guard_step rfl rfl)

theorem fieldNeg_val (k : Int) {x : Nat} (hx : x < M256) : fieldNeg k x = some (ansK k ((modK k - x % modK k) % modK k)) := by
  rw [fieldNeg_eq]
  unfold fieldNegB ansK
  by_cases h : k = 0 ∨ k = 1
  · rw [if_pos h]; exact bind_step (fieldIOf_good h) (guard_else rfl (bind_step (fNeg_val k hx) rfl))
  · rw [if_neg h]; exact bind_step (fieldIOf_bad h) (guard_step rfl rfl)

theorem fieldMul_val (k : Int) {x y : Nat} (hx : x < M256) (hy : y < M256) : fieldMul k x y = some (ansK k (x * y % modK k)) := by
  rw [fieldMul_eq]
  unfold fieldMulB ansK
  by_cases h : k = 0 ∨ k = 1
  · rw [if_pos h]; exact bind_step (fieldIOf_good h) (guard_else rfl (bind_step (fMul_val k hx hy) rfl))
  · rw [if_neg h]; exact bind_step (fieldIOf_bad h) (guard_step rfl rfl)

theorem fieldSquare_val (k : Int) {x : Nat} (hx : x < M256) : fieldSquare k x = some (ansK k (x * x % modK k)) := by
  rw [fieldSquare_eq]
  unfold fieldSquareB
  exact bind_step (fieldMul_val k hx hx) rfl

theorem fieldReduce_val (k : Int) {high low : Nat} (hx : high < M256) (hy : low < M256) : fieldReduce k high low = some (ansK k ((high * M256 + low) % modK k)) := by
  rw [fieldReduce_eq]
  unfold fieldReduceB ansK
  by_cases h : k = 0 ∨ k = 1
  · rw [if_pos h]; exact bind_step (fieldIOf_good h) (guard_else rfl (bind_step (fieldFold_val k hx hy) rfl))
  · rw [if_neg h]; exact bind_step (fieldIOf_bad h) (guard_step rfl rfl)

theorem u256eq_self (x : Nat) : u256eq x x = true := by simp [u256eq]

end Go.Sy
