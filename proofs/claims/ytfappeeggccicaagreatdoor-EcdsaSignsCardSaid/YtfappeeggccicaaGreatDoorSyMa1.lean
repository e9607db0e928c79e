/- Plain laws of the typed functions: limbs, differences, comparisons. -/
import Derived.Test.YtfappeeggccicaaGreatDoorSyVT
set_option linter.unusedVariables false
set_option linter.unusedSimpArgs false
noncomputable section
namespace Go.Sy
open Go
def ln (x i : Nat) : Nat := x / 2 ^ (64 * i) % 18446744073709551616
theorem limb_ln (x i : Nat) : limb x i = (ln x i : Int) := by rw [limb, ln]
theorem ln_lt (x i : Nat) : ln x i < 18446744073709551616 := Nat.mod_lt _ (by decide)
theorem ln_sum {x : Nat} (h : x < M256) : x = ln x 0 + 18446744073709551616 * ln x 1 + 340282366920938463463374607431768211456 * ln x 2 + 6277101735386680763835789423207666416102355444464034512896 * ln x 3 := by
 simp only [ln, M256] at *
 omega
theorem sub64_val {a b c : Nat} (ha : a < 18446744073709551616) (hb : b < 18446744073709551616) (hc : c ≤ 1) :
  ∃ d o : Nat, bitsSub64 (a : Int) (b : Int) (c : Int) = some ((d : Int), (o : Int)) ∧ d < 18446744073709551616 ∧ o ≤ 1 ∧ a + 18446744073709551616 * o = b + c + d := by
 refine ⟨(a + 18446744073709551616 - b - c) % 18446744073709551616, if a < b + c then 1 else 0, ?_, Nat.mod_lt _ (by decide), by split <;> decide, ?_⟩
 ·simp [bitsSub64, hide_eq, hc]
 ·split <;> omega
theorem inU64_nat {a : Nat} (h : a < 18446744073709551616) : inU64 (a : Int) = true := by
 simp [inU64]; omega
theorem setLimb_new' {x i a : Nat} (hx : x < 2 ^ (64 * i)) (ha : a < 18446744073709551616) : setLimb x i (a : Int) = x + a * 2 ^ (64 * i) ∧ setLimb x i (a : Int) < 2 ^ (64 * (i + 1)) := by
 have h1 : x / 2 ^ (64 * i) = 0 := Nat.div_eq_of_lt hx
 have h2 : ((a : Int) % 18446744073709551616).toNat = a := by omega
 have e : setLimb x i (a : Int) = x + a * 2 ^ (64 * i) := by simp only [setLimb, h1, h2]; simp
 refine ⟨e, ?_⟩
 rw [e, show 64 * (i + 1) = 64 + 64 * i by omega, Nat.pow_add]
 have h3 : a + 1 ≤ 2 ^ 64 := by simp only [show (2 : Nat) ^ 64 = 18446744073709551616 from rfl]; omega
 have h4 := Nat.mul_le_mul_right (2 ^ (64 * i)) h3
 rw [Nat.add_mul] at h4
 omega
theorem four_val {a b c d : Nat} (ha : a < 18446744073709551616) (hb : b < 18446744073709551616) (hc : c < 18446744073709551616) (hd : d < 18446744073709551616) :
  setLimb (setLimb (setLimb (setLimb 0 0 (a : Int)) 1 (b : Int)) 2 (c : Int)) 3 (d : Int) = a + 18446744073709551616 * b + 340282366920938463463374607431768211456 * c + 6277101735386680763835789423207666416102355444464034512896 * d := by
 obtain ⟨e0, l0⟩ := setLimb_new' (x := 0) (i := 0) (by decide) ha
 obtain ⟨e1, l1⟩ := setLimb_new' l0 hb
 obtain ⟨e2, l2⟩ := setLimb_new' l1 hc
 obtain ⟨e3, l3⟩ := setLimb_new' l2 hd
 rw [e3, e2, e1, e0]
 simp only [show (2 : Nat) ^ (64 * 0) = 1 from rfl, show (2 : Nat) ^ (64 * 1) = 18446744073709551616 from rfl, show (2 : Nat) ^ (64 * 2) = 340282366920938463463374607431768211456 from rfl, show (2 : Nat) ^ (64 * 3) = 6277101735386680763835789423207666416102355444464034512896 from rfl]
 omega
theorem bind_step {α β : Type} {m : Option α} {a : α} {f : α → Option β} {r : Option β} (h : m = some a) (k : f a = r) : m.bind f = r := by rw [h]; exact k
theorem guard_step {α : Type} {c : Bool} {x y r : α} (h : c = true) (k : x = r) : cond c x y = r := by rw [h]; exact k
theorem guard_else {α : Type} {c : Bool} {x y r : α} (h : c = false) (k : y = r) : cond c x y = r := by rw [h]; exact k
theorem u256Sub_val {x y : Nat} (hx : x < M256) (hy : y < M256) : ∃ r o : Nat, u256Sub x y = some (r, (o : Int)) ∧ r < M256 ∧ o ≤ 1 ∧ r + y = x + M256 * o := by
 obtain ⟨d0, o0, e0, hd0, ho0, h0⟩ := sub64_val (c := 0) (ln_lt x 0) (ln_lt y 0) (by decide)
 obtain ⟨d1, o1, e1, hd1, ho1, h1⟩ := sub64_val (c := o0) (ln_lt x 1) (ln_lt y 1) ho0
 obtain ⟨d2, o2, e2, hd2, ho2, h2⟩ := sub64_val (c := o1) (ln_lt x 2) (ln_lt y 2) ho1
 obtain ⟨d3, o3, e3, hd3, ho3, h3⟩ := sub64_val (c := o2) (ln_lt x 3) (ln_lt y 3) ho2
 have sx := ln_sum hx
 have sy := ln_sum hy
 have e0' : bitsSub64 (ln x 0 : Int) (ln y 0 : Int) 0 = some ((d0 : Int), (o0 : Int)) := by simpa using e0
 refine ⟨d0 + 18446744073709551616 * d1 + 340282366920938463463374607431768211456 * d2 + 6277101735386680763835789423207666416102355444464034512896 * d3, o3, ?_, ?_, ho3, ?_⟩
 ·rw [u256Sub_eq]
  unfold u256SubB
  refine bind_step (a := ((d0 : Int), (o0 : Int))) (by rw [limb_ln, limb_ln]; exact e0') (guard_step (inU64_nat hd0) ?_)
  refine bind_step (a := ((d1 : Int), (o1 : Int))) (by rw [limb_ln, limb_ln]; exact e1) (guard_step (inU64_nat hd1) ?_)
  refine bind_step (a := ((d2 : Int), (o2 : Int))) (by rw [limb_ln, limb_ln]; exact e2) (guard_step (inU64_nat hd2) ?_)
  refine bind_step (a := ((d3 : Int), (o3 : Int))) (by rw [limb_ln, limb_ln]; exact e3) (guard_step (inU64_nat hd3) ?_)
  rw [four_val hd0 hd1 hd2 hd3]
 ·simp only [M256] at *; omega
 ·simp only [M256] at *; omega
theorem u256eq_val {x y : Nat} (hx : x < M256) (hy : y < M256) : u256eq x y = decide (x = y) := by
 simp only [u256eq, Nat.mod_eq_of_lt hx, Nat.mod_eq_of_lt hy]
 rfl
def cmpI (x y : Nat) : Int := if x < y then -1 else if x = y then 0 else 1
theorem u256Cmp_val {x y : Nat} (hx : x < M256) (hy : y < M256) : u256Cmp x y = some (cmpI x y) := by
 obtain ⟨r, o, e, hr, ho, h⟩ := u256Sub_val hx hy
 rw [u256Cmp_eq]
 simp only [u256CmpB, u256eq_val hx hy, e, Option.bind_some]
 by_cases hxy : x = y
 ·simp [hxy, cmpI]
 ·have ho' : o = 0 ∨ o = 1 := by omega
  rcases ho' with rfl | rfl
  ·have : ¬ x < y := by omega
   simp [hxy, cmpI, this]
  ·have : x < y := by simp only [M256] at *; omega
   simp [hxy, cmpI, this]
theorem cmpRound0 (x y : Nat) : ref01CmpL0R 0 x y = if ln x 0 < ln y 0 then some (.inr (.inl (-1))) else if ln y 0 < ln x 0 then some (.inr (.inl 1)) else some (.inl (-1, x, y)) := by
 unfold ref01CmpL0R
 by_cases h1 : ln x 0 < ln y 0
 ·rw [if_pos h1]
  refine guard_step rfl (guard_step rfl (guard_step rfl (guard_step rfl (guard_step rfl (guard_step rfl (guard_step rfl (guard_step (decide_eq_true ?_) rfl)))))))
  have : (ln x 0 : Int) < ln y 0 := by omega
  exact this
 ·rw [if_neg h1]
  refine guard_step rfl (guard_step rfl (guard_step rfl (guard_step rfl (guard_step rfl (guard_step rfl (guard_step rfl (guard_else (decide_eq_false ?_) ?_)))))))
  ·have : ¬ (ln x 0 : Int) < ln y 0 := by omega
   exact this
  by_cases h2 : ln y 0 < ln x 0
  ·rw [if_pos h2]
   refine guard_step rfl (guard_step rfl (guard_step rfl (guard_step rfl (guard_step rfl (guard_step rfl (guard_step (decide_eq_true ?_) rfl))))))
   have : (ln x 0 : Int) > ln y 0 := by omega
   exact this
  ·rw [if_neg h2]
   refine guard_step rfl (guard_step rfl (guard_step rfl (guard_step rfl (guard_step rfl (guard_step rfl (guard_else (decide_eq_false ?_) rfl))))))
   have : ¬ (ln x 0 : Int) > ln y 0 := by omega
   exact this
theorem cmpRound1 (x y : Nat) : ref01CmpL0R 1 x y = if ln x 1 < ln y 1 then some (.inr (.inl (-1))) else if ln y 1 < ln x 1 then some (.inr (.inl 1)) else some (.inl (0, x, y)) := by
 unfold ref01CmpL0R
 by_cases h1 : ln x 1 < ln y 1
 ·rw [if_pos h1]
  refine guard_step rfl (guard_step rfl (guard_step rfl (guard_step rfl (guard_step rfl (guard_step rfl (guard_step rfl (guard_step (decide_eq_true ?_) rfl)))))))
  have : (ln x 1 : Int) < ln y 1 := by omega
  exact this
 ·rw [if_neg h1]
  refine guard_step rfl (guard_step rfl (guard_step rfl (guard_step rfl (guard_step rfl (guard_step rfl (guard_step rfl (guard_else (decide_eq_false ?_) ?_)))))))
  ·have : ¬ (ln x 1 : Int) < ln y 1 := by omega
   exact this
  by_cases h2 : ln y 1 < ln x 1
  ·rw [if_pos h2]
   refine guard_step rfl (guard_step rfl (guard_step rfl (guard_step rfl (guard_step rfl (guard_step rfl (guard_step (decide_eq_true ?_) rfl))))))
   have : (ln x 1 : Int) > ln y 1 := by omega
   exact this
  ·rw [if_neg h2]
   refine guard_step rfl (guard_step rfl (guard_step rfl (guard_step rfl (guard_step rfl (guard_step rfl (guard_else (decide_eq_false ?_) rfl))))))
   have : ¬ (ln x 1 : Int) > ln y 1 := by omega
   exact this
theorem cmpRound2 (x y : Nat) : ref01CmpL0R 2 x y = if ln x 2 < ln y 2 then some (.inr (.inl (-1))) else if ln y 2 < ln x 2 then some (.inr (.inl 1)) else some (.inl (1, x, y)) := by
 unfold ref01CmpL0R
 by_cases h1 : ln x 2 < ln y 2
 ·rw [if_pos h1]
  refine guard_step rfl (guard_step rfl (guard_step rfl (guard_step rfl (guard_step rfl (guard_step rfl (guard_step rfl (guard_step (decide_eq_true ?_) rfl)))))))
  have : (ln x 2 : Int) < ln y 2 := by omega
  exact this
 ·rw [if_neg h1]
  refine guard_step rfl (guard_step rfl (guard_step rfl (guard_step rfl (guard_step rfl (guard_step rfl (guard_step rfl (guard_else (decide_eq_false ?_) ?_)))))))
  ·have : ¬ (ln x 2 : Int) < ln y 2 := by omega
   exact this
  by_cases h2 : ln y 2 < ln x 2
  ·rw [if_pos h2]
   refine guard_step rfl (guard_step rfl (guard_step rfl (guard_step rfl (guard_step rfl (guard_step rfl (guard_step (decide_eq_true ?_) rfl))))))
   have : (ln x 2 : Int) > ln y 2 := by omega
   exact this
  ·rw [if_neg h2]
   refine guard_step rfl (guard_step rfl (guard_step rfl (guard_step rfl (guard_step rfl (guard_step rfl (guard_else (decide_eq_false ?_) rfl))))))
   have : ¬ (ln x 2 : Int) > ln y 2 := by omega
   exact this
theorem cmpRound3 (x y : Nat) : ref01CmpL0R 3 x y = if ln x 3 < ln y 3 then some (.inr (.inl (-1))) else if ln y 3 < ln x 3 then some (.inr (.inl 1)) else some (.inl (2, x, y)) := by
 unfold ref01CmpL0R
 by_cases h1 : ln x 3 < ln y 3
 ·rw [if_pos h1]
  refine guard_step rfl (guard_step rfl (guard_step rfl (guard_step rfl (guard_step rfl (guard_step rfl (guard_step rfl (guard_step (decide_eq_true ?_) rfl)))))))
  have : (ln x 3 : Int) < ln y 3 := by omega
  exact this
 ·rw [if_neg h1]
  refine guard_step rfl (guard_step rfl (guard_step rfl (guard_step rfl (guard_step rfl (guard_step rfl (guard_step rfl (guard_else (decide_eq_false ?_) ?_)))))))
  ·have : ¬ (ln x 3 : Int) < ln y 3 := by omega
   exact this
  by_cases h2 : ln y 3 < ln x 3
  ·rw [if_pos h2]
   refine guard_step rfl (guard_step rfl (guard_step rfl (guard_step rfl (guard_step rfl (guard_step rfl (guard_step (decide_eq_true ?_) rfl))))))
   have : (ln x 3 : Int) > ln y 3 := by omega
   exact this
  ·rw [if_neg h2]
   refine guard_step rfl (guard_step rfl (guard_step rfl (guard_step rfl (guard_step rfl (guard_step rfl (guard_else (decide_eq_false ?_) rfl))))))
   have : ¬ (ln x 3 : Int) > ln y 3 := by omega
   exact this
theorem cmpRoundM (x y : Nat) : ref01CmpL0R (-1) x y = some (.inr (.inr ())) := by
 unfold ref01CmpL0R
 exact guard_else rfl rfl
theorem iter_more {α ρ : Type} {f : α → Option (Sum α ρ)} {n : Nat} {a b : α} {r : Option ρ} (h : f a = some (.inl b)) (k : iter f n b = r) : iter f (n + 1) a = r := by
 simp only [iter, h]; exact k
theorem iter_end {α ρ : Type} {f : α → Option (Sum α ρ)} {n : Nat} {a : α} {r : ρ} (h : f a = some (.inr r)) : iter f (n + 1) a = some r := by
 simp only [iter, h]; rfl
def cmpFrom (x y : Nat) : Nat → Option (Int ⊕ Unit)
 | 0 => some (.inr ())
 | i + 1 => if ln x i < ln y i then some (.inl (-1)) else if ln y i < ln x i then some (.inl 1) else cmpFrom x y i
theorem cmpLoop (x y : Nat) : ref01CmpL0 3 x y = cmpFrom x y 4 := by
 rw [ref01CmpL0_eq]
 have e3 := cmpRound3 x y
 rw [show cmpFrom x y 4 = if ln x 3 < ln y 3 then some (.inl (-1)) else if ln y 3 < ln x 3 then some (.inl 1) else cmpFrom x y 3 from rfl]
 by_cases a3 : ln x 3 < ln y 3
 ·rw [if_pos a3] at e3 ⊢
  exact iter_end e3
 rw [if_neg a3] at e3 ⊢
 by_cases b3 : ln y 3 < ln x 3
 ·rw [if_pos b3] at e3 ⊢
  exact iter_end e3
 rw [if_neg b3] at e3 ⊢
 refine iter_more e3 ?_
 have e2 := cmpRound2 x y
 rw [show cmpFrom x y 3 = if ln x 2 < ln y 2 then some (.inl (-1)) else if ln y 2 < ln x 2 then some (.inl 1) else cmpFrom x y 2 from rfl]
 by_cases a2 : ln x 2 < ln y 2
 ·rw [if_pos a2] at e2 ⊢
  exact iter_end e2
 rw [if_neg a2] at e2 ⊢
 by_cases b2 : ln y 2 < ln x 2
 ·rw [if_pos b2] at e2 ⊢
  exact iter_end e2
 rw [if_neg b2] at e2 ⊢
 refine iter_more e2 ?_
 have e1 := cmpRound1 x y
 rw [show cmpFrom x y 2 = if ln x 1 < ln y 1 then some (.inl (-1)) else if ln y 1 < ln x 1 then some (.inl 1) else cmpFrom x y 1 from rfl]
 by_cases a1 : ln x 1 < ln y 1
 ·rw [if_pos a1] at e1 ⊢
  exact iter_end e1
 rw [if_neg a1] at e1 ⊢
 by_cases b1 : ln y 1 < ln x 1
 ·rw [if_pos b1] at e1 ⊢
  exact iter_end e1
 rw [if_neg b1] at e1 ⊢
 refine iter_more e1 ?_
 have e0 := cmpRound0 x y
 rw [show cmpFrom x y 1 = if ln x 0 < ln y 0 then some (.inl (-1)) else if ln y 0 < ln x 0 then some (.inl 1) else cmpFrom x y 0 from rfl]
 by_cases a0 : ln x 0 < ln y 0
 ·rw [if_pos a0] at e0 ⊢
  exact iter_end e0
 rw [if_neg a0] at e0 ⊢
 by_cases b0 : ln y 0 < ln x 0
 ·rw [if_pos b0] at e0 ⊢
  exact iter_end e0
 rw [if_neg b0] at e0 ⊢
 refine iter_more e0 ?_
 exact iter_end (cmpRoundM x y)
theorem ref01Cmp_val {x y : Nat} (hx : x < M256) (hy : y < M256) : ref01Cmp x y = some (cmpI x y) := by
 have sx := ln_sum hx
 have sy := ln_sum hy
 have := ln_lt x 0; have := ln_lt x 1; have := ln_lt x 2; have := ln_lt x 3
 have := ln_lt y 0; have := ln_lt y 1; have := ln_lt y 2; have := ln_lt y 3
 have key : cmpFrom x y 4 = some (if x < y then .inl (-1) else if x = y then .inr () else .inl 1) := by
  simp only [cmpFrom]
  repeat' split
  all_goals first | rfl | (exfalso; omega)
 rw [ref01Cmp_eq]
 unfold ref01CmpB cmpI
 refine bind_step ((cmpLoop x y).trans key) ?_
 split
 ·rfl
 ·split <;> rfl
end Go.Sy
set_option linter.unusedVariables false
set_option linter.unusedSimpArgs false
namespace Go.Sy
open Go
def ordN : Nat := 115792089237316195423570985008687907852837564279074904382605163141518161494337
def halfN : Nat := 57896044618658097711785492504343953926418782139537452191302581570759080747168
theorem fieldIOf_n : fieldIOf 1 = some ((ordN, 432420386565659656852420866394968145599), 0) := by rw [fieldIOf_eq]; kernel_rfl
theorem ecdsaIOrder_val : ecdsaIOrder = some ordN := by
 rw [ecdsaIOrder_eq, ecdsaIOrderB, fieldModulus_eq, fieldModulusB, fieldIOf_n]
 rfl
theorem ref04IGood_n : ref04IGood 1 = some true := by rw [ref04IGood_eq]; kernel_rfl
theorem ref04IModulus_n : ref04IModulus 1 = some ordN := by rw [ref04IModulus_eq]; kernel_rfl
theorem ref06IOrder_val : ref06IOrder = some ordN := by
 rw [ref06IOrder_eq, ref06IOrderB, ref04Modulus_eq, ref04ModulusB, ref04IGood_n]
 simp only [Option.bind_some, Bool.not_true, cond_false, ref04IModulus_n]
def orR (k : IntKind) (x y : Int) : Int := k.wrap (BitVec.ofInt k.bits x ||| BitVec.ofInt k.bits y).toNat
def withR (x : Nat) (i : Int) : Option (Nat) :=
 bif decide (0 ≤ (IntKind.wrap .i64 (Int.tdiv i (64 : Int)))) then
  bif Nat.blt (Int.toNat (IntKind.wrap .i64 (Int.tdiv i (64 : Int)))) 4 then
   bif Nat.blt (Int.toNat (IntKind.wrap .i64 (Int.tdiv i (64 : Int)))) 4 then
    bif decide ((IntKind.wrap .u64 (Int.tmod i (64 : Int))) < 0) then
     none
    else
     bif decide (0 ≤ (IntKind.wrap .i64 (Int.tdiv i (64 : Int)))) then
      bif Nat.blt (Int.toNat (IntKind.wrap .i64 (Int.tdiv i (64 : Int)))) 4 then
       bif Nat.blt (Int.toNat (IntKind.wrap .i64 (Int.tdiv i (64 : Int)))) 4 then
        bif inU64 (orR .u64 (limb x (Int.toNat (IntKind.wrap .i64 (Int.tdiv i (64 : Int))))) (shlI .u64 1 (IntKind.wrap .u64 (Int.tmod i (64 : Int))))) then
         some (setLimb x (Int.toNat (IntKind.wrap .i64 (Int.tdiv i (64 : Int)))) (orR .u64 (limb x (Int.toNat (IntKind.wrap .i64 (Int.tdiv i (64 : Int))))) (shlI .u64 1 (IntKind.wrap .u64 (Int.tmod i (64 : Int))))))
        else none
       else none
      else none
     else none
   else none
  else none
 else none
theorem withR_eq (x : Nat) (i : Int) : ref01IWithB x i = withR x i := by unfold ref01IWithB withR; simp only [orI_eq, orR]
def shlR (p : Int × Int × Nat × Nat × Nat) : Option ((Int × Int × Nat × Nat × Nat) ⊕ (Nat × Nat)) :=
 bif (decide (p.2.1 < (256 : Int))) then
  (ref01BitB p.2.2.1 (IntKind.wrap .i64 (p.2.1 - p.1))).bind fun r3 =>
  bif (r3 == (1 : Int)) then
   (withR p.2.2.2.2 p.2.1).bind fun r4 =>
   some (.inl (p.1, (IntKind.wrap .i64 (p.2.1 + (1 : Int))), p.2.2.1, p.2.2.2.1, r4))
  else
   some (.inl (p.1, (IntKind.wrap .i64 (p.2.1 + (1 : Int))), p.2.2.1, p.2.2.2.1, p.2.2.2.2))
 else
  some (.inr (p.2.2.2.1, p.2.2.2.2))
theorem shlR_eq : (fun p : Int × Int × Nat × Nat × Nat => ref01ShlL0R p.1 p.2.1 p.2.2.1 p.2.2.2.1 p.2.2.2.2) = shlR := by
 funext p
 simp only [ref01ShlL0R, shlR, ref01Bit_eq, ref01IWith_eq, withR_eq]
theorem ref01Shr_n : ref01Shr ordN 1 = some halfN := by
 have h : ref01ShlL0 (-1) 0 ordN 0 0 = some (0, halfN) := by rw [ref01ShlL0_eq, shlR_eq]; kernel_rfl
 have e : ref01ShlB ordN (-1) = (ref01ShlL0 (-1) 0 ordN 0 0).bind fun q => some q.2 := by kernel_rfl
 have h2 : ref01Shl ordN (-1) = some halfN := by rw [ref01Shl_eq, e, h]; rfl
 have e2 : ref01ShrB ordN 1 = (ref01Shl ordN (-1)).bind fun r => some r := by kernel_rfl
 rw [ref01Shr_eq, e2, h2]
 rfl
theorem ordN_lt : ordN < M256 := by decide
theorem halfN_lt : halfN < M256 := by decide
end Go.Sy
set_option linter.unusedVariables false
set_option linter.unusedSimpArgs false
namespace Go.Sy
open Go
theorem add64_val {a b c : Nat} (ha : a < 18446744073709551616) (hb : b < 18446744073709551616) (hc : c ≤ 1) :
  ∃ d o : Nat, bitsAdd64 (a : Int) (b : Int) (c : Int) = some ((d : Int), (o : Int)) ∧ d < 18446744073709551616 ∧ o ≤ 1 ∧ d + 18446744073709551616 * o = a + b + c := by
 refine ⟨(a + b + c) % 18446744073709551616, (a + b + c) / 18446744073709551616, ?_, Nat.mod_lt _ (by decide), by omega, by omega⟩
 simp [bitsAdd64, hide_eq, hc]
theorem u256Add_val {x y : Nat} (hx : x < M256) (hy : y < M256) : ∃ r o : Nat, u256Add x y = some (r, (o : Int)) ∧ r < M256 ∧ o ≤ 1 ∧ r + M256 * o = x + y := by
 obtain ⟨d0, o0, e0, hd0, ho0, h0⟩ := add64_val (c := 0) (ln_lt x 0) (ln_lt y 0) (by decide)
 obtain ⟨d1, o1, e1, hd1, ho1, h1⟩ := add64_val (c := o0) (ln_lt x 1) (ln_lt y 1) ho0
 obtain ⟨d2, o2, e2, hd2, ho2, h2⟩ := add64_val (c := o1) (ln_lt x 2) (ln_lt y 2) ho1
 obtain ⟨d3, o3, e3, hd3, ho3, h3⟩ := add64_val (c := o2) (ln_lt x 3) (ln_lt y 3) ho2
 have sx := ln_sum hx
 have sy := ln_sum hy
 have e0' : bitsAdd64 (ln x 0 : Int) (ln y 0 : Int) 0 = some ((d0 : Int), (o0 : Int)) := by simpa using e0
 refine ⟨d0 + 18446744073709551616 * d1 + 340282366920938463463374607431768211456 * d2 + 6277101735386680763835789423207666416102355444464034512896 * d3, o3, ?_, ?_, ho3, ?_⟩
 ·rw [u256Add_eq]
  unfold u256AddB
  refine bind_step (a := ((d0 : Int), (o0 : Int))) (by rw [limb_ln, limb_ln]; exact e0') (guard_step (inU64_nat hd0) ?_)
  refine bind_step (a := ((d1 : Int), (o1 : Int))) (by rw [limb_ln, limb_ln]; exact e1) (guard_step (inU64_nat hd1) ?_)
  refine bind_step (a := ((d2 : Int), (o2 : Int))) (by rw [limb_ln, limb_ln]; exact e2) (guard_step (inU64_nat hd2) ?_)
  refine bind_step (a := ((d3 : Int), (o3 : Int))) (by rw [limb_ln, limb_ln]; exact e3) (guard_step (inU64_nat hd3) ?_)
  rw [four_val hd0 hd1 hd2 hd3]
 ·simp only [M256] at *; omega
 ·simp only [M256] at *; omega
theorem wrap64 (n : Nat) : IntKind.wrap .u64 (n : Int) = ((n % 18446744073709551616 : Nat) : Int) := by
 have h1 : (IntKind.u64).signed = false := rfl
 have h2 : (2 : Int) ^ (IntKind.u64).bits = 18446744073709551616 := rfl
 simp only [IntKind.wrap, h1, h2, Bool.false_and, Bool.false_eq_true, if_false]
 omega
theorem shr32 (n : Nat) : shrI .u64 (n : Int) 32 = ((n / 4294967296 : Nat) : Int) := by
 have h : (2 : Int) ^ (min (32 : Int).toNat (IntKind.u64).bits) = 4294967296 := rfl
 simp only [shrI, h]
 rw [Int.fdiv_eq_ediv_of_nonneg _ (by decide)]
 omega
theorem and32 (n : Nat) (hn : n < 18446744073709551616) : andI .u64 (n : Int) 4294967295 = ((n % 4294967296 : Nat) : Int) := by
 have h : (BitVec.ofInt (IntKind.u64).bits (n : Int) &&& BitVec.ofInt (IntKind.u64).bits 4294967295).toNat = n % 4294967296 := by
  have e1 : (BitVec.ofInt (IntKind.u64).bits (n : Int)).toNat = n := by
   rw [BitVec.toNat_ofInt]
   have : ((2 ^ (IntKind.u64).bits : Nat) : Int) = 18446744073709551616 := rfl
   rw [this]; omega
  have e2 : (BitVec.ofInt (IntKind.u64).bits 4294967295).toNat = 2 ^ 32 - 1 := rfl
  rw [BitVec.toNat_and, e1, e2, Nat.and_two_pow_sub_one_eq_mod]
 simp only [andI, h]
 rw [wrap64]
 omega
theorem mul64_val {a b : Nat} (ha : a < 18446744073709551616) (hb : b < 18446744073709551616) :
  ∃ h l : Nat, bitsMul64 (a : Int) (b : Int) = some ((h : Int), (l : Int)) ∧ h < 18446744073709551616 ∧ l < 18446744073709551616 ∧ l + 18446744073709551616 * h = a * b := by
 refine ⟨a * b / 18446744073709551616, a * b % 18446744073709551616, ?_, ?_, Nat.mod_lt _ (by decide), by omega⟩
 ·rw [bitsMul64_eq]
  unfold bitsMul64B
  have a1 : a / 4294967296 < 4294967296 := by omega
  have b1 : b / 4294967296 < 4294967296 := by omega
  have a0 : a % 4294967296 < 4294967296 := by omega
  have b0 : b % 4294967296 < 4294967296 := by omega
  have ea : a = a % 4294967296 + 4294967296 * (a / 4294967296) := by omega
  have eb : b = b % 4294967296 + 4294967296 * (b / 4294967296) := by omega
  rw [shr32, shr32, and32 a ha, and32 b hb]
  have bd : ∀ {u v : Nat}, u < 4294967296 → v < 4294967296 → u * v ≤ 18446744065119617025 := fun hu hv => by
   have := Nat.mul_le_mul (Nat.le_of_lt_succ hu) (Nat.le_of_lt_succ hv)
   simpa using this
  have hP := bd a1 b1
  have hQ := bd a1 b0
  have hR := bd a0 b1
  have hS := bd a0 b0
  have hab : a * b = a % 4294967296 * (b % 4294967296) + 4294967296 * (a / 4294967296 * (b % 4294967296) + a % 4294967296 * (b / 4294967296)) + 18446744073709551616 * (a / 4294967296 * (b / 4294967296)) := by
   conv => lhs; rw [ea, eb]
   simp only [Nat.add_mul, Nat.mul_add]
   have e1 : 4294967296 * (a / 4294967296) * (b % 4294967296) = 4294967296 * (a / 4294967296 * (b % 4294967296)) := Nat.mul_assoc _ _ _
   have e2 : a % 4294967296 * (4294967296 * (b / 4294967296)) = 4294967296 * (a % 4294967296 * (b / 4294967296)) := Nat.mul_left_comm _ _ _
   have e3 : 4294967296 * (a / 4294967296) * (4294967296 * (b / 4294967296)) = 18446744073709551616 * (a / 4294967296 * (b / 4294967296)) := by
    rw [Nat.mul_mul_mul_comm]
   rw [e1, e2, e3]
   omega
  rw [hab]
  have cm : ∀ u v : Nat, (u : Int) * (v : Int) = ((u * v : Nat) : Int) := fun u v => (Int.natCast_mul u v).symm
  have ca : ∀ u v : Nat, (u : Int) + (v : Int) = ((u + v : Nat) : Int) := fun u v => (Int.natCast_add u v).symm
  rw [cm, cm, cm, cm, cm, hab]
  generalize a / 4294967296 * (b / 4294967296) = P at *
  generalize a / 4294967296 * (b % 4294967296) = Q at *
  generalize a % 4294967296 * (b / 4294967296) = R at *
  generalize a % 4294967296 * (b % 4294967296) = S at *
  have w : ∀ n : Nat, n < 18446744073709551616 → IntKind.wrap .u64 (n : Int) = (n : Int) := fun n h => by rw [wrap64, Nat.mod_eq_of_lt h]
  rw [w P (by omega), w Q (by omega), w R (by omega), w S (by omega), shr32 S, ca Q, w _ (by omega), shr32, and32 _ (by omega), ca P, w _ (by omega), ca _ R, w _ (by omega), shr32, ca, w _ (by omega), wrap64]
  congr 3
  omega
 ·have := Nat.mul_lt_mul'' ha hb
  exact Nat.div_lt_of_lt_mul (by simpa using this)
end Go.Sy
set_option linter.unusedVariables false
set_option linter.unusedSimpArgs false
namespace Go.Sy
open Go
def valL (B : Nat) : List Nat → Nat
 | [] => 0
 | d :: l => d + B * valL B l
theorem valL_set (B : Nat) : ∀ (l : List Nat) (i v : Nat), i < l.length → valL B (l.set i v) + l.getD i 0 * B ^ i = valL B l + v * B ^ i
 | [], i, v, h => by simp at h
 | d :: l, 0, v, h => by simp [valL]; omega
 | d :: l, i + 1, v, h => by
  have ih := valL_set B l i v (by simpa using h)
  simp only [List.set_cons_succ, valL, List.getD_cons_succ, Nat.pow_succ]
  have e1 : l.getD i 0 * (B ^ i * B) = B * (l.getD i 0 * B ^ i) := by rw [← Nat.mul_assoc, Nat.mul_comm]
  have e2 : v * (B ^ i * B) = B * (v * B ^ i) := by rw [← Nat.mul_assoc, Nat.mul_comm]
  have e3 := congrArg (B * ·) ih
  simp only [Nat.mul_add] at e3
  rw [e1, e2]
  omega
def rowN (B x : Nat) : List Nat → Nat → Nat → List Nat → Nat × List Nat
 | [], _, over, all => (over, all)
 | y :: ys, pos, over, all => rowN B x ys (pos + 1) ((x * y + all.getD pos 0 + over) / B) (all.set pos ((x * y + all.getD pos 0 + over) % B))
theorem rowN_val (B x : Nat) : ∀ (ys : List Nat) (pos over : Nat) (all : List Nat), pos + ys.length ≤ all.length →
  valL B (rowN B x ys pos over all).2 + (rowN B x ys pos over all).1 * B ^ (pos + ys.length) = valL B all + over * B ^ pos + x * valL B ys * B ^ pos
 | [], pos, over, all, h => by simp [rowN, valL]
 | y :: ys, pos, over, all, h => by
  simp only [List.length_cons] at h
  have hs := valL_set B all pos ((x * y + all.getD pos 0 + over) % B) (by omega)
  have ih := rowN_val B x ys (pos + 1) ((x * y + all.getD pos 0 + over) / B) (all.set pos ((x * y + all.getD pos 0 + over) % B)) (by simp; omega)
  simp only [rowN, List.length_cons, valL]
  rw [show pos + (ys.length + 1) = pos + 1 + ys.length by omega, ih]
  generalize all.getD pos 0 = c at *
  have hd := Nat.div_add_mod (x * y + c + over) B
  generalize (x * y + c + over) / B = q at *
  generalize (x * y + c + over) % B = r at *
  rw [Nat.pow_succ]
  have e1 : q * (B ^ pos * B) = B * q * B ^ pos := by rw [Nat.mul_comm (B ^ pos) B, ← Nat.mul_assoc, Nat.mul_comm q B]
  have e2 : x * valL B ys * (B ^ pos * B) = x * (B * valL B ys) * B ^ pos := by
   rw [Nat.mul_comm (B ^ pos) B, ← Nat.mul_assoc, Nat.mul_assoc x, Nat.mul_comm (valL B ys) B]
  have e3 : (B * q + r) * B ^ pos = (x * y + c + over) * B ^ pos := by rw [hd]
  rw [e1, e2]
  simp only [Nat.add_mul, Nat.mul_add] at e3 ⊢
  omega
theorem rowN_len (B x : Nat) : ∀ (ys : List Nat) (pos over : Nat) (all : List Nat), (rowN B x ys pos over all).2.length = all.length
 | [], _, _, _ => rfl
 | y :: ys, pos, over, all => by simp only [rowN]; rw [rowN_len B x ys]; simp
theorem getD_set {l : List Nat} {i k v : Nat} (h : i ≠ k) : (l.set i v).getD k 0 = l.getD k 0 := by
 simp [List.getD_eq_getElem?_getD, List.getElem?_set_ne h]
theorem rowN_keep (B x : Nat) : ∀ (ys : List Nat) (pos over : Nat) (all : List Nat) (k : Nat), pos + ys.length ≤ k → (rowN B x ys pos over all).2.getD k 0 = all.getD k 0
 | [], _, _, _, _, _ => rfl
 | y :: ys, pos, over, all, k, h => by
  simp only [List.length_cons] at h
  simp only [rowN]
  rw [rowN_keep B x ys _ _ _ k (by omega), getD_set (by omega)]
def mulN (B : Nat) (ys : List Nat) : List Nat → Nat → List Nat → List Nat
 | [], _, all => all
 | x :: xs, i, all => mulN B ys xs (i + 1) ((rowN B x ys i 0 all).2.set (i + ys.length) (rowN B x ys i 0 all).1)
theorem mulN_val (B : Nat) (ys : List Nat) : ∀ (xs : List Nat) (i : Nat) (all : List Nat), i + xs.length + ys.length ≤ all.length → (∀ k, i + ys.length ≤ k → all.getD k 0 = 0) →
  valL B (mulN B ys xs i all) = valL B all + valL B xs * valL B ys * B ^ i
 | [], i, all, _, _ => by simp [mulN, valL]
 | x :: xs, i, all, h, hz => by
  simp only [List.length_cons] at h
  have hl := rowN_len B x ys i 0 all
  have hk := rowN_keep B x ys i 0 all (i + ys.length) (Nat.le_refl _)
  have hv := rowN_val B x ys i 0 all (by omega)
  have hs := valL_set B (rowN B x ys i 0 all).2 (i + ys.length) (rowN B x ys i 0 all).1 (by omega)
  rw [hk, hz _ (Nat.le_refl _)] at hs
  simp only [mulN, valL]
  rw [mulN_val B ys xs (i + 1) _ (by simp [hl]; omega) (fun k hk' => by
   rw [getD_set (by omega), rowN_keep B x ys i 0 all k (by omega)]
   exact hz k (by omega))]
  simp only [Nat.zero_mul, Nat.add_zero] at hs hv
  rw [hs, hv, Nat.pow_succ]
  have e : valL B xs * valL B ys * (B ^ i * B) = B * valL B xs * valL B ys * B ^ i := by
   rw [Nat.mul_comm (B ^ i) B, ← Nat.mul_assoc, Nat.mul_comm (valL B xs * valL B ys) B, ← Nat.mul_assoc]
  rw [e]
  simp only [Nat.add_mul]
  omega
end Go.Sy
set_option linter.unusedVariables false
set_option linter.unusedSimpArgs false
namespace Go.Sy
open Go
def cst (l : List Nat) : List Int := l.map fun (n : Nat) => (n : Int)
theorem cst_getD (l : List Nat) (i : Nat) : (cst l).getD i 0 = ((l.getD i 0 : Nat) : Int) := by
 simp only [cst, List.getD_eq_getElem?_getD, List.getElem?_map]
 cases l[i]? <;> simp
theorem cst_set (l : List Nat) (i v : Nat) : (cst l).set i (v : Int) = cst (l.set i v) := by
 simp [cst, List.map_set]
theorem toNat_nat (n : Nat) : Int.toNat (n : Int) = n := by omega
theorem wrapI (n : Nat) (h : n < 9223372036854775808) : IntKind.wrap .i64 (n : Int) = (n : Int) := by
 have h1 : (IntKind.i64).signed = true := rfl
 have h2 : (2 : Int) ^ (IntKind.i64).bits = 18446744073709551616 := rfl
 have h3 : (2 : Int) ^ ((IntKind.i64).bits - 1) = 9223372036854775808 := rfl
 simp only [IntKind.wrap, h1, h2, h3, Bool.true_and]
 rw [if_neg (by simp; omega)]
 omega
theorem blt_true {a b : Nat} (h : a < b) : Nat.blt a b = true := by simpa [Nat.blt_eq] using h
theorem nn (n : Nat) : decide (0 ≤ (n : Int)) = true := by simp
theorem mulRound {i j over : Nat} {all : List Nat} (hi : i < 4) (hj : j < 4) (ho : over < 18446744073709551616) (ha : all.getD (i + j) 0 < 18446744073709551616) (s13 : Int) (x y high low : Nat) :
  u256MulL1R (i : Int) (over : Int) s13 (j : Int) x y high low (cst all) =
   some (.inl ((i : Int), (((ln x i * ln y j + all.getD (i + j) 0 + over) / 18446744073709551616 : Nat) : Int), s13, ((j + 1 : Nat) : Int), x, y, high, low, cst (all.set (i + j) ((ln x i * ln y j + all.getD (i + j) 0 + over) % 18446744073709551616)))) := by
 obtain ⟨h, l, e1, hh, hl, ep⟩ := mul64_val (ln_lt x i) (ln_lt y j)
 obtain ⟨d1, c1, e2, hd1, hc1, q1⟩ := add64_val (c := 0) hl ha (by decide)
 obtain ⟨d2, c2, e3, hd2, hc2, q2⟩ := add64_val (c := 0) hd1 ho (by decide)
 have e2' : bitsAdd64 (l : Int) ((all.getD (i + j) 0 : Nat) : Int) 0 = some ((d1 : Int), (c1 : Int)) := by simpa using e2
 have e3' : bitsAdd64 (d1 : Int) (over : Int) 0 = some ((d2 : Int), (c2 : Int)) := by simpa using e3
 have hp : ln x i * ln y j ≤ 18446744073709551615 * 18446744073709551615 := Nat.mul_le_mul (Nat.le_of_lt_succ (ln_lt x i)) (Nat.le_of_lt_succ (ln_lt y j))
 have hw : IntKind.wrap .i64 ((i : Int) + (j : Int)) = ((i + j : Nat) : Int) := by rw [← Int.natCast_add]; exact wrapI _ (by omega)
 have hw1 : IntKind.wrap .i64 ((j : Int) + 1) = ((j + 1 : Nat) : Int) := by
  have := wrapI (j + 1) (by omega)
  simpa using this
 have hq : (ln x i * ln y j + all.getD (i + j) 0 + over) / 18446744073709551616 = h + c1 + c2 := by omega
 have hr : (ln x i * ln y j + all.getD (i + j) 0 + over) % 18446744073709551616 = d2 := by omega
 have hlt : h + c1 + c2 < 18446744073709551616 := by omega
 have hs : IntKind.wrap .u64 (IntKind.wrap .u64 ((h : Int) + (c1 : Int)) + (c2 : Int)) = ((h + c1 + c2 : Nat) : Int) := by
  rw [← Int.natCast_add, wrap64, Nat.mod_eq_of_lt (by omega), ← Int.natCast_add, wrap64, Nat.mod_eq_of_lt (by omega)]
 unfold u256MulL1R
 rw [hw, toNat_nat, toNat_nat, toNat_nat, cst_getD, hq, hr, hw1]
 have b1 := blt_true hi
 have b2 := blt_true hj
 have b3 : Nat.blt (i + j) 8 = true := blt_true (by omega)
 refine guard_step (decide_eq_true (by omega)) (guard_step (nn i) (guard_step b1 (guard_step b1 (guard_step (nn j) (guard_step b2 (guard_step b2 ?_))))))
 refine bind_step (a := ((h : Int), (l : Int))) (by rw [limb_ln, limb_ln]; exact e1) (guard_step (nn _) (guard_step b3 (guard_step b3 ?_)))
 refine bind_step e2' (bind_step e3' (guard_step (nn _) (guard_step b3 (guard_step b3 ?_))))
 rw [hs, cst_set]
def digs (B : Nat) (l : List Nat) : Prop := ∀ k, l.getD k 0 < B
theorem digs_set {B : Nat} {l : List Nat} (h : digs B l) {i v : Nat} (hv : v < B) : digs B (l.set i v) := by
 intro k
 by_cases hk : i = k
 ·subst hk
  rcases Nat.lt_or_ge i l.length with hl | hl
  ·simp [List.getD_eq_getElem?_getD, List.getElem?_set_self hl, hv]
  ·rw [List.set_eq_of_length_le hl]; exact h i
 ·rw [getD_set hk]; exact h k
theorem row_lt {B x y c o : Nat} (hx : x < B) (hy : y < B) (hc : c < B) (ho : o < B) : (x * y + c + o) / B < B := by
 refine Nat.div_lt_of_lt_mul ?_
 have h1 := Nat.mul_le_mul (Nat.le_of_lt_succ (show x < (B - 1).succ by omega)) (Nat.le_of_lt_succ (show y < (B - 1).succ by omega))
 obtain ⟨b, rfl⟩ : ∃ b, B = b + 1 := ⟨B - 1, by omega⟩
 simp only [Nat.add_sub_cancel] at h1
 have : (b + 1) * (b + 1) = b * b + 2 * b + 1 := by rw [Nat.add_mul, Nat.mul_add]; omega
 rw [this]; omega
theorem rowN_digs {B x : Nat} (hx : x < B) : ∀ (ys : List Nat) (pos over : Nat) (all : List Nat), digs B ys → over < B → digs B all → (rowN B x ys pos over all).1 < B ∧ digs B (rowN B x ys pos over all).2
 | [], _, _, _, _, ho, ha => ⟨ho, ha⟩
 | y :: ys, pos, over, all, hy, ho, ha => by
  simp only [rowN]
  exact rowN_digs hx ys _ _ _ (fun k => by simpa using hy (k + 1)) (row_lt hx (hy 0) (ha pos) ho) (digs_set ha (Nat.mod_lt _ (by omega)))
theorem mulExit (i over s13 : Int) (x y high low : Nat) (all : List Int) : u256MulL1R i over s13 4 x y high low all = some (.inr (i, over, s13, x, y, high, low, all)) := by
 unfold u256MulL1R
 exact guard_else rfl rfl
def lnL (y : Nat) : List Nat := [ln y 0, ln y 1, ln y 2, ln y 3]
theorem lnL_digs (y : Nat) : digs 18446744073709551616 (lnL y) := by
 intro k
 match k with
 | 0 => exact ln_lt y 0
 | 1 => exact ln_lt y 1
 | 2 => exact ln_lt y 2
 | 3 => exact ln_lt y 3
 | k + 4 => simp [lnL]
theorem mulLoop1 {i : Nat} (hi : i < 4) (s13 : Int) (x y high low : Nat) : ∀ (m j over : Nat) (all : List Nat), j ≤ 4 → 4 - j < m → over < 18446744073709551616 → digs 18446744073709551616 all →
  iter (fun p : Int × Int × Int × Int × Nat × Nat × Nat × Nat × List Int => u256MulL1R p.1 p.2.1 p.2.2.1 p.2.2.2.1 p.2.2.2.2.1 p.2.2.2.2.2.1 p.2.2.2.2.2.2.1 p.2.2.2.2.2.2.2.1 p.2.2.2.2.2.2.2.2) m ((i : Int), (over : Int), s13, (j : Int), x, y, high, low, cst all) =
   some ((i : Int), (((rowN 18446744073709551616 (ln x i) ((lnL y).drop j) (i + j) over all).1 : Nat) : Int), s13, x, y, high, low, cst (rowN 18446744073709551616 (ln x i) ((lnL y).drop j) (i + j) over all).2) := by
 intro m
 induction m with
 | zero => intro j over all _ h; omega
 | succ m ih =>
  intro j over all hj hm ho ha
  by_cases h4 : j = 4
  ·subst h4
   exact iter_end (mulExit _ _ _ _ _ _ _ _)
  ·have hj' : j < 4 := by omega
   refine iter_more (mulRound hi hj' ho (ha _) s13 x y high low) ?_
   have hd : (lnL y).drop j = ln y j :: (lnL y).drop (j + 1) := by
    have : j = 0 ∨ j = 1 ∨ j = 2 ∨ j = 3 := by omega
    rcases this with rfl | rfl | rfl | rfl <;> rfl
   rw [hd]
   simp only [rowN]
   exact ih (j + 1) _ _ (by omega) (by omega) (row_lt (ln_lt x i) (ln_lt y j) (ha _) ho) (digs_set ha (Nat.mod_lt _ (by decide)))
theorem mulRound0 {i : Nat} {all : List Nat} (hi : i < 4) (ha : digs 18446744073709551616 all) (x y high low : Nat) :
  u256MulL0R (i : Int) x y high low (cst all) = some (.inl (((i + 1 : Nat) : Int), x, y, high, low, cst ((rowN 18446744073709551616 (ln x i) (lnL y) i 0 all).2.set (i + 4) (rowN 18446744073709551616 (ln x i) (lnL y) i 0 all).1))) := by
 have h1 := mulLoop1 hi (i : Int) x y high low 1000 0 0 all (by decide) (by decide) (by decide) ha
 have hw : IntKind.wrap .i64 ((i : Int) + 4) = ((i + 4 : Nat) : Int) := by
  have := wrapI (i + 4) (by omega)
  simpa using this
 have hw1 : IntKind.wrap .i64 ((i : Int) + 1) = ((i + 1 : Nat) : Int) := by
  have := wrapI (i + 1) (by omega)
  simpa using this
 have hb : Nat.blt (i + 4) 8 = true := blt_true (by omega)
 unfold u256MulL0R
 refine guard_step (decide_eq_true (by omega)) ?_
 refine bind_step ((u256MulL1_eq _ _ _ _ _ _ _ _ _).trans h1) ?_
 simp only [List.drop_zero, Nat.add_zero]
 rw [hw, toNat_nat, hw1]
 refine guard_step (nn _) (guard_step hb (guard_step hb ?_))
 rw [cst_set]
theorem mulExit0 (x y high low : Nat) (all : List Int) : u256MulL0R 4 x y high low all = some (.inr (high, low, all)) := by
 unfold u256MulL0R
 exact guard_else rfl rfl
theorem mulLoop0 (x y high low : Nat) : ∀ (m i : Nat) (all : List Nat), i ≤ 4 → 4 - i < m → digs 18446744073709551616 all →
  iter (fun p : Int × Nat × Nat × Nat × Nat × List Int => u256MulL0R p.1 p.2.1 p.2.2.1 p.2.2.2.1 p.2.2.2.2.1 p.2.2.2.2.2) m ((i : Int), x, y, high, low, cst all) =
   some (high, low, cst (mulN 18446744073709551616 (lnL y) ((lnL x).drop i) i all)) ∧ digs 18446744073709551616 (mulN 18446744073709551616 (lnL y) ((lnL x).drop i) i all) := by
 intro m
 induction m with
 | zero => intro i all _ h; omega
 | succ m ih =>
  intro i all hi hm ha
  by_cases h4 : i = 4
  ·subst h4
   exact ⟨iter_end (mulExit0 _ _ _ _ _), ha⟩
  ·have hi' : i < 4 := by omega
   have hd : (lnL x).drop i = ln x i :: (lnL x).drop (i + 1) := by
    have : i = 0 ∨ i = 1 ∨ i = 2 ∨ i = 3 := by omega
    rcases this with rfl | rfl | rfl | rfl <;> rfl
   obtain ⟨g1, g2⟩ := rowN_digs (ln_lt x i) (lnL y) i 0 all (lnL_digs y) (by decide) ha
   obtain ⟨k1, k2⟩ := ih (i + 1) _ (by omega) (by omega) (digs_set (i := i + 4) g2 g1)
   rw [hd]
   exact ⟨iter_more (mulRound0 hi' ha x y high low) k1, k2⟩
theorem mulN_len (B : Nat) (ys : List Nat) : ∀ (xs : List Nat) (i : Nat) (all : List Nat), (mulN B ys xs i all).length = all.length
 | [], _, _ => rfl
 | x :: xs, i, all => by simp only [mulN]; rw [mulN_len B ys xs]; simp [rowN_len]
theorem lnL_val {x : Nat} (h : x < M256) : valL 18446744073709551616 (lnL x) = x := by
 have := ln_sum h
 simp only [valL, lnL]
 omega
theorem digs_eight {l : List Nat} (hl : l.length = 8) : ∃ a b c d e f g h, l = [a, b, c, d, e, f, g, h] := by
 match l, hl with
 | [a, b, c, d, e, f, g, h], _ => exact ⟨a, b, c, d, e, f, g, h, rfl⟩
theorem u256Mul_val {x y : Nat} (hx : x < M256) (hy : y < M256) : ∃ h l : Nat, u256Mul x y = some (h, l) ∧ h < M256 ∧ l < M256 ∧ l + M256 * h = x * y := by
 have hz : digs 18446744073709551616 (List.replicate 8 0) := by
  intro k
  simp only [List.getD_eq_getElem?_getD, List.getElem?_replicate]
  split <;> simp
 obtain ⟨h1, h2⟩ := mulLoop0 x y 0 0 1000 0 (List.replicate 8 0) (by decide) (by decide) hz
 have hv := mulN_val 18446744073709551616 (lnL y) (lnL x) 0 (List.replicate 8 0) (by simp [lnL]) (fun k _ => by
  simp only [List.getD_eq_getElem?_getD, List.getElem?_replicate]
  split <;> simp)
 have hl := mulN_len 18446744073709551616 (lnL y) (lnL x) 0 (List.replicate 8 0)
 simp only [List.drop_zero] at h1 h2
 rw [lnL_val hx, lnL_val hy] at hv
 generalize mulN 18446744073709551616 (lnL y) (lnL x) 0 (List.replicate 8 0) = all at *
 obtain ⟨a, b, c, d, e, f, g, h, rfl⟩ := digs_eight (hl.trans (by simp))
 have ha := h2 0; have hb := h2 1; have hc := h2 2; have hd := h2 3
 have he := h2 4; have hf := h2 5; have hg := h2 6; have hh := h2 7
 simp only [List.getD_cons_zero, List.getD_cons_succ] at ha hb hc hd he hf hg hh
 have z : valL 18446744073709551616 (List.replicate 8 0) = 0 := by decide
 rw [z] at hv
 refine ⟨e + 18446744073709551616 * f + 340282366920938463463374607431768211456 * g + 6277101735386680763835789423207666416102355444464034512896 * h,
  a + 18446744073709551616 * b + 340282366920938463463374607431768211456 * c + 6277101735386680763835789423207666416102355444464034512896 * d, ?_, ?_, ?_, ?_⟩
 ·rw [u256Mul_eq]
  unfold u256MulB
  have e0 : (List.replicate 8 (0 : Int)) = cst (List.replicate 8 0) := rfl
  rw [e0]
  refine bind_step ((u256MulL0_eq _ _ _ _ _ _).trans h1) ?_
  have s1 : spliceL (limbs 0) 0 (List.take 4 (List.take 4 (List.drop 0 (cst [a, b, c, d, e, f, g, h])))) = [(a : Int), (b : Int), (c : Int), (d : Int)] := rfl
  have s2 : spliceL (limbs 0) 0 (List.take 4 (List.take 4 (List.drop 4 (cst [a, b, c, d, e, f, g, h])))) = [(e : Int), (f : Int), (g : Int), (h : Int)] := rfl
  simp only [s1, s2]
  refine guard_step (by simp [inU64_nat ha, inU64_nat hb, inU64_nat hc, inU64_nat hd]) (guard_step (by simp [inU64_nat he, inU64_nat hf, inU64_nat hg, inU64_nat hh]) ?_)
  have f1 := four_val ha hb hc hd
  have f2 := four_val he hf hg hh
  simp only [ofLimbs, List.getD_cons_zero, List.getD_cons_succ]
  rw [f1, f2]
 ·simp only [M256]; omega
 ·simp only [M256]; omega
 ·simp only [valL, Nat.pow_zero, Nat.mul_one, Nat.zero_add] at hv
  rw [← hv]
  simp only [M256]
  omega
end Go.Sy
set_option linter.unusedVariables false
set_option linter.unusedSimpArgs false
namespace Go.Sy
open Go
theorem u256From_val {c : Nat} (hc : c < 18446744073709551616) : u256From (c : Int) = some c := by
 rw [u256From_eq]
 unfold u256FromB
 first
 | (refine guard_step (inU64_nat hc) ?_; have := setLimb_new' (x := 0) (i := 0) (by decide) hc; rw [this.1]; simp)
 | skip
structure FoldOk (m rest : Nat) : Prop where
 sum : m + rest = M256
 two : rest * rest < 2 * M256
 three : 3 * rest < M256
 pos : 0 < rest
 big : rest < m
theorem foldRound {m rest high low b6 : Nat} (hf : FoldOk m rest) (hh : high < M256) (hl : low < M256) (h0 : high ≠ 0) :
  ∃ high' low', fieldModulusFoldL0R (m, rest) high low b6 = some (.inl ((m, rest), high', low', b6)) ∧ high' < M256 ∧ low' < M256 ∧ high' * M256 + low' = high * rest + low := by
 have hr : rest < M256 := by have := hf.sum; have := hf.big; omega
 obtain ⟨h, l, e1, g1, g2, g3⟩ := u256Mul_val hh hr
 obtain ⟨r, c, e2, k1, k2, k3⟩ := u256Add_val hl g2
 have hh1 : h < M256 - 1 := by
  have h1 : high * rest ≤ (M256 - 1) * rest := Nat.mul_le_mul_right _ (by omega)
  have h2 : (M256 - 1) * rest < M256 * rest := Nat.mul_lt_mul_of_pos_right (by simp [M256]) hf.pos
  have h3 : M256 * h < M256 * rest := by omega
  have h4 : h < rest := Nat.lt_of_mul_lt_mul_left h3
  have := hf.sum; have := hf.big; omega
 obtain ⟨t, o, e3, j1, j2, j3⟩ := u256Add_val (x := h) (y := c) (by omega) (by simp only [M256]; omega)
 have ho : o = 0 := by
  rcases (show o = 0 ∨ o = 1 by omega) with h | h
  ·exact h
  ·subst h; omega
 subst ho
 refine ⟨t, r, ?_, j1, k1, ?_⟩
 ·unfold fieldModulusFoldL0R
  refine guard_step ?_ ?_
  ·rw [u256eq_val hh (by simp [M256])]; simp [h0]
  ·refine bind_step e1 (bind_step e2 (bind_step (u256From_val (by omega)) (bind_step e3 rfl)))
 ·have : t = h + c := by omega
  subst this
  rw [Nat.add_mul, Nat.mul_comm h, Nat.mul_comm c]
  omega
theorem foldExit (f : Nat × Nat) (low b6 : Nat) : fieldModulusFoldL0R f 0 low b6 = some (.inr (f, low, b6)) := by
 unfold fieldModulusFoldL0R
 exact guard_else rfl rfl
theorem fold_mod {m rest high low high' low' : Nat} (hs : m + rest = M256) (h : high' * M256 + low' = high * rest + low) : (high' * M256 + low') % m = (high * M256 + low) % m := by
 rw [h, ← hs, Nat.mul_add]
 rw [Nat.add_assoc, Nat.mul_comm high m, Nat.mul_add_mod]
theorem foldLoop {m rest b6 : Nat} (hf : FoldOk m rest) {high low : Nat} (hh : high < M256) (hl : low < M256) :
  ∃ r, fieldModulusFoldL0 (m, rest) high low b6 = some ((m, rest), r, b6) ∧ r < M256 ∧ r % m = (high * M256 + low) % m := by
 have fin : ∀ (n low : Nat), low < M256 → ∃ r, iter (fun p : (Nat × Nat) × Nat × Nat × Nat => fieldModulusFoldL0R p.1 p.2.1 p.2.2.1 p.2.2.2) (n + 1) ((m, rest), 0, low, b6) = some ((m, rest), r, b6) ∧ r < M256 ∧ r % m = (0 * M256 + low) % m :=
  fun n low hl => ⟨low, iter_end (foldExit _ _ _), hl, by simp⟩
 have step : ∀ (n high low : Nat) (Q : Nat → Nat → Prop), high < M256 → low < M256 →
   (∀ high' low', high' < M256 → low' < M256 → high' * M256 + low' = high * rest + low → Q high' low') →
   (∀ high' low', high' < M256 → low' < M256 → Q high' low' → ∃ r, iter (fun p : (Nat × Nat) × Nat × Nat × Nat => fieldModulusFoldL0R p.1 p.2.1 p.2.2.1 p.2.2.2) (n + 1) ((m, rest), high', low', b6) = some ((m, rest), r, b6) ∧ r < M256 ∧ r % m = (high' * M256 + low') % m) →
   ∃ r, iter (fun p : (Nat × Nat) × Nat × Nat × Nat => fieldModulusFoldL0R p.1 p.2.1 p.2.2.1 p.2.2.2) (n + 2) ((m, rest), high, low, b6) = some ((m, rest), r, b6) ∧ r < M256 ∧ r % m = (high * M256 + low) % m := by
  intro n high low Q hh hl hQ hn
  by_cases h0 : high = 0
  ·subst h0; exact fin (n + 1) low hl
  ·obtain ⟨h', l', e, g1, g2, g3⟩ := foldRound (b6 := b6) hf hh hl h0
   obtain ⟨r, k1, k2, k3⟩ := hn h' l' g1 g2 (hQ h' l' g1 g2 g3)
   exact ⟨r, iter_more e k1, k2, k3.trans (fold_mod hf.sum g3)⟩
 rw [fieldModulusFoldL0_eq]
 have hM : 0 < M256 := by simp [M256]
 refine step 998 high low (fun h' _ => h' ≤ rest) hh hl (fun h' l' g1 g2 g3 => ?_) (fun h1 l1 a1 a2 q1 => ?_)
 ·have h1 : high * rest ≤ (M256 - 1) * rest := Nat.mul_le_mul_right _ (by omega)
  have h2 : (M256 - 1) * rest + rest = M256 * rest := by rw [← Nat.succ_mul]; first | done | (congr 1; done) | (congr 1; omega)
  have h3 : h' * M256 < (rest + 1) * M256 := by
   rw [Nat.add_mul, Nat.mul_comm rest M256]; have := hf.pos; omega
  exact Nat.le_of_lt_succ (Nat.lt_of_mul_lt_mul_right h3)
 refine step 997 h1 l1 (fun h' _ => h' ≤ 2) a1 a2 (fun h' l' g1 g2 g3 => ?_) (fun h2 l2 b1 b2 q2 => ?_)
 ·have h1' : h1 * rest ≤ rest * rest := Nat.mul_le_mul_right _ q1
  have := hf.two
  have h3 : h' * M256 < 3 * M256 := by omega
  exact Nat.le_of_lt_succ (Nat.lt_of_mul_lt_mul_right h3)
 refine step 996 h2 l2 (fun h' l' => h' = 0 ∨ (h' = 1 ∧ l' < 2 * rest)) b1 b2 (fun h' l' g1 g2 g3 => ?_) (fun h3 l3 c1 c2 q3 => ?_)
 ·have h1' : h2 * rest ≤ 2 * rest := Nat.mul_le_mul_right _ q2
  have := hf.three
  rcases Nat.lt_or_ge h' 1 with h | h
  ·left; omega
  ·right
   have h4 : 1 * M256 ≤ h' * M256 := Nat.mul_le_mul_right _ h
   have h5 : h' * M256 < 2 * M256 := by omega
   have h6 : h' < 2 := Nat.lt_of_mul_lt_mul_right h5
   have : h' = 1 := by omega
   subst this
   exact ⟨rfl, by omega⟩
 refine step 995 h3 l3 (fun h' _ => h' = 0) c1 c2 (fun h' l' g1 g2 g3 => ?_) (fun h4 l4 d1 d2 q4 => ?_)
 ·have := hf.three
  rcases q3 with rfl | ⟨rfl, q⟩
  ·rcases Nat.lt_or_ge h' 1 with h | h
   ·omega
   ·have h4 : 1 * M256 ≤ h' * M256 := Nat.mul_le_mul_right _ h
    omega
  ·rcases Nat.lt_or_ge h' 1 with h | h
   ·omega
   ·have h4 : 1 * M256 ≤ h' * M256 := Nat.mul_le_mul_right _ h
    omega
 subst q4
 exact fin 995 l4 d2
end Go.Sy
set_option linter.unusedVariables false
set_option linter.unusedSimpArgs false
namespace Go.Sy
open Go
theorem foldRound1_stop {m rest low b6 : Nat} (hm : m < M256) (hl : low < M256) (h : low < m) : fieldModulusFoldL1R (m, rest) low b6 = some (.inr (low, b6)) := by
 unfold fieldModulusFoldL1R
 refine bind_step (u256Cmp_val hl hm) (guard_else ?_ rfl)
 simp [cmpI, h]
theorem foldRound1_go {m rest low b6 : Nat} (hm : m < M256) (hl : low < M256) (h : m ≤ low) : fieldModulusFoldL1R (m, rest) low b6 = some (.inl ((m, rest), low - m, b6)) := by
 obtain ⟨r, o, e, g1, g2, g3⟩ := u256Sub_val hl hm
 have ho : o = 0 := by
  rcases (show o = 0 ∨ o = 1 by omega) with h' | h'
  ·exact h'
  ·subst h'; omega
 subst ho
 have hr : r = low - m := by omega
 subst hr
 unfold fieldModulusFoldL1R
 refine bind_step (u256Cmp_val hl hm) (guard_step ?_ (bind_step e rfl))
 have : ¬ low < m := by omega
 simp only [cmpI, this, if_false]
 split <;> decide
theorem foldLoop1 {m rest low b6 : Nat} (hf : FoldOk m rest) (hl : low < M256) : fieldModulusFoldL1 (m, rest) low b6 = some (low % m, b6) := by
 have hs := hf.sum
 have hb := hf.big
 have hp := hf.pos
 have hm : m < M256 := by omega
 rw [fieldModulusFoldL1_eq]
 rcases Nat.lt_or_ge low m with h | h
 ·rw [Nat.mod_eq_of_lt h]
  exact iter_end (foldRound1_stop hm hl h)
 ·have e : low % m = low - m := by rw [Nat.mod_eq_sub_mod h, Nat.mod_eq_of_lt (by omega)]
  rw [e]
  have hstop := foldRound1_stop (rest := rest) (b6 := b6) hm (show low - m < M256 by omega) (show low - m < m by omega)
  exact iter_more (foldRound1_go hm hl h) (iter_end hstop)
theorem fold_val {m rest high low : Nat} (hf : FoldOk m rest) (hh : high < M256) (hl : low < M256) : fieldModulusFold (m, rest) high low = some ((high * M256 + low) % m) := by
 obtain ⟨r, e, g1, g2⟩ := foldLoop (b6 := 0) hf hh hl
 rw [fieldModulusFold_eq]
 unfold fieldModulusFoldB
 refine bind_step e (bind_step (foldLoop1 hf g1) ?_)
 rw [g2]
end Go.Sy
set_option linter.unusedVariables false
set_option linter.unusedSimpArgs false
namespace Go.Sy
open Go
def dg (x : Nat) : List Nat := [ln x 0 % 4294967296, ln x 0 / 4294967296, ln x 1 % 4294967296, ln x 1 / 4294967296, ln x 2 % 4294967296, ln x 2 / 4294967296, ln x 3 % 4294967296, ln x 3 / 4294967296]
theorem tmod32 (n : Nat) : Int.tmod (n : Int) 4294967296 = ((n % 4294967296 : Nat) : Int) := by
 rw [Int.tmod_eq_emod_of_nonneg (by omega)]; omega
theorem tdiv32 (n : Nat) : Int.tdiv (n : Int) 4294967296 = ((n / 4294967296 : Nat) : Int) := by
 rw [Int.tdiv_eq_ediv_of_nonneg (by omega)]; omega
theorem wdiv32 (n : Nat) (h : n < 18446744073709551616) : IntKind.wrap .u64 (Int.tdiv (n : Int) 4294967296) = ((n / 4294967296 : Nat) : Int) := by
 rw [tdiv32, wrap64]; omega
theorem digits_val (x : Nat) : ref01IDigits x = some (cst (dg x)) := by
 rw [ref01IDigits_eq]
 unfold ref01IDigitsB
 rw [limb_ln, limb_ln, limb_ln, limb_ln, tmod32, tmod32, tmod32, tmod32, wdiv32 _ (ln_lt x 0), wdiv32 _ (ln_lt x 1), wdiv32 _ (ln_lt x 2), wdiv32 _ (ln_lt x 3)]
 rfl
theorem dg_val {x : Nat} (h : x < M256) : valL 4294967296 (dg x) = x := by
 have := ln_sum h
 have := ln_lt x 0; have := ln_lt x 1; have := ln_lt x 2; have := ln_lt x 3
 simp only [valL, dg]
 omega
theorem dg_digs (x : Nat) : digs 4294967296 (dg x) := by
 have := ln_lt x 0; have := ln_lt x 1; have := ln_lt x 2; have := ln_lt x 3
 intro k
 match k with
 | 0 => simp [dg]; omega
 | 1 => simp [dg]; omega
 | 2 => simp [dg]; omega
 | 3 => simp [dg]; omega
 | 4 => simp [dg]; omega
 | 5 => simp [dg]; omega
 | 6 => simp [dg]; omega
 | 7 => simp [dg]; omega
 | k + 8 => simp [dg]
end Go.Sy
set_option linter.unusedVariables false
set_option linter.unusedSimpArgs false
namespace Go.Sy
open Go
theorem valL_lt {B : Nat} : ∀ {l : List Nat}, digs B l → valL B l < B ^ l.length
 | [], _ => by simp [valL]
 | d :: l, h => by
  have h0 : d < B := h 0
  have ih := valL_lt (B := B) (l := l) fun k => by simpa using h (k + 1)
  simp only [valL, List.length_cons, Nat.pow_succ]
  have h2 : B * (valL B l + 1) ≤ B * B ^ l.length := Nat.mul_le_mul_left _ ih
  rw [Nat.mul_add, Nat.mul_one] at h2
  rw [Nat.mul_comm (B ^ l.length)]
  omega
theorem number_val {d : List Nat} (hl : d.length = 8) (hd : digs 4294967296 d) : ref01INumber (cst d) = some (valL 4294967296 d) ∧ valL 4294967296 d < M256 := by
 have hlt : valL 4294967296 d < M256 := by
  have := valL_lt hd
  rw [hl] at this
  exact this
 refine ⟨?_, hlt⟩
 clear hlt
 obtain ⟨a, b, c, e, f, g, h, i, rfl⟩ := digs_eight hl
 have h0 := hd 0; have h1 := hd 1; have h2 := hd 2; have h3 := hd 3
 have h4 := hd 4; have h5 := hd 5; have h6 := hd 6; have h7 := hd 7
 simp only [List.getD_cons_zero, List.getD_cons_succ] at h0 h1 h2 h3 h4 h5 h6 h7
 have w : ∀ u v : Nat, u < 4294967296 → v < 4294967296 → IntKind.wrap .u64 ((u : Int) + IntKind.wrap .u64 (4294967296 * (v : Int))) = ((u + 4294967296 * v : Nat) : Int) := fun u v hu hv => by
  have e1 : (4294967296 : Int) * (v : Int) = ((4294967296 * v : Nat) : Int) := by simp
  rw [e1, wrap64, Nat.mod_eq_of_lt (by omega), ← Int.natCast_add, wrap64, Nat.mod_eq_of_lt (by omega)]
 rw [ref01INumber_eq]
 unfold ref01INumberB
 rw [cst_getD, cst_getD, cst_getD, cst_getD, cst_getD, cst_getD, cst_getD, cst_getD]
 simp only [List.getD_cons_zero, List.getD_cons_succ]
 rw [w a b h0 h1, w c e h2 h3, w f g h4 h5, w h i h6 h7]
 refine guard_step (inU64_nat (by omega)) (guard_step (inU64_nat (by omega)) (guard_step (inU64_nat (by omega)) (guard_step (inU64_nat (by omega)) ?_)))
 rw [four_val (by omega) (by omega) (by omega) (by omega)]
 congr 1
 clear w h0 h1 h2 h3 h4 h5 h6 h7 hd hl
 simp only [valL]
 omega
end Go.Sy
set_option linter.unusedVariables false
set_option linter.unusedSimpArgs false
namespace Go.Sy
open Go
theorem wu64 (n : Nat) (h : n < 18446744073709551616) : IntKind.wrap .u64 (n : Int) = (n : Int) := by rw [wrap64, Nat.mod_eq_of_lt h]
theorem wi1 (n : Nat) (h : n < 1000000) : IntKind.wrap .i64 ((n : Int) + 1) = ((n + 1 : Nat) : Int) := by
 have := wrapI (n + 1) (by omega)
 simpa using this
theorem valL_drop (B : Nat) {l : List Nat} {i : Nat} (h : i < l.length) : valL B (l.drop i) = l.getD i 0 + B * valL B (l.drop (i + 1)) := by
 rw [List.drop_eq_getElem_cons h, valL]
 simp [List.getD_eq_getElem?_getD, List.getElem?_eq_getElem h]
theorem addRound {i c : Nat} {a b : List Nat} (hi : i < 8) (ha : digs 4294967296 a) (hb : digs 4294967296 b) (hc : c ≤ 1) (b4 : Nat) :
  ref01AddL0R (c : Int) (i : Int) b4 (cst a) (cst b) =
   some (.inl ((((a.getD i 0 + b.getD i 0 + c) / 4294967296 : Nat) : Int), ((i + 1 : Nat) : Int), b4, cst (a.set i ((a.getD i 0 + b.getD i 0 + c) % 4294967296)), cst b)) := by
 have h1 := ha i
 have h2 := hb i
 unfold ref01AddL0R
 rw [toNat_nat, cst_getD, cst_getD, ← Int.natCast_add, wu64 _ (by omega), ← Int.natCast_add, wu64 _ (by omega), tmod32, wdiv32 _ (by omega), wi1 _ (by omega), cst_set]
 refine guard_step (decide_eq_true (by omega)) ?_
 repeat' first | refine guard_step (nn _) ?_ | refine guard_step (blt_true hi) ?_ | fail
 rfl
theorem addLoop (b4 : Nat) {b : List Nat} (hbl : b.length = 8) (hb : digs 4294967296 b) : ∀ (m i c : Nat) (a : List Nat), i ≤ 8 → 8 - i < m → c ≤ 1 → digs 4294967296 a → a.length = 8 →
  ∃ (c' : Nat) (a' : List Nat), iter (fun p : Int × Int × Nat × List Int × List Int => ref01AddL0R p.1 p.2.1 p.2.2.1 p.2.2.2.1 p.2.2.2.2) m ((c : Int), (i : Int), b4, cst a, cst b) = some ((c' : Int), b4, cst a') ∧ c' ≤ 1 ∧ digs 4294967296 a' ∧ a'.length = 8 ∧
   valL 4294967296 a' + c' * 4294967296 ^ 8 = valL 4294967296 a + valL 4294967296 (b.drop i) * 4294967296 ^ i + c * 4294967296 ^ i := by
 intro m
 induction m with
 | zero => intro i c a _ h; omega
 | succ m ih =>
  intro i c a hi hm hc ha hl
  by_cases h8 : i = 8
  ·subst h8
   refine ⟨c, a, iter_end ?_, hc, ha, hl, ?_⟩
   ·unfold ref01AddL0R
    exact guard_else rfl rfl
   ·rw [List.drop_eq_nil_of_le (by omega)]; simp [valL]
  ·have hi' : i < 8 := by omega
   have h1 := ha i
   have h2 := hb i
   obtain ⟨c', a', e, g1, g2, g3, g4⟩ := ih (i + 1) ((a.getD i 0 + b.getD i 0 + c) / 4294967296) (a.set i ((a.getD i 0 + b.getD i 0 + c) % 4294967296)) (by omega) (by omega) (by omega) (digs_set ha (Nat.mod_lt _ (by decide))) (by simp [hl])
   refine ⟨c', a', iter_more (addRound hi' ha hb hc b4) e, g1, g2, g3, ?_⟩
   have hs := valL_set 4294967296 a i ((a.getD i 0 + b.getD i 0 + c) % 4294967296) (by omega)
   rw [g4, valL_drop 4294967296 (show i < b.length by omega)]
   generalize a.getD i 0 = u at *
   generalize b.getD i 0 = v at *
   generalize valL 4294967296 (b.drop (i + 1)) = V at *
   have hd := Nat.div_add_mod (u + v + c) 4294967296
   generalize (u + v + c) / 4294967296 = q at *
   generalize (u + v + c) % 4294967296 = r at *
   rw [Nat.pow_succ]
   have e1 : q * (4294967296 ^ i * 4294967296) = 4294967296 * q * 4294967296 ^ i := by rw [Nat.mul_comm (4294967296 ^ i), ← Nat.mul_assoc, Nat.mul_comm q]
   have e2 : V * (4294967296 ^ i * 4294967296) = 4294967296 * V * 4294967296 ^ i := by rw [Nat.mul_comm (4294967296 ^ i), ← Nat.mul_assoc, Nat.mul_comm V]
   have e3 : (4294967296 * q + r) * 4294967296 ^ i = (u + v + c) * 4294967296 ^ i := by rw [hd]
   rw [e1, e2]
   simp only [Nat.add_mul] at e3 ⊢
   omega
theorem ref01Add_val {x y : Nat} (hx : x < M256) (hy : y < M256) : ∃ r o : Nat, ref01Add x y = some (r, (o : Int)) ∧ r < M256 ∧ o ≤ 1 ∧ r + M256 * o = x + y := by
 obtain ⟨c, a, e, g1, g2, g3, g4⟩ := addLoop 0 (b := dg y) rfl (dg_digs y) 1000 0 0 (dg x) (by decide) (by decide) (by decide) (dg_digs x) rfl
 obtain ⟨n1, n2⟩ := number_val g3 g2
 refine ⟨_, c, ?_, n2, g1, ?_⟩
 ·rw [ref01Add_eq]
  unfold ref01AddB
  exact bind_step (digits_val x) (bind_step (digits_val y) (bind_step ((ref01AddL0_eq _ _ _ _ _).trans e) (bind_step n1 rfl)))
 ·rw [List.drop_zero, dg_val hx, dg_val hy] at g4
  have : (4294967296 : Nat) ^ 8 = M256 := by decide
  rw [this, Nat.mul_comm c] at g4
  omega
theorem subRound {i c : Nat} {a b : List Nat} (hi : i < 8) (ha : digs 4294967296 a) (hb : digs 4294967296 b) (hl : a.length = 8) (hc : c ≤ 1) (b4 : Nat) :
  ref01SubL0R (c : Int) (i : Int) b4 (cst a) (cst b) =
   if a.getD i 0 < b.getD i 0 + c then some (.inl (((1 : Nat) : Int), ((i + 1 : Nat) : Int), b4, cst (a.set i (a.getD i 0 + 4294967296 - (b.getD i 0 + c))), cst b))
   else some (.inl (((0 : Nat) : Int), ((i + 1 : Nat) : Int), b4, cst (a.set i (a.getD i 0 - (b.getD i 0 + c))), cst b)) := by
 have h1 := ha i
 have h2 := hb i
 have hlen : i < (cst a).length := by simp [cst, hl]; omega
 unfold ref01SubL0R
 rw [toNat_nat, cst_getD, cst_getD, ← Int.natCast_add, wu64 _ (by omega), wi1 _ (by omega)]
 refine guard_step (decide_eq_true (by omega)) ?_
 split
 ·rename_i hlt
  repeat' first | refine guard_step (nn _) ?_ | refine guard_step (blt_true hi) ?_ | fail
  refine guard_step (decide_eq_true (by omega)) ?_
  repeat' first | refine guard_step (nn _) ?_ | refine guard_step (blt_true hi) ?_ | fail
  rw [show ((a.getD i 0 : Nat) : Int) + 4294967296 = ((a.getD i 0 + 4294967296 : Nat) : Int) by omega, wu64 _ (by omega), cst_set, cst_getD]
  have hg : (a.set i (a.getD i 0 + 4294967296)).getD i 0 = a.getD i 0 + 4294967296 := by
   simp [List.getD_eq_getElem?_getD, List.getElem?_set_self (show i < a.length by omega)]
  rw [hg, show ((a.getD i 0 + 4294967296 : Nat) : Int) - ((b.getD i 0 + c : Nat) : Int) = ((a.getD i 0 + 4294967296 - (b.getD i 0 + c) : Nat) : Int) by omega, wu64 _ (by omega), cst_set]
  simp
 ·rename_i hlt
  repeat' first | refine guard_step (nn _) ?_ | refine guard_step (blt_true hi) ?_ | fail
  refine guard_else (decide_eq_false (by omega)) ?_
  repeat' first | refine guard_step (nn _) ?_ | refine guard_step (blt_true hi) ?_ | fail
  rw [show ((a.getD i 0 : Nat) : Int) - ((b.getD i 0 + c : Nat) : Int) = ((a.getD i 0 - (b.getD i 0 + c) : Nat) : Int) by omega, wu64 _ (by omega), cst_set]
  rfl
theorem subLoop (b4 : Nat) {b : List Nat} (hbl : b.length = 8) (hb : digs 4294967296 b) : ∀ (m i c : Nat) (a : List Nat), i ≤ 8 → 8 - i < m → c ≤ 1 → digs 4294967296 a → a.length = 8 →
  ∃ (c' : Nat) (a' : List Nat), iter (fun p : Int × Int × Nat × List Int × List Int => ref01SubL0R p.1 p.2.1 p.2.2.1 p.2.2.2.1 p.2.2.2.2) m ((c : Int), (i : Int), b4, cst a, cst b) = some ((c' : Int), b4, cst a') ∧ c' ≤ 1 ∧ digs 4294967296 a' ∧ a'.length = 8 ∧
   valL 4294967296 a' + valL 4294967296 (b.drop i) * 4294967296 ^ i + c * 4294967296 ^ i = valL 4294967296 a + c' * 4294967296 ^ 8 := by
 intro m
 induction m with
 | zero => intro i c a _ h; omega
 | succ m ih =>
  intro i c a hi hm hc ha hl
  by_cases h8 : i = 8
  ·subst h8
   refine ⟨c, a, iter_end ?_, hc, ha, hl, ?_⟩
   ·unfold ref01SubL0R
    exact guard_else rfl rfl
   ·rw [List.drop_eq_nil_of_le (by omega)]; simp [valL]
  ·have hi' : i < 8 := by omega
   have h1 := ha i
   have h2 := hb i
   have e := subRound hi' ha hb hl hc b4
   have key : ∀ (q r : Nat), q ≤ 1 → r < 4294967296 → r + b.getD i 0 + c = a.getD i 0 + 4294967296 * q →
     ref01SubL0R (c : Int) (i : Int) b4 (cst a) (cst b) = some (.inl ((q : Int), ((i + 1 : Nat) : Int), b4, cst (a.set i r), cst b)) →
     ∃ (c' : Nat) (a' : List Nat), iter (fun p : Int × Int × Nat × List Int × List Int => ref01SubL0R p.1 p.2.1 p.2.2.1 p.2.2.2.1 p.2.2.2.2) (m + 1) ((c : Int), (i : Int), b4, cst a, cst b) = some ((c' : Int), b4, cst a') ∧ c' ≤ 1 ∧ digs 4294967296 a' ∧ a'.length = 8 ∧
      valL 4294967296 a' + valL 4294967296 (b.drop i) * 4294967296 ^ i + c * 4294967296 ^ i = valL 4294967296 a + c' * 4294967296 ^ 8 := by
    intro q r hq hr hqr hround
    obtain ⟨c', a', e, g1, g2, g3, g4⟩ := ih (i + 1) q (a.set i r) (by omega) (by omega) hq (digs_set ha hr) (by simp [hl])
    refine ⟨c', a', iter_more hround e, g1, g2, g3, ?_⟩
    have hs := valL_set 4294967296 a i r (by omega)
    rw [valL_drop 4294967296 (show i < b.length by omega)]
    generalize a.getD i 0 = u at *
    generalize b.getD i 0 = v at *
    generalize valL 4294967296 (b.drop (i + 1)) = V at *
    rw [Nat.pow_succ] at g4
    have e1 : q * (4294967296 ^ i * 4294967296) = 4294967296 * q * 4294967296 ^ i := by rw [Nat.mul_comm (4294967296 ^ i), ← Nat.mul_assoc, Nat.mul_comm q]
    have e2 : V * (4294967296 ^ i * 4294967296) = 4294967296 * V * 4294967296 ^ i := by rw [Nat.mul_comm (4294967296 ^ i), ← Nat.mul_assoc, Nat.mul_comm V]
    have e3 : (r + v + c) * 4294967296 ^ i = (u + 4294967296 * q) * 4294967296 ^ i := by rw [hqr]
    rw [e1, e2] at g4
    simp only [Nat.add_mul] at e3 ⊢
    omega
   by_cases hlt : a.getD i 0 < b.getD i 0 + c
   ·rw [if_pos hlt] at e
    exact key 1 _ (by omega) (by omega) (by omega) e
   ·rw [if_neg hlt] at e
    exact key 0 _ (by omega) (by omega) (by omega) e
theorem ref01Sub_val {x y : Nat} (hx : x < M256) (hy : y < M256) : ∃ r o : Nat, ref01Sub x y = some (r, (o : Int)) ∧ r < M256 ∧ o ≤ 1 ∧ r + y = x + M256 * o := by
 obtain ⟨c, a, e, g1, g2, g3, g4⟩ := subLoop 0 (b := dg y) rfl (dg_digs y) 1000 0 0 (dg x) (by decide) (by decide) (by decide) (dg_digs x) rfl
 obtain ⟨n1, n2⟩ := number_val g3 g2
 refine ⟨_, c, ?_, n2, g1, ?_⟩
 ·rw [ref01Sub_eq]
  unfold ref01SubB
  exact bind_step (digits_val x) (bind_step (digits_val y) (bind_step ((ref01SubL0_eq _ _ _ _ _).trans e) (bind_step n1 rfl)))
 ·rw [List.drop_zero, dg_val hx, dg_val hy] at g4
  have : (4294967296 : Nat) ^ 8 = M256 := by decide
  rw [this, Nat.mul_comm c] at g4
  omega
theorem wcast {a b : Nat} (h : a + b < 18446744073709551616) : IntKind.wrap .u64 ((a : Int) + (b : Int)) = ((a + b : Nat) : Int) := by
 rw [← Int.natCast_add, wu64 _ h]
theorem mulRoundR {i j c : Nat} {a b p : List Nat} (hi : i < 8) (hj : j < 8) (hc : c < 4294967296) (ha : digs 4294967296 a) (hb : digs 4294967296 b) (hp : digs 4294967296 p) (b4 b5 : Nat) :
  ref01MulL1R (i : Int) (c : Int) (j : Int) b4 b5 (cst a) (cst b) (cst p) =
   some (.inl ((i : Int), (((a.getD i 0 * b.getD j 0 + p.getD (i + j) 0 + c) / 4294967296 : Nat) : Int), ((j + 1 : Nat) : Int), b4, b5, cst a, cst b, cst (p.set (i + j) ((a.getD i 0 * b.getD j 0 + p.getD (i + j) 0 + c) % 4294967296)))) := by
 have h1 := ha i
 have h2 := hb j
 have h3 := hp (i + j)
 have hm : a.getD i 0 * b.getD j 0 ≤ 4294967295 * 4294967295 := Nat.mul_le_mul (by omega) (by omega)
 have hw : IntKind.wrap .i64 ((i : Int) + (j : Int)) = ((i + j : Nat) : Int) := by rw [← Int.natCast_add]; exact wrapI _ (by omega)
 unfold ref01MulL1R
 rw [hw, toNat_nat, toNat_nat, toNat_nat, cst_getD, cst_getD, cst_getD, ← Int.natCast_mul, wu64 _ (by omega), wcast (by omega), wcast (by omega), tmod32, wdiv32 _ (by omega), wi1 _ (by omega), cst_set]
 rw [show p.getD (i + j) 0 + a.getD i 0 * b.getD j 0 + c = a.getD i 0 * b.getD j 0 + p.getD (i + j) 0 + c by omega]
 refine guard_step (decide_eq_true (by omega)) ?_
 repeat' first | refine guard_step (nn _) ?_ | refine guard_step (blt_true hi) ?_ | refine guard_step (blt_true hj) ?_ | refine guard_step (blt_true (show i + j < 16 by omega)) ?_ | fail
 rfl
theorem mulLoopR1 {i : Nat} (hi : i < 8) {a b : List Nat} (hbl : b.length = 8) (ha : digs 4294967296 a) (hb : digs 4294967296 b) (b4 b5 : Nat) : ∀ (m j c : Nat) (p : List Nat), j ≤ 8 → 8 - j < m → c < 4294967296 → digs 4294967296 p →
  iter (fun p : Int × Int × Int × Nat × Nat × List Int × List Int × List Int => ref01MulL1R p.1 p.2.1 p.2.2.1 p.2.2.2.1 p.2.2.2.2.1 p.2.2.2.2.2.1 p.2.2.2.2.2.2.1 p.2.2.2.2.2.2.2) m ((i : Int), (c : Int), (j : Int), b4, b5, cst a, cst b, cst p) =
   some ((i : Int), (((rowN 4294967296 (a.getD i 0) (b.drop j) (i + j) c p).1 : Nat) : Int), b4, b5, cst a, cst b, cst (rowN 4294967296 (a.getD i 0) (b.drop j) (i + j) c p).2) := by
 intro m
 induction m with
 | zero => intro j c p _ h; omega
 | succ m ih =>
  intro j c p hj hm hc hp
  by_cases h8 : j = 8
  ·subst h8
   rw [List.drop_eq_nil_of_le (by omega)]
   refine iter_end ?_
   unfold ref01MulL1R
   exact guard_else rfl rfl
  ·have hj' : j < 8 := by omega
   refine iter_more (mulRoundR hi hj' hc ha hb hp b4 b5) ?_
   have hd : b.drop j = b.getD j 0 :: b.drop (j + 1) := by
    rw [List.drop_eq_getElem_cons (by omega)]
    simp [List.getD_eq_getElem?_getD, List.getElem?_eq_getElem (show j < b.length by omega)]
   rw [hd]
   simp only [rowN]
   exact ih (j + 1) _ _ (by omega) (by omega) (row_lt (ha i) (hb j) (hp _) hc) (digs_set hp (Nat.mod_lt _ (by decide)))
theorem mulRoundR0 {i : Nat} (hi : i < 8) {a b p : List Nat} (hbl : b.length = 8) (ha : digs 4294967296 a) (hb : digs 4294967296 b) (hp : digs 4294967296 p) (b4 b5 : Nat) :
  ref01MulL0R (i : Int) b4 b5 (cst a) (cst b) (cst p) =
   some (.inl (((i + 1 : Nat) : Int), b4, b5, cst a, cst b, cst ((rowN 4294967296 (a.getD i 0) b i 0 p).2.set (i + b.length) (rowN 4294967296 (a.getD i 0) b i 0 p).1))) := by
 have h1 := mulLoopR1 hi hbl ha hb b4 b5 1000 0 0 p (by decide) (by decide) (by decide) hp
 have hw : IntKind.wrap .i64 ((i : Int) + 8) = ((i + 8 : Nat) : Int) := by
  have := wrapI (i + 8) (by omega)
  simpa using this
 unfold ref01MulL0R
 refine guard_step (decide_eq_true (by omega)) ?_
 refine bind_step ((ref01MulL1_eq _ _ _ _ _ _ _ _).trans h1) ?_
 simp only [List.drop_zero, Nat.add_zero]
 rw [hw, toNat_nat, wi1 _ (by omega), hbl]
 have hb' : Nat.blt (i + 8) 16 = true := blt_true (by omega)
 refine guard_step (nn _) (guard_step hb' (guard_step hb' ?_))
 rw [cst_set]
theorem mulLoopR0 {a b : List Nat} (hal : a.length = 8) (hbl : b.length = 8) (ha : digs 4294967296 a) (hb : digs 4294967296 b) (b4 b5 : Nat) : ∀ (m i : Nat) (p : List Nat), i ≤ 8 → 8 - i < m → digs 4294967296 p →
  iter (fun p : Int × Nat × Nat × List Int × List Int × List Int => ref01MulL0R p.1 p.2.1 p.2.2.1 p.2.2.2.1 p.2.2.2.2.1 p.2.2.2.2.2) m ((i : Int), b4, b5, cst a, cst b, cst p) =
   some (b4, b5, cst (mulN 4294967296 b (a.drop i) i p)) ∧ digs 4294967296 (mulN 4294967296 b (a.drop i) i p) := by
 intro m
 induction m with
 | zero => intro i p _ h; omega
 | succ m ih =>
  intro i p hi hm hp
  by_cases h8 : i = 8
  ·subst h8
   rw [List.drop_eq_nil_of_le (by omega)]
   refine ⟨iter_end ?_, hp⟩
   unfold ref01MulL0R
   exact guard_else rfl rfl
  ·have hi' : i < 8 := by omega
   have hd : a.drop i = a.getD i 0 :: a.drop (i + 1) := by
    rw [List.drop_eq_getElem_cons (by omega)]
    simp [List.getD_eq_getElem?_getD, List.getElem?_eq_getElem (show i < a.length by omega)]
   obtain ⟨g1, g2⟩ := rowN_digs (ha i) b i 0 p hb (by decide) hp
   obtain ⟨k1, k2⟩ := ih (i + 1) _ (by omega) (by omega) (digs_set (i := i + b.length) g2 g1)
   rw [hd]
   simp only [mulN]
   exact ⟨iter_more (mulRoundR0 hi' hbl ha hb hp b4 b5) k1, k2⟩
theorem halvesRound {i : Nat} (hi : i < 8) (p low high : List Nat) (b4 b5 : Nat) :
  ref01MulL2R (i : Int) b4 b5 (cst p) (cst low) (cst high) = some (.inl (((i + 1 : Nat) : Int), b4, b5, cst p, cst (low.set i (p.getD i 0)), cst (high.set i (p.getD (i + 8) 0)))) := by
 have hw : IntKind.wrap .i64 ((i : Int) + 8) = ((i + 8 : Nat) : Int) := by
  have := wrapI (i + 8) (by omega)
  simpa using this
 unfold ref01MulL2R
 rw [hw, toNat_nat, toNat_nat, wi1 _ (by omega), cst_getD, cst_getD, cst_set, cst_set]
 refine guard_step (decide_eq_true (by omega)) ?_
 repeat' first | refine guard_step (nn _) ?_ | refine guard_step (blt_true hi) ?_ | refine guard_step (blt_true (show i < 16 by omega)) ?_ | refine guard_step (blt_true (show i + 8 < 16 by omega)) ?_ | fail
 rfl
theorem halvesLoop (p : List Nat) (b4 b5 : Nat) : ∀ (m i : Nat) (low high : List Nat), i ≤ 8 → 8 - i < m → low.length = 8 → high.length = 8 → (∀ k, k < i → low.getD k 0 = p.getD k 0 ∧ high.getD k 0 = p.getD (k + 8) 0) →
  ∃ low' high', iter (fun p : Int × Nat × Nat × List Int × List Int × List Int => ref01MulL2R p.1 p.2.1 p.2.2.1 p.2.2.2.1 p.2.2.2.2.1 p.2.2.2.2.2) m ((i : Int), b4, b5, cst p, cst low, cst high) = some (b4, b5, cst low', cst high') ∧
   low'.length = 8 ∧ high'.length = 8 ∧ ∀ k, k < 8 → low'.getD k 0 = p.getD k 0 ∧ high'.getD k 0 = p.getD (k + 8) 0 := by
 intro m
 induction m with
 | zero => intro i low high _ h; omega
 | succ m ih =>
  intro i low high hi hm hl hh hk
  by_cases h8 : i = 8
  ·subst h8
   refine ⟨low, high, iter_end ?_, hl, hh, hk⟩
   unfold ref01MulL2R
   exact guard_else rfl rfl
  ·have hi' : i < 8 := by omega
   obtain ⟨low', high', e, g⟩ := ih (i + 1) (low.set i (p.getD i 0)) (high.set i (p.getD (i + 8) 0)) (by omega) (by omega) (by simp [hl]) (by simp [hh]) (fun k hk' => by
    by_cases h : i = k
    ·subst h
     simp [List.getD_eq_getElem?_getD, List.getElem?_set_self (show i < low.length by omega), List.getElem?_set_self (show i < high.length by omega)]
    ·rw [getD_set h, getD_set h]; exact hk k (by omega))
   exact ⟨low', high', iter_more (halvesRound hi' p low high b4 b5) e, g⟩
theorem ref01Mul_val {x y : Nat} (hx : x < M256) (hy : y < M256) : ∃ h l : Nat, ref01Mul x y = some (h, l) ∧ h < M256 ∧ l < M256 ∧ l + M256 * h = x * y := by
 have hz : ∀ n, digs 4294967296 (List.replicate n 0) := by
  intro n k
  simp only [List.getD_eq_getElem?_getD, List.getElem?_replicate]
  split <;> simp
 have rp : ∀ n, List.replicate n (0 : Int) = cst (List.replicate n 0) := fun n => by simp [cst]
 obtain ⟨h1, h2⟩ := mulLoopR0 (a := dg x) (b := dg y) rfl rfl (dg_digs x) (dg_digs y) 0 0 1000 0 (List.replicate 16 0) (by decide) (by decide) (hz _)
 have hv := mulN_val 4294967296 (dg y) (dg x) 0 (List.replicate 16 0) (by simp [dg]) (fun k _ => by
  simp only [List.getD_eq_getElem?_getD, List.getElem?_replicate]
  split <;> simp)
 have hl := mulN_len 4294967296 (dg y) (dg x) 0 (List.replicate 16 0)
 simp only [List.drop_zero] at h1 h2
 rw [dg_val hx, dg_val hy] at hv
 generalize mulN 4294967296 (dg y) (dg x) 0 (List.replicate 16 0) = all at *
 rw [show valL 4294967296 (List.replicate 16 0) = 0 by decide] at hv
 obtain ⟨low, high, e, l1, l2, hk⟩ := halvesLoop all 0 0 1000 0 (List.replicate 8 0) (List.replicate 8 0) (by decide) (by decide) (by simp) (by simp) (fun k h => by omega)
 have dl : digs 4294967296 low := fun k => by
  rcases Nat.lt_or_ge k 8 with h | h
  ·rw [(hk k h).1]; exact h2 k
  ·simp [List.getD_eq_getElem?_getD, List.getElem?_eq_none (show low.length ≤ k by omega)]
 have dh : digs 4294967296 high := fun k => by
  rcases Nat.lt_or_ge k 8 with h | h
  ·rw [(hk k h).2]; exact h2 _
  ·simp [List.getD_eq_getElem?_getD, List.getElem?_eq_none (show high.length ≤ k by omega)]
 obtain ⟨n1, n2⟩ := number_val l1 dl
 obtain ⟨n3, n4⟩ := number_val l2 dh
 refine ⟨_, _, ?_, n4, n2, ?_⟩
 ·rw [ref01Mul_eq]
  unfold ref01MulB
  rw [rp, rp]
  exact bind_step (digits_val x) (bind_step (digits_val y) (bind_step ((ref01MulL0_eq _ _ _ _ _ _).trans h1) (bind_step ((ref01MulL2_eq _ _ _ _ _ _).trans e) (bind_step n3 (bind_step n1 rfl)))))
 ·have key : all = low ++ high := by
   refine List.ext_getElem? fun k => ?_
   have g : ∀ (l : List Nat) (k : Nat), k < l.length → l[k]? = some (l.getD k 0) := fun l k h => by
    simp [List.getD_eq_getElem?_getD, List.getElem?_eq_getElem h]
   rcases Nat.lt_or_ge k 8 with h | h
   ·rw [List.getElem?_append_left (by omega), g _ _ (by simp at hl; omega), g _ _ (by omega), (hk k h).1]
   ·rw [List.getElem?_append_right (by omega), l1]
    rcases Nat.lt_or_ge k 16 with h' | h'
    ·rw [g _ _ (by simp at hl; omega), g _ _ (by omega), (hk (k - 8) (by omega)).2, Nat.sub_add_cancel h]
    ·rw [List.getElem?_eq_none (by simp at hl; omega), List.getElem?_eq_none (by omega)]
  rw [key] at hv
  have ap : ∀ (l m : List Nat), valL 4294967296 (l ++ m) = valL 4294967296 l + 4294967296 ^ l.length * valL 4294967296 m := by
   intro l
   induction l with
   | nil => intro m; simp [valL]
   | cons d l ih => intro m; simp only [List.cons_append, valL, ih, List.length_cons, Nat.pow_succ, Nat.mul_add]; rw [Nat.mul_comm (4294967296 ^ l.length) 4294967296, Nat.mul_assoc]; omega
  rw [ap, l1, show (4294967296 : Nat) ^ 8 = M256 by decide] at hv
  rw [hv]; simp
end Go.Sy
set_option linter.unusedVariables false
set_option linter.unusedSimpArgs false
namespace Go.Sy
open Go
theorem fold_rounds {m rest : Nat} (hf : FoldOk m rest) {σ ρ : Type} (f : σ → Option (Sum σ ρ)) (st : Nat → Nat → σ) (out : Nat → ρ)
  (hround : ∀ high low, high < M256 → low < M256 → high ≠ 0 → ∃ high' low', f (st high low) = some (.inl (st high' low')) ∧ high' < M256 ∧ low' < M256 ∧ high' * M256 + low' = high * rest + low)
  (hexit : ∀ low, low < M256 → f (st 0 low) = some (.inr (out low))) {high low : Nat} (hh : high < M256) (hl : low < M256) :
  ∃ r, iter f 1000 (st high low) = some (out r) ∧ r < M256 ∧ r % m = (high * M256 + low) % m := by
 have fin : ∀ (n low : Nat), low < M256 → ∃ r, iter f (n + 1) (st 0 low) = some (out r) ∧ r < M256 ∧ r % m = (0 * M256 + low) % m :=
  fun n low hl => ⟨low, iter_end (hexit _ hl), hl, by simp⟩
 have step : ∀ (n high low : Nat) (Q : Nat → Nat → Prop), high < M256 → low < M256 →
   (∀ high' low', high' < M256 → low' < M256 → high' * M256 + low' = high * rest + low → Q high' low') →
   (∀ high' low', high' < M256 → low' < M256 → Q high' low' → ∃ r, iter f (n + 1) (st high' low') = some (out r) ∧ r < M256 ∧ r % m = (high' * M256 + low') % m) →
   ∃ r, iter f (n + 2) (st high low) = some (out r) ∧ r < M256 ∧ r % m = (high * M256 + low) % m := by
  intro n high low Q hh hl hQ hn
  by_cases h0 : high = 0
  ·subst h0; exact fin (n + 1) low hl
  ·obtain ⟨h', l', e, g1, g2, g3⟩ := hround high low hh hl h0
   obtain ⟨r, k1, k2, k3⟩ := hn h' l' g1 g2 (hQ h' l' g1 g2 g3)
   exact ⟨r, iter_more e k1, k2, k3.trans (fold_mod hf.sum g3)⟩
 have hM : 0 < M256 := by simp [M256]
 refine step 998 high low (fun h' _ => h' ≤ rest) hh hl (fun h' l' g1 g2 g3 => ?_) (fun h1 l1 a1 a2 q1 => ?_)
 ·have h1 : high * rest ≤ (M256 - 1) * rest := Nat.mul_le_mul_right _ (by omega)
  have h2 : (M256 - 1) * rest + rest = M256 * rest := by rw [← Nat.succ_mul]; first | done | (congr 1; done) | (congr 1; omega)
  have h3 : h' * M256 < (rest + 1) * M256 := by
   rw [Nat.add_mul, Nat.mul_comm rest M256]; have := hf.pos; omega
  exact Nat.le_of_lt_succ (Nat.lt_of_mul_lt_mul_right h3)
 refine step 997 h1 l1 (fun h' _ => h' ≤ 2) a1 a2 (fun h' l' g1 g2 g3 => ?_) (fun h2 l2 b1 b2 q2 => ?_)
 ·have h1' : h1 * rest ≤ rest * rest := Nat.mul_le_mul_right _ q1
  have := hf.two
  have h3 : h' * M256 < 3 * M256 := by omega
  exact Nat.le_of_lt_succ (Nat.lt_of_mul_lt_mul_right h3)
 refine step 996 h2 l2 (fun h' l' => h' = 0 ∨ (h' = 1 ∧ l' < 2 * rest)) b1 b2 (fun h' l' g1 g2 g3 => ?_) (fun h3 l3 c1 c2 q3 => ?_)
 ·have h1' : h2 * rest ≤ 2 * rest := Nat.mul_le_mul_right _ q2
  have := hf.three
  rcases Nat.lt_or_ge h' 1 with h | h
  ·left; omega
  ·right
   have h4 : 1 * M256 ≤ h' * M256 := Nat.mul_le_mul_right _ h
   have h5 : h' * M256 < 2 * M256 := by omega
   have h6 : h' < 2 := Nat.lt_of_mul_lt_mul_right h5
   have : h' = 1 := by omega
   subst this
   exact ⟨rfl, by omega⟩
 refine step 995 h3 l3 (fun h' _ => h' = 0) c1 c2 (fun h' l' g1 g2 g3 => ?_) (fun h4 l4 d1 d2 q4 => ?_)
 ·have := hf.three
  rcases q3 with rfl | ⟨rfl, q⟩
  ·rcases Nat.lt_or_ge h' 1 with h | h
   ·omega
   ·have h4 : 1 * M256 ≤ h' * M256 := Nat.mul_le_mul_right _ h
    omega
  ·rcases Nat.lt_or_ge h' 1 with h | h
   ·omega
   ·have h4 : 1 * M256 ≤ h' * M256 := Nat.mul_le_mul_right _ h
    omega
 subst q4
 exact fin 995 l4 d2
theorem ref01From_val {c : Nat} (hc : c < 18446744073709551616) : ref01From (c : Int) = some c := by
 rw [ref01From_eq]
 unfold ref01FromB
 refine guard_step (inU64_nat hc) ?_
 have h := four_val hc (show 0 < 18446744073709551616 by decide) (show 0 < 18446744073709551616 by decide) (show 0 < 18446744073709551616 by decide)
 simp only [Int.natCast_zero] at h
 rw [show (0 : Int) = ((0 : Nat) : Int) from rfl] at h ⊢
 rw [h]; simp
def prP : Nat := 115792089237316195423570985008687907853269984665640564039457584007908834671663
def modK (k : Int) : Nat := if k = 0 then prP else ordN
def restK (k : Int) : Nat := if k = 0 then 4294968273 else 432420386565659656852420866394968145599
theorem foldOkK (k : Int) : FoldOk (modK k) (restK k) := by
 by_cases h : k = 0
 ·subst h; exact ⟨by decide, by decide, by decide, by decide, by decide⟩
 ·simp only [modK, restK, if_neg h]; exact ⟨by decide, by decide, by decide, by decide, by decide⟩
theorem modK_lt (k : Int) : modK k < M256 := by unfold modK; split <;> decide
theorem modK_pos (k : Int) : 0 < modK k := by unfold modK; split <;> decide
theorem one_lt_modK (k : Int) : 1 < modK k := by unfold modK; split <;> decide
theorem mod_lt256 (k : Int) (n : Nat) : n % modK k < M256 := Nat.lt_trans (Nat.mod_lt _ (modK_pos k)) (modK_lt k)
theorem fieldIOf_good {k : Int} (h : k = 0 ∨ k = 1) : fieldIOf k = some ((modK k, restK k), 0) := by
 rcases h with rfl | rfl
 ·rw [fieldIOf_eq]; kernel_rfl
 ·exact fieldIOf_n
theorem fieldIOf_bad {k : Int} (h : ¬ (k = 0 ∨ k = 1)) : fieldIOf k = some ((0, 0), 1) := by
 rw [fieldIOf_eq]
 unfold fieldIOfB
 by_cases h0 : k < 0
 ·exact guard_step (decide_eq_true h0) rfl
 ·exact guard_else (decide_eq_false h0) (guard_step (decide_eq_true (by omega)) rfl)
theorem ref04IGood_val (k : Int) : ref04IGood k = some (decide (k = 0 ∨ k = 1)) := by
 rw [ref04IGood_eq]
 unfold ref04IGoodB
 by_cases h0 : k = 0
 ·subst h0; rfl
 ·refine guard_else (by simpa using h0) ?_
  by_cases h1 : k = 1
  ·subst h1; rfl
  ·simp [h0, h1]
theorem ref04IModulus_val (k : Int) : ref04IModulus k = some (modK k) := by
 rw [ref04IModulus_eq]
 unfold ref04IModulusB modK
 by_cases h0 : k = 0
 ·subst h0; rfl
 ·rw [if_neg h0]; exact guard_else (by simpa using h0) rfl
theorem foldRoundR {k : Int} {high low b6 : Nat} (hh : high < M256) (hl : low < M256) (h0 : high ≠ 0) :
  ∃ high' low', ref04IFoldL0R high low b6 0 (modK k) (restK k) = some (.inl (high', low', b6, 0, modK k, restK k)) ∧ high' < M256 ∧ low' < M256 ∧ high' * M256 + low' = high * restK k + low := by
 have hf := foldOkK k
 generalize modK k = m at *
 generalize restK k = rest at *
 have hr : rest < M256 := by have := hf.sum; have := hf.big; omega
 obtain ⟨h, l, e1, g1, g2, g3⟩ := ref01Mul_val hh hr
 obtain ⟨r, c, e2, k1, k2, k3⟩ := ref01Add_val g2 hl
 have hh1 : h < M256 - 1 := by
  have h1 : high * rest ≤ (M256 - 1) * rest := Nat.mul_le_mul_right _ (by omega)
  have h2 : (M256 - 1) * rest < M256 * rest := Nat.mul_lt_mul_of_pos_right (by simp [M256]) hf.pos
  have h3 : M256 * h < M256 * rest := by omega
  have h4 : h < rest := Nat.lt_of_mul_lt_mul_left h3
  have := hf.sum; have := hf.big; omega
 obtain ⟨t, o, e3, j1, j2, j3⟩ := ref01Add_val (x := h) (y := c) (by omega) (by simp only [M256]; omega)
 have ho : o = 0 := by
  rcases (show o = 0 ∨ o = 1 by omega) with h | h
  ·exact h
  ·subst h; omega
 subst ho
 refine ⟨t, r, ?_, j1, k1, ?_⟩
 ·unfold ref04IFoldL0R
  refine guard_step ?_ ?_
  ·rw [u256eq_val hh (by simp [M256])]; simp [h0]
  ·exact bind_step e1 (bind_step e2 (bind_step (ref01From_val (by omega)) (bind_step e3 rfl)))
 ·have : t = h + c := by omega
  subst this
  rw [Nat.add_mul, Nat.mul_comm h, Nat.mul_comm c]
  omega
theorem foldLoopR1 {k : Int} {low b6 : Nat} (hl : low < M256) : ref04IFoldL1 low b6 (modK k) = some (low % modK k, b6) := by
 have hf := foldOkK k
 have hm := modK_lt k
 generalize modK k = m at *
 generalize restK k = rest at *
 have hs := hf.sum
 have hb := hf.big
 have hstop : ∀ low, low < M256 → low < m → ref04IFoldL1R low b6 m = some (.inr (low, b6)) := fun low hl h => by
  unfold ref04IFoldL1R
  refine bind_step (ref01Cmp_val hl hm) (guard_else ?_ rfl)
  simp [cmpI, h]
 rw [ref04IFoldL1_eq]
 rcases Nat.lt_or_ge low m with h | h
 ·rw [Nat.mod_eq_of_lt h]
  exact iter_end (hstop low hl h)
 ·have e : low % m = low - m := by rw [Nat.mod_eq_sub_mod h, Nat.mod_eq_of_lt (by omega)]
  rw [e]
  obtain ⟨r, o, e, g1, g2, g3⟩ := ref01Sub_val hl hm
  have ho : o = 0 := by
   rcases (show o = 0 ∨ o = 1 by omega) with h' | h'
   ·exact h'
   ·subst h'; omega
  subst ho
  have hr : r = low - m := by omega
  subst hr
  refine iter_more (b := (low - m, b6, m)) ?_ (iter_end (hstop _ (by omega) (by omega)))
  unfold ref04IFoldL1R
  refine bind_step (ref01Cmp_val hl hm) (guard_step ?_ (bind_step e rfl))
  have : ¬ low < m := by omega
  simp only [cmpI, this, if_false]
  split <;> decide
theorem rest_val (k : Int) : ∃ o, ref01Sub 0 (modK k) = some (restK k, o) := by
 obtain ⟨r, o, e, g1, g2, g3⟩ := ref01Sub_val (x := 0) (y := modK k) (by simp [M256]) (modK_lt k)
 have hs := (foldOkK k).sum
 have hp := modK_pos k
 have ho : o = 1 := by
  rcases (show o = 0 ∨ o = 1 by omega) with h' | h'
  ·subst h'; omega
  ·exact h'
 subst ho
 have : r = restK k := by omega
 subst this
 exact ⟨_, e⟩
theorem ref04IFold_val (k : Int) {high low : Nat} (hh : high < M256) (hl : low < M256) : ref04IFold k high low = some ((high * M256 + low) % modK k) := by
 obtain ⟨o, e⟩ := rest_val k
 obtain ⟨r, e1, g1, g2⟩ := fold_rounds (foldOkK k) (fun p : Nat × Nat × Nat × Nat × Nat × Nat => ref04IFoldL0R p.1 p.2.1 p.2.2.1 p.2.2.2.1 p.2.2.2.2.1 p.2.2.2.2.2) (fun high low => (high, low, 0, 0, modK k, restK k)) (fun low => (low, 0, modK k))
  (fun high low hh hl h0 => foldRoundR hh hl h0) (fun low _ => by unfold ref04IFoldL0R; exact guard_else rfl rfl) hh hl
 rw [ref04IFold_eq]
 unfold ref04IFoldB
 refine bind_step (ref04IModulus_val k) (bind_step e (bind_step ((ref04IFoldL0_eq _ _ _ _ _ _).trans e1) (bind_step (foldLoopR1 g1) ?_)))
 rw [g2]
theorem fieldFold_val (k : Int) {high low : Nat} (hh : high < M256) (hl : low < M256) : fieldModulusFold (modK k, restK k) high low = some ((high * M256 + low) % modK k) := fold_val (foldOkK k) hh hl
theorem fMul_val (k : Int) {x y : Nat} (hx : x < M256) (hy : y < M256) : fieldModulusMul (modK k, restK k) x y = some (x * y % modK k) := by
 obtain ⟨h, l, e, g1, g2, g3⟩ := u256Mul_val hx hy
 rw [fieldModulusMul_eq]
 unfold fieldModulusMulB
 refine bind_step e (bind_step (fieldFold_val k g1 g2) ?_)
 rw [← g3, Nat.mul_comm h, Nat.add_comm]
theorem fAdd_val (k : Int) {x y : Nat} (hx : x < M256) (hy : y < M256) : fieldModulusAdd (modK k, restK k) x y = some ((x + y) % modK k) := by
 obtain ⟨r, o, e, g1, g2, g3⟩ := u256Add_val hx hy
 rw [fieldModulusAdd_eq]
 unfold fieldModulusAddB
 refine bind_step e (bind_step (u256From_val (by omega)) (bind_step (fieldFold_val k (by simp only [M256]; omega) g1) ?_))
 rw [← g3, Nat.mul_comm o, Nat.add_comm]
theorem fOne_val (k : Int) {x : Nat} (hx : x < M256) : fieldModulusOne (modK k, restK k) x = some (x % modK k) := by
 rw [fieldModulusOne_eq]
 unfold fieldModulusOneB
 refine bind_step (fieldFold_val k (by decide) hx) ?_
 simp
theorem fNeg_val (k : Int) {x : Nat} (hx : x < M256) : fieldModulusNeg (modK k, restK k) x = some ((modK k - x % modK k) % modK k) := by
 have hlt := Nat.mod_lt x (modK_pos k)
 obtain ⟨r, o, e, g1, g2, g3⟩ := u256Sub_val (modK_lt k) (mod_lt256 k x)
 have ho : o = 0 := by
  rcases (show o = 0 ∨ o = 1 by omega) with h' | h'
  ·exact h'
  ·subst h'; omega
 subst ho
 have hr : r = modK k - x % modK k := by omega
 subst hr
 rw [fieldModulusNeg_eq]
 unfold fieldModulusNegB
 exact bind_step (fOne_val k hx) (bind_step e (bind_step (fOne_val k g1) rfl))
theorem rTimes_val (k : Int) {x y : Nat} (hx : x < M256) (hy : y < M256) : ref04ITimes k x y = some (x * y % modK k) := by
 obtain ⟨h, l, e, g1, g2, g3⟩ := ref01Mul_val hx hy
 rw [ref04ITimes_eq]
 unfold ref04ITimesB
 refine bind_step e (bind_step (ref04IFold_val k g1 g2) ?_)
 rw [← g3, Nat.mul_comm h, Nat.add_comm]
theorem rPlus_val (k : Int) {x y : Nat} (hx : x < M256) (hy : y < M256) : ref04IPlus k x y = some ((x + y) % modK k) := by
 obtain ⟨r, o, e, g1, g2, g3⟩ := ref01Add_val hx hy
 rw [ref04IPlus_eq]
 unfold ref04IPlusB
 refine bind_step e (bind_step (ref01From_val (by omega)) (bind_step (ref04IFold_val k (by simp only [M256]; omega) g1) ?_))
 rw [← g3, Nat.mul_comm o, Nat.add_comm]
theorem rBelow_val (k : Int) {x : Nat} (hx : x < M256) : ref04IBelow k x = some (x % modK k) := by
 rw [ref04IBelow_eq]
 unfold ref04IBelowB
 refine bind_step (ref04IFold_val k (by decide) hx) ?_
 simp
theorem rLess_val (k : Int) {x : Nat} (hx : x < M256) : ref04ILess k x = some ((modK k - x % modK k) % modK k) := by
 have hlt := Nat.mod_lt x (modK_pos k)
 obtain ⟨r, o, e, g1, g2, g3⟩ := ref01Sub_val (modK_lt k) (mod_lt256 k x)
 have ho : o = 0 := by
  rcases (show o = 0 ∨ o = 1 by omega) with h' | h'
  ·exact h'
  ·subst h'; omega
 subst ho
 have hr : r = modK k - x % modK k := by omega
 subst hr
 rw [ref04ILess_eq]
 unfold ref04ILessB
 exact bind_step (ref04IModulus_val k) (bind_step (rBelow_val k hx) (bind_step e (bind_step (rBelow_val k g1) rfl)))
def ansK (k : Int) (v : Nat) : Nat × Int := if k = 0 ∨ k = 1 then (v, 0) else (0, 1)
theorem fieldAdd_val (k : Int) {x y : Nat} (hx : x < M256) (hy : y < M256) : fieldAdd k x y = some (ansK k ((x + y) % modK k)) := by
 rw [fieldAdd_eq]
 unfold fieldAddB ansK
 by_cases h : k = 0 ∨ k = 1
 ·rw [if_pos h]; exact bind_step (fieldIOf_good h) (guard_else rfl (bind_step (fAdd_val k hx hy) rfl))
 ·rw [if_neg h]; exact bind_step (fieldIOf_bad h) (guard_step rfl rfl)
theorem ref04Add_val (k : Int) {x y : Nat} (hx : x < M256) (hy : y < M256) : ref04Add k x y = some (ansK k ((x + y) % modK k)) := by
 rw [ref04Add_eq]
 unfold ref04AddB ansK
 refine bind_step (ref04IGood_val k) ?_
 by_cases h : k = 0 ∨ k = 1
 ·rw [if_pos h]; exact guard_else (by simp [h]) (bind_step (rPlus_val k hx hy) rfl)
 ·rw [if_neg h]; exact guard_step (by simp [h]) rfl
theorem fieldSub_val (k : Int) {x y : Nat} (hx : x < M256) (hy : y < M256) : fieldSub k x y = some (ansK k ((x + (modK k - y % modK k) % modK k) % modK k)) := by
 rw [fieldSub_eq]
 unfold fieldSubB ansK
 by_cases h : k = 0 ∨ k = 1
 ·rw [if_pos h]; exact bind_step (fieldIOf_good h) (guard_else rfl (bind_step (fNeg_val k hy) (bind_step (fAdd_val k hx (mod_lt256 k _)) rfl)))
 ·rw [if_neg h]; exact bind_step (fieldIOf_bad h) (guard_step rfl rfl)
theorem ref04Sub_val (k : Int) {x y : Nat} (hx : x < M256) (hy : y < M256) : ref04Sub k x y = some (ansK k ((x + (modK k - y % modK k) % modK k) % modK k)) := by
 rw [ref04Sub_eq]
 unfold ref04SubB ansK
 refine bind_step (ref04IGood_val k) ?_
 by_cases h : k = 0 ∨ k = 1
 ·rw [if_pos h]; exact guard_else (by simp [h]) (bind_step (rLess_val k hy) (bind_step (rPlus_val k hx (mod_lt256 k _)) rfl))
 ·rw [if_neg h]; exact guard_step (by simp [h]) rfl
theorem fieldNeg_val (k : Int) {x : Nat} (hx : x < M256) : fieldNeg k x = some (ansK k ((modK k - x % modK k) % modK k)) := by
 rw [fieldNeg_eq]
 unfold fieldNegB ansK
 by_cases h : k = 0 ∨ k = 1
 ·rw [if_pos h]; exact bind_step (fieldIOf_good h) (guard_else rfl (bind_step (fNeg_val k hx) rfl))
 ·rw [if_neg h]; exact bind_step (fieldIOf_bad h) (guard_step rfl rfl)
theorem fieldMul_val (k : Int) {x y : Nat} (hx : x < M256) (hy : y < M256) : fieldMul k x y = some (ansK k (x * y % modK k)) := by
 rw [fieldMul_eq]
 unfold fieldMulB ansK
 by_cases h : k = 0 ∨ k = 1
 ·rw [if_pos h]; exact bind_step (fieldIOf_good h) (guard_else rfl (bind_step (fMul_val k hx hy) rfl))
 ·rw [if_neg h]; exact bind_step (fieldIOf_bad h) (guard_step rfl rfl)
theorem ref04Mul_val (k : Int) {x y : Nat} (hx : x < M256) (hy : y < M256) : ref04Mul k x y = some (ansK k (x * y % modK k)) := by
 rw [ref04Mul_eq]
 unfold ref04MulB ansK
 refine bind_step (ref04IGood_val k) ?_
 by_cases h : k = 0 ∨ k = 1
 ·rw [if_pos h]; exact guard_else (by simp [h]) (bind_step (rTimes_val k hx hy) rfl)
 ·rw [if_neg h]; exact guard_step (by simp [h]) rfl
theorem fieldSquare_val (k : Int) {x : Nat} (hx : x < M256) : fieldSquare k x = some (ansK k (x * x % modK k)) := by
 rw [fieldSquare_eq]
 unfold fieldSquareB
 exact bind_step (fieldMul_val k hx hx) rfl
theorem fieldReduce_val (k : Int) {high low : Nat} (hx : high < M256) (hy : low < M256) : fieldReduce k high low = some (ansK k ((high * M256 + low) % modK k)) := by
 rw [fieldReduce_eq]
 unfold fieldReduceB ansK
 by_cases h : k = 0 ∨ k = 1
 ·rw [if_pos h]; exact bind_step (fieldIOf_good h) (guard_else rfl (bind_step (fieldFold_val k hx hy) rfl))
 ·rw [if_neg h]; exact bind_step (fieldIOf_bad h) (guard_step rfl rfl)
theorem ref04Reduce_val (k : Int) {high low : Nat} (hx : high < M256) (hy : low < M256) : ref04Reduce k high low = some (ansK k ((high * M256 + low) % modK k)) := by
 rw [ref04Reduce_eq]
 unfold ref04ReduceB ansK
 refine bind_step (ref04IGood_val k) ?_
 by_cases h : k = 0 ∨ k = 1
 ·rw [if_pos h]; exact guard_else (by simp [h]) (bind_step (ref04IFold_val k hx hy) rfl)
 ·rw [if_neg h]; exact guard_step (by simp [h]) rfl
end Go.Sy
