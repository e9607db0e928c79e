/- Typed functions, printed by a program out of the code: what each function of the code computes. -/

import Derived.Test.YtfappeeggccicaaDoorSyKa

set_option linter.unusedVariables false

namespace Go.Sy

open Go

def strC0 : List UInt8 := [0, 1, 2, 2, 3, 3, 3, 3, 4, 4, 4, 4, 4, 4, 4, 4, 5, 5, 5, 5, 5, 5, 5, 5, 5, 5, 5, 5, 5, 5, 5, 5, 6, 6, 6, 6, 6, 6, 6, 6, 6, 6, 6, 6, 6, 6, 6, 6, 6, 6, 6, 6, 6, 6, 6, 6, 6, 6, 6, 6, 6, 6, 6, 6, 7, 7, 7, 7, 7, 7, 7, 7, 7, 7, 7, 7, 7, 7, 7, 7, 7, 7, 7, 7, 7, 7, 7, 7, 7, 7, 7, 7, 7, 7, 7, 7, 7, 7, 7, 7, 7, 7, 7, 7, 7, 7, 7, 7, 7, 7, 7, 7, 7, 7, 7, 7, 7, 7, 7, 7, 7, 7, 7, 7, 7, 7, 7, 7, 8, 8, 8, 8, 8, 8, 8, 8, 8, 8, 8, 8, 8, 8, 8, 8, 8, 8, 8, 8, 8, 8, 8, 8, 8, 8, 8, 8, 8, 8, 8, 8, 8, 8, 8, 8, 8, 8, 8, 8, 8, 8, 8, 8, 8, 8, 8, 8, 8, 8, 8, 8, 8, 8, 8, 8, 8, 8, 8, 8, 8, 8, 8, 8, 8, 8, 8, 8, 8, 8, 8, 8, 8, 8, 8, 8, 8, 8, 8, 8, 8, 8, 8, 8, 8, 8, 8, 8, 8, 8, 8, 8, 8, 8, 8, 8, 8, 8, 8, 8, 8, 8, 8, 8, 8, 8, 8, 8, 8, 8, 8, 8, 8, 8, 8, 8, 8, 8, 8, 8, 8, 8, 8, 8, 8, 8, 8, 8]

noncomputable def fieldIOfB (k : Int) : Option ((Nat × Nat) × Int) :=
  bif (decide (k < (0 : Int))) then
    some ((0, 0), (1 : Int))
  else
    bif (decide (k ≥ (2 : Int))) then
      some ((0, 0), (1 : Int))
    else
      bif decide (0 ≤ k) then
        bif Nat.blt (Int.toNat k) 2 then
          bif Nat.blt (Int.toNat k) 2 then
            some ((fieldModuli.getD (Int.toNat k) ((0, 0) : Nat × Nat)), (0 : Int))
          else none
        else none
      else none

noncomputable def fieldIOf (k : Int) : Option ((Nat × Nat) × Int) := hide (fieldIOfB k)

theorem fieldIOf_eq (k : Int) : fieldIOf k = fieldIOfB k := hide_eq _

noncomputable def fieldModulusB (k : Int) : Option (Nat × Int) :=
  (fieldIOf k).bind fun r1 =>
  some (r1.1.1, r1.2)

noncomputable def fieldModulus (k : Int) : Option (Nat × Int) := hide (fieldModulusB k)

theorem fieldModulus_eq (k : Int) : fieldModulus k = fieldModulusB k := hide_eq _

noncomputable def u256AddB (x : Nat) (y : Nat) : Option (Nat × Int) :=
  (bitsAdd64 (limb x 0) (limb y 0) (0 : Int)).bind fun r1 =>
  bif inU64 r1.1 then
    (bitsAdd64 (limb x 1) (limb y 1) r1.2).bind fun r2 =>
    bif inU64 r2.1 then
      (bitsAdd64 (limb x 2) (limb y 2) r2.2).bind fun r3 =>
      bif inU64 r3.1 then
        (bitsAdd64 (limb x 3) (limb y 3) r3.2).bind fun r4 =>
        bif inU64 r4.1 then
          some ((setLimb (setLimb (setLimb (setLimb 0 0 r1.1) 1 r2.1) 2 r3.1) 3 r4.1), r4.2)
        else none
      else none
    else none
  else none

noncomputable def u256Add (x : Nat) (y : Nat) : Option (Nat × Int) := hide (u256AddB x y)

theorem u256Add_eq (x : Nat) (y : Nat) : u256Add x y = u256AddB x y := hide_eq _

noncomputable def u256FromB (v : Int) : Option (Nat) :=
  bif inU64 v then
    some (setLimb 0 0 v)
  else none

noncomputable def u256From (v : Int) : Option (Nat) := hide (u256FromB v)

theorem u256From_eq (v : Int) : u256From v = u256FromB v := hide_eq _

noncomputable def bitsMul64B (x : Int) (y : Int) : Option (Int × Int) :=
  some ((IntKind.wrap .u64 ((IntKind.wrap .u64 ((IntKind.wrap .u64 ((shrI .u64 x 32) * (shrI .u64 y 32))) + (shrI .u64 (IntKind.wrap .u64 ((IntKind.wrap .u64 ((shrI .u64 x 32) * (andI .u64 y (4294967295 : Int)))) + (shrI .u64 (IntKind.wrap .u64 ((andI .u64 x (4294967295 : Int)) * (andI .u64 y (4294967295 : Int)))) 32))) 32))) + (shrI .u64 (IntKind.wrap .u64 ((andI .u64 (IntKind.wrap .u64 ((IntKind.wrap .u64 ((shrI .u64 x 32) * (andI .u64 y (4294967295 : Int)))) + (shrI .u64 (IntKind.wrap .u64 ((andI .u64 x (4294967295 : Int)) * (andI .u64 y (4294967295 : Int)))) 32))) (4294967295 : Int)) + (IntKind.wrap .u64 ((andI .u64 x (4294967295 : Int)) * (shrI .u64 y 32))))) 32))), (IntKind.wrap .u64 (x * y)))

noncomputable def bitsMul64 (x : Int) (y : Int) : Option (Int × Int) := hide (bitsMul64B x y)

theorem bitsMul64_eq (x : Int) (y : Int) : bitsMul64 x y = bitsMul64B x y := hide_eq _

noncomputable def u256MulL1R (i : Int) (over : Int) (s13 : Int) (s16 : Int) (x : Nat) (y : Nat) (high : Nat) (low : Nat) (all : List Int) : Option ((Int × Int × Int × Int × Nat × Nat × Nat × Nat × List Int) ⊕ (Int × Int × Int × Nat × Nat × Nat × Nat × List Int)) :=
  bif (decide (s16 < (4 : Int))) then
    bif decide (0 ≤ i) then
      bif Nat.blt (Int.toNat i) 4 then
        bif Nat.blt (Int.toNat i) 4 then
          bif decide (0 ≤ s16) then
            bif Nat.blt (Int.toNat s16) 4 then
              bif Nat.blt (Int.toNat s16) 4 then
                (bitsMul64 (limb x (Int.toNat i)) (limb y (Int.toNat s16))).bind fun r4 =>
                bif decide (0 ≤ (IntKind.wrap .i64 (i + s16))) then
                  bif Nat.blt (Int.toNat (IntKind.wrap .i64 (i + s16))) 8 then
                    bif Nat.blt (Int.toNat (IntKind.wrap .i64 (i + s16))) 8 then
                      (bitsAdd64 r4.2 (all.getD (Int.toNat (IntKind.wrap .i64 (i + s16))) (0 : Int)) (0 : Int)).bind fun r5 =>
                      (bitsAdd64 r5.1 over (0 : Int)).bind fun r6 =>
                      bif decide (0 ≤ (IntKind.wrap .i64 (i + s16))) then
                        bif Nat.blt (Int.toNat (IntKind.wrap .i64 (i + s16))) 8 then
                          bif Nat.blt (Int.toNat (IntKind.wrap .i64 (i + s16))) 8 then
                            some (.inl (i, (IntKind.wrap .u64 ((IntKind.wrap .u64 (r4.1 + r5.2)) + r6.2)), s13, (IntKind.wrap .i64 (s16 + (1 : Int))), x, y, high, low, (all.set (Int.toNat (IntKind.wrap .i64 (i + s16))) r6.1)))
                          else none
                        else none
                      else none
                    else none
                  else none
                else none
              else none
            else none
          else none
        else none
      else none
    else none
  else
    some (.inr (i, over, s13, x, y, high, low, all))

noncomputable def u256MulL1 (i : Int) (over : Int) (s13 : Int) (s16 : Int) (x : Nat) (y : Nat) (high : Nat) (low : Nat) (all : List Int) : Option (Int × Int × Int × Nat × Nat × Nat × Nat × List Int) := hide (iter (fun p : Int × Int × Int × Int × Nat × Nat × Nat × Nat × List Int => u256MulL1R p.1 p.2.1 p.2.2.1 p.2.2.2.1 p.2.2.2.2.1 p.2.2.2.2.2.1 p.2.2.2.2.2.2.1 p.2.2.2.2.2.2.2.1 p.2.2.2.2.2.2.2.2) (1000) (i, over, s13, s16, x, y, high, low, all))

theorem u256MulL1_eq (i : Int) (over : Int) (s13 : Int) (s16 : Int) (x : Nat) (y : Nat) (high : Nat) (low : Nat) (all : List Int) : u256MulL1 i over s13 s16 x y high low all = iter (fun p : Int × Int × Int × Int × Nat × Nat × Nat × Nat × List Int => u256MulL1R p.1 p.2.1 p.2.2.1 p.2.2.2.1 p.2.2.2.2.1 p.2.2.2.2.2.1 p.2.2.2.2.2.2.1 p.2.2.2.2.2.2.2.1 p.2.2.2.2.2.2.2.2) (1000) (i, over, s13, s16, x, y, high, low, all) := hide_eq _

noncomputable def u256MulL0R (s13 : Int) (x : Nat) (y : Nat) (high : Nat) (low : Nat) (all : List Int) : Option ((Int × Nat × Nat × Nat × Nat × List Int) ⊕ (Nat × Nat × List Int)) :=
  bif (decide (s13 < (4 : Int))) then
    (u256MulL1 s13 (0 : Int) s13 (0 : Int) x y high low all).bind fun q8 =>
    bif decide (0 ≤ (IntKind.wrap .i64 (q8.1 + (4 : Int)))) then
      bif Nat.blt (Int.toNat (IntKind.wrap .i64 (q8.1 + (4 : Int)))) 8 then
        bif Nat.blt (Int.toNat (IntKind.wrap .i64 (q8.1 + (4 : Int)))) 8 then
          some (.inl ((IntKind.wrap .i64 (q8.2.2.1 + (1 : Int))), q8.2.2.2.1, q8.2.2.2.2.1, q8.2.2.2.2.2.1, q8.2.2.2.2.2.2.1, (q8.2.2.2.2.2.2.2.set (Int.toNat (IntKind.wrap .i64 (q8.1 + (4 : Int)))) q8.2.1)))
        else none
      else none
    else none
  else
    some (.inr (high, low, all))

noncomputable def u256MulL0 (s13 : Int) (x : Nat) (y : Nat) (high : Nat) (low : Nat) (all : List Int) : Option (Nat × Nat × List Int) := hide (iter (fun p : Int × Nat × Nat × Nat × Nat × List Int => u256MulL0R p.1 p.2.1 p.2.2.1 p.2.2.2.1 p.2.2.2.2.1 p.2.2.2.2.2) (1000) (s13, x, y, high, low, all))

theorem u256MulL0_eq (s13 : Int) (x : Nat) (y : Nat) (high : Nat) (low : Nat) (all : List Int) : u256MulL0 s13 x y high low all = iter (fun p : Int × Nat × Nat × Nat × Nat × List Int => u256MulL0R p.1 p.2.1 p.2.2.1 p.2.2.2.1 p.2.2.2.2.1 p.2.2.2.2.2) (1000) (s13, x, y, high, low, all) := hide_eq _

noncomputable def u256MulB (x : Nat) (y : Nat) : Option (Nat × Nat) :=
  (u256MulL0 (0 : Int) x y 0 0 (List.replicate 8 (0 : Int))).bind fun q9 =>
  bif (List.all (spliceL (limbs q9.2.1) 0 (List.take 4 (List.take 4 (List.drop 0 q9.2.2)))) inU64) then
    bif (List.all (spliceL (limbs q9.1) 0 (List.take 4 (List.take 4 (List.drop 4 q9.2.2)))) inU64) then
      some ((ofLimbs (spliceL (limbs q9.1) 0 (List.take 4 (List.take 4 (List.drop 4 q9.2.2))))), (ofLimbs (spliceL (limbs q9.2.1) 0 (List.take 4 (List.take 4 (List.drop 0 q9.2.2))))))
    else none
  else none

noncomputable def u256Mul (x : Nat) (y : Nat) : Option (Nat × Nat) := hide (u256MulB x y)

theorem u256Mul_eq (x : Nat) (y : Nat) : u256Mul x y = u256MulB x y := hide_eq _

noncomputable def u256SubB (x : Nat) (y : Nat) : Option (Nat × Int) :=
  (bitsSub64 (limb x 0) (limb y 0) (0 : Int)).bind fun r1 =>
  bif inU64 r1.1 then
    (bitsSub64 (limb x 1) (limb y 1) r1.2).bind fun r2 =>
    bif inU64 r2.1 then
      (bitsSub64 (limb x 2) (limb y 2) r2.2).bind fun r3 =>
      bif inU64 r3.1 then
        (bitsSub64 (limb x 3) (limb y 3) r3.2).bind fun r4 =>
        bif inU64 r4.1 then
          some ((setLimb (setLimb (setLimb (setLimb 0 0 r1.1) 1 r2.1) 2 r3.1) 3 r4.1), r4.2)
        else none
      else none
    else none
  else none

noncomputable def u256Sub (x : Nat) (y : Nat) : Option (Nat × Int) := hide (u256SubB x y)

theorem u256Sub_eq (x : Nat) (y : Nat) : u256Sub x y = u256SubB x y := hide_eq _

noncomputable def u256CmpB (x : Nat) (y : Nat) : Option (Int) :=
  bif (u256eq x y) then
    some (0 : Int)
  else
    (u256Sub x y).bind fun r1 =>
    bif (r1.2 == (1 : Int)) then
      some (-1 : Int)
    else
      some (1 : Int)

noncomputable def u256Cmp (x : Nat) (y : Nat) : Option (Int) := hide (u256CmpB x y)

theorem u256Cmp_eq (x : Nat) (y : Nat) : u256Cmp x y = u256CmpB x y := hide_eq _

noncomputable def fieldModulusFoldL0R (f : Nat × Nat) (high : Nat) (low : Nat) (b6 : Nat) : Option (((Nat × Nat) × Nat × Nat × Nat) ⊕ ((Nat × Nat) × Nat × Nat)) :=
  bif (!(u256eq high 0)) then
    (u256Mul high f.2).bind fun r5 =>
    (u256Add low r5.2).bind fun r6 =>
    (u256From r6.2).bind fun r7 =>
    (u256Add r5.1 r7).bind fun r8 =>
    some (.inl (f, r8.1, r6.1, b6))
  else
    some (.inr (f, low, b6))

noncomputable def fieldModulusFoldL0 (f : Nat × Nat) (high : Nat) (low : Nat) (b6 : Nat) : Option ((Nat × Nat) × Nat × Nat) := hide (iter (fun p : (Nat × Nat) × Nat × Nat × Nat => fieldModulusFoldL0R p.1 p.2.1 p.2.2.1 p.2.2.2) (1000) (f, high, low, b6))

theorem fieldModulusFoldL0_eq (f : Nat × Nat) (high : Nat) (low : Nat) (b6 : Nat) : fieldModulusFoldL0 f high low b6 = iter (fun p : (Nat × Nat) × Nat × Nat × Nat => fieldModulusFoldL0R p.1 p.2.1 p.2.2.1 p.2.2.2) (1000) (f, high, low, b6) := hide_eq _

noncomputable def fieldModulusFoldL1R (f : Nat × Nat) (low : Nat) (b6 : Nat) : Option (((Nat × Nat) × Nat × Nat) ⊕ (Nat × Nat)) :=
  (u256Cmp low f.1).bind fun r12 =>
  bif (decide (r12 ≥ (0 : Int))) then
    (u256Sub low f.1).bind fun r13 =>
    some (.inl (f, r13.1, b6))
  else
    some (.inr (low, b6))

noncomputable def fieldModulusFoldL1 (f : Nat × Nat) (low : Nat) (b6 : Nat) : Option (Nat × Nat) := hide (iter (fun p : (Nat × Nat) × Nat × Nat => fieldModulusFoldL1R p.1 p.2.1 p.2.2) (1000) (f, low, b6))

theorem fieldModulusFoldL1_eq (f : Nat × Nat) (low : Nat) (b6 : Nat) : fieldModulusFoldL1 f low b6 = iter (fun p : (Nat × Nat) × Nat × Nat => fieldModulusFoldL1R p.1 p.2.1 p.2.2) (1000) (f, low, b6) := hide_eq _

noncomputable def fieldModulusFoldB (f : Nat × Nat) (high : Nat) (low : Nat) : Option (Nat) :=
  (fieldModulusFoldL0 f high low 0).bind fun q9 =>
  (fieldModulusFoldL1 q9.1 q9.2.1 q9.2.2).bind fun q14 =>
  some q14.1

noncomputable def fieldModulusFold (f : Nat × Nat) (high : Nat) (low : Nat) : Option (Nat) := hide (fieldModulusFoldB f high low)

theorem fieldModulusFold_eq (f : Nat × Nat) (high : Nat) (low : Nat) : fieldModulusFold f high low = fieldModulusFoldB f high low := hide_eq _

noncomputable def fieldModulusAddB (f : Nat × Nat) (x : Nat) (y : Nat) : Option (Nat) :=
  (u256Add x y).bind fun r1 =>
  (u256From r1.2).bind fun r2 =>
  (fieldModulusFold f r2 r1.1).bind fun r3 =>
  some r3

noncomputable def fieldModulusAdd (f : Nat × Nat) (x : Nat) (y : Nat) : Option (Nat) := hide (fieldModulusAddB f x y)

theorem fieldModulusAdd_eq (f : Nat × Nat) (x : Nat) (y : Nat) : fieldModulusAdd f x y = fieldModulusAddB f x y := hide_eq _

noncomputable def fieldAddB (k : Int) (x : Nat) (y : Nat) : Option (Nat × Int) :=
  (fieldIOf k).bind fun r1 =>
  bif (r1.2 != (0 : Int)) then
    some (0, r1.2)
  else
    (fieldModulusAdd r1.1 x y).bind fun r2 =>
    some (r2, (0 : Int))

noncomputable def fieldAdd (k : Int) (x : Nat) (y : Nat) : Option (Nat × Int) := hide (fieldAddB k x y)

theorem fieldAdd_eq (k : Int) (x : Nat) (y : Nat) : fieldAdd k x y = fieldAddB k x y := hide_eq _

noncomputable def fieldModulusOneB (f : Nat × Nat) (x : Nat) : Option (Nat) :=
  (fieldModulusFold f 0 x).bind fun r1 =>
  some r1

noncomputable def fieldModulusOne (f : Nat × Nat) (x : Nat) : Option (Nat) := hide (fieldModulusOneB f x)

theorem fieldModulusOne_eq (f : Nat × Nat) (x : Nat) : fieldModulusOne f x = fieldModulusOneB f x := hide_eq _

noncomputable def fieldModulusNegB (f : Nat × Nat) (x : Nat) : Option (Nat) :=
  (fieldModulusOne f x).bind fun r1 =>
  (u256Sub f.1 r1).bind fun r2 =>
  (fieldModulusOne f r2.1).bind fun r3 =>
  some r3

noncomputable def fieldModulusNeg (f : Nat × Nat) (x : Nat) : Option (Nat) := hide (fieldModulusNegB f x)

theorem fieldModulusNeg_eq (f : Nat × Nat) (x : Nat) : fieldModulusNeg f x = fieldModulusNegB f x := hide_eq _

noncomputable def fieldSubB (k : Int) (x : Nat) (y : Nat) : Option (Nat × Int) :=
  (fieldIOf k).bind fun r1 =>
  bif (r1.2 != (0 : Int)) then
    some (0, r1.2)
  else
    (fieldModulusNeg r1.1 y).bind fun r2 =>
    (fieldModulusAdd r1.1 x r2).bind fun r3 =>
    some (r3, (0 : Int))

noncomputable def fieldSub (k : Int) (x : Nat) (y : Nat) : Option (Nat × Int) := hide (fieldSubB k x y)

theorem fieldSub_eq (k : Int) (x : Nat) (y : Nat) : fieldSub k x y = fieldSubB k x y := hide_eq _

noncomputable def fieldNegB (k : Int) (x : Nat) : Option (Nat × Int) :=
  (fieldIOf k).bind fun r1 =>
  bif (r1.2 != (0 : Int)) then
    some (0, r1.2)
  else
    (fieldModulusNeg r1.1 x).bind fun r2 =>
    some (r2, (0 : Int))

noncomputable def fieldNeg (k : Int) (x : Nat) : Option (Nat × Int) := hide (fieldNegB k x)

theorem fieldNeg_eq (k : Int) (x : Nat) : fieldNeg k x = fieldNegB k x := hide_eq _

noncomputable def fieldModulusMulB (f : Nat × Nat) (x : Nat) (y : Nat) : Option (Nat) :=
  (u256Mul x y).bind fun r1 =>
  (fieldModulusFold f r1.1 r1.2).bind fun r2 =>
  some r2

noncomputable def fieldModulusMul (f : Nat × Nat) (x : Nat) (y : Nat) : Option (Nat) := hide (fieldModulusMulB f x y)

theorem fieldModulusMul_eq (f : Nat × Nat) (x : Nat) (y : Nat) : fieldModulusMul f x y = fieldModulusMulB f x y := hide_eq _

noncomputable def fieldMulB (k : Int) (x : Nat) (y : Nat) : Option (Nat × Int) :=
  (fieldIOf k).bind fun r1 =>
  bif (r1.2 != (0 : Int)) then
    some (0, r1.2)
  else
    (fieldModulusMul r1.1 x y).bind fun r2 =>
    some (r2, (0 : Int))

noncomputable def fieldMul (k : Int) (x : Nat) (y : Nat) : Option (Nat × Int) := hide (fieldMulB k x y)

theorem fieldMul_eq (k : Int) (x : Nat) (y : Nat) : fieldMul k x y = fieldMulB k x y := hide_eq _

noncomputable def bitsLen64B (x : Int) : Option (Int) :=
  bif (decide (x ≥ (4294967296 : Int))) then
    bif (decide ((shrI .u64 x 32) ≥ (65536 : Int))) then
      bif (decide ((shrI .u64 (shrI .u64 x 32) 16) ≥ (256 : Int))) then
        bif decide (0 ≤ (IntKind.wrap .u8 (shrI .u64 (shrI .u64 (shrI .u64 x 32) 16) 8))) then
          bif Nat.blt (Int.toNat (IntKind.wrap .u8 (shrI .u64 (shrI .u64 (shrI .u64 x 32) 16) 8))) strC0.length then
            some (IntKind.wrap .i64 ((56 : Int) + (IntKind.wrap .i64 (((List.getD strC0 (Int.toNat (IntKind.wrap .u8 (shrI .u64 (shrI .u64 (shrI .u64 x 32) 16) 8))) 0).toNat : Nat) : Int))))
          else none
        else none
      else
        bif decide (0 ≤ (IntKind.wrap .u8 (shrI .u64 (shrI .u64 x 32) 16))) then
          bif Nat.blt (Int.toNat (IntKind.wrap .u8 (shrI .u64 (shrI .u64 x 32) 16))) strC0.length then
            some (IntKind.wrap .i64 ((48 : Int) + (IntKind.wrap .i64 (((List.getD strC0 (Int.toNat (IntKind.wrap .u8 (shrI .u64 (shrI .u64 x 32) 16))) 0).toNat : Nat) : Int))))
          else none
        else none
    else
      bif (decide ((shrI .u64 x 32) ≥ (256 : Int))) then
        bif decide (0 ≤ (IntKind.wrap .u8 (shrI .u64 (shrI .u64 x 32) 8))) then
          bif Nat.blt (Int.toNat (IntKind.wrap .u8 (shrI .u64 (shrI .u64 x 32) 8))) strC0.length then
            some (IntKind.wrap .i64 ((40 : Int) + (IntKind.wrap .i64 (((List.getD strC0 (Int.toNat (IntKind.wrap .u8 (shrI .u64 (shrI .u64 x 32) 8))) 0).toNat : Nat) : Int))))
          else none
        else none
      else
        bif decide (0 ≤ (IntKind.wrap .u8 (shrI .u64 x 32))) then
          bif Nat.blt (Int.toNat (IntKind.wrap .u8 (shrI .u64 x 32))) strC0.length then
            some (IntKind.wrap .i64 ((32 : Int) + (IntKind.wrap .i64 (((List.getD strC0 (Int.toNat (IntKind.wrap .u8 (shrI .u64 x 32))) 0).toNat : Nat) : Int))))
          else none
        else none
  else
    bif (decide (x ≥ (65536 : Int))) then
      bif (decide ((shrI .u64 x 16) ≥ (256 : Int))) then
        bif decide (0 ≤ (IntKind.wrap .u8 (shrI .u64 (shrI .u64 x 16) 8))) then
          bif Nat.blt (Int.toNat (IntKind.wrap .u8 (shrI .u64 (shrI .u64 x 16) 8))) strC0.length then
            some (IntKind.wrap .i64 ((24 : Int) + (IntKind.wrap .i64 (((List.getD strC0 (Int.toNat (IntKind.wrap .u8 (shrI .u64 (shrI .u64 x 16) 8))) 0).toNat : Nat) : Int))))
          else none
        else none
      else
        bif decide (0 ≤ (IntKind.wrap .u8 (shrI .u64 x 16))) then
          bif Nat.blt (Int.toNat (IntKind.wrap .u8 (shrI .u64 x 16))) strC0.length then
            some (IntKind.wrap .i64 ((16 : Int) + (IntKind.wrap .i64 (((List.getD strC0 (Int.toNat (IntKind.wrap .u8 (shrI .u64 x 16))) 0).toNat : Nat) : Int))))
          else none
        else none
    else
      bif (decide (x ≥ (256 : Int))) then
        bif decide (0 ≤ (IntKind.wrap .u8 (shrI .u64 x 8))) then
          bif Nat.blt (Int.toNat (IntKind.wrap .u8 (shrI .u64 x 8))) strC0.length then
            some (IntKind.wrap .i64 ((8 : Int) + (IntKind.wrap .i64 (((List.getD strC0 (Int.toNat (IntKind.wrap .u8 (shrI .u64 x 8))) 0).toNat : Nat) : Int))))
          else none
        else none
      else
        bif decide (0 ≤ (IntKind.wrap .u8 x)) then
          bif Nat.blt (Int.toNat (IntKind.wrap .u8 x)) strC0.length then
            some (IntKind.wrap .i64 ((0 : Int) + (IntKind.wrap .i64 (((List.getD strC0 (Int.toNat (IntKind.wrap .u8 x)) 0).toNat : Nat) : Int))))
          else none
        else none

noncomputable def bitsLen64 (x : Int) : Option (Int) := hide (bitsLen64B x)

theorem bitsLen64_eq (x : Int) : bitsLen64 x = bitsLen64B x := hide_eq _

noncomputable def u256LenL0R (i : Int) (x : Nat) : Option ((Int × Nat) ⊕ (Int ⊕ Unit)) :=
  bif (decide (i ≥ (0 : Int))) then
    bif decide (0 ≤ i) then
      bif Nat.blt (Int.toNat i) 4 then
        bif Nat.blt (Int.toNat i) 4 then
          bif ((limb x (Int.toNat i)) != (0 : Int)) then
            bif decide (0 ≤ i) then
              bif Nat.blt (Int.toNat i) 4 then
                bif Nat.blt (Int.toNat i) 4 then
                  (bitsLen64 (limb x (Int.toNat i))).bind fun r2 =>
                  some (.inr (.inl (IntKind.wrap .i64 ((IntKind.wrap .i64 ((64 : Int) * i)) + r2))))
                else none
              else none
            else none
          else
            some (.inl ((IntKind.wrap .i64 (i - (1 : Int))), x))
        else none
      else none
    else none
  else
    some (.inr (.inr ()))

noncomputable def u256LenL0 (i : Int) (x : Nat) : Option (Int ⊕ Unit) := hide (iter (fun p : Int × Nat => u256LenL0R p.1 p.2) (1000) (i, x))

theorem u256LenL0_eq (i : Int) (x : Nat) : u256LenL0 i x = iter (fun p : Int × Nat => u256LenL0R p.1 p.2) (1000) (i, x) := hide_eq _

noncomputable def u256LenB (x : Nat) : Option (Int) :=
  (u256LenL0 (3 : Int) x).bind fun q3 =>
  sumK q3 (fun q4 =>
    some q4)
    (fun q5 =>
    some (0 : Int))

noncomputable def u256Len (x : Nat) : Option (Int) := hide (u256LenB x)

theorem u256Len_eq (x : Nat) : u256Len x = u256LenB x := hide_eq _

noncomputable def u256BitB (x : Nat) (i : Int) : Option (Int) :=
  bif (decide (i < (0 : Int))) then
    some (0 : Int)
  else
    bif (decide (i > (255 : Int))) then
      some (0 : Int)
    else
      bif decide (0 ≤ (IntKind.wrap .i64 (Int.tdiv i (64 : Int)))) then
        bif Nat.blt (Int.toNat (IntKind.wrap .i64 (Int.tdiv i (64 : Int)))) 4 then
          bif Nat.blt (Int.toNat (IntKind.wrap .i64 (Int.tdiv i (64 : Int)))) 4 then
            bif decide ((Int.tmod i (64 : Int)) < 0) then
              none
            else
              some (IntKind.wrap .i64 (andI .u64 (shrI .u64 (limb x (Int.toNat (IntKind.wrap .i64 (Int.tdiv i (64 : Int))))) (Int.tmod i (64 : Int))) (1 : Int)))
          else none
        else none
      else none

noncomputable def u256Bit (x : Nat) (i : Int) : Option (Int) := hide (u256BitB x i)

theorem u256Bit_eq (x : Nat) (i : Int) : u256Bit x i = u256BitB x i := hide_eq _

noncomputable def fieldModulusExpL0R (i : Int) (f : Nat × Nat) (x : Nat) (e : Nat) (b6 : Nat) (z : Nat) : Option ((Int × (Nat × Nat) × Nat × Nat × Nat × Nat) ⊕ (Nat × Nat)) :=
  bif (decide (i ≥ (0 : Int))) then
    (fieldModulusMul f z z).bind fun r7 =>
    (u256Bit e i).bind fun r8 =>
    bif (r8 == (1 : Int)) then
      (fieldModulusMul f r7 x).bind fun r9 =>
      some (.inl ((IntKind.wrap .i64 (i - (1 : Int))), f, x, e, b6, r9))
    else
      some (.inl ((IntKind.wrap .i64 (i - (1 : Int))), f, x, e, b6, r7))
  else
    some (.inr (b6, z))

noncomputable def fieldModulusExpL0 (i : Int) (f : Nat × Nat) (x : Nat) (e : Nat) (b6 : Nat) (z : Nat) : Option (Nat × Nat) := hide (iter (fun p : Int × (Nat × Nat) × Nat × Nat × Nat × Nat => fieldModulusExpL0R p.1 p.2.1 p.2.2.1 p.2.2.2.1 p.2.2.2.2.1 p.2.2.2.2.2) (1000) (i, f, x, e, b6, z))

theorem fieldModulusExpL0_eq (i : Int) (f : Nat × Nat) (x : Nat) (e : Nat) (b6 : Nat) (z : Nat) : fieldModulusExpL0 i f x e b6 z = iter (fun p : Int × (Nat × Nat) × Nat × Nat × Nat × Nat => fieldModulusExpL0R p.1 p.2.1 p.2.2.1 p.2.2.2.1 p.2.2.2.2.1 p.2.2.2.2.2) (1000) (i, f, x, e, b6, z) := hide_eq _

noncomputable def fieldModulusExpB (f : Nat × Nat) (x : Nat) (e : Nat) : Option (Nat) :=
  (u256From (1 : Int)).bind fun r1 =>
  (fieldModulusOne f r1).bind fun r2 =>
  (u256Len e).bind fun r3 =>
  (fieldModulusExpL0 (IntKind.wrap .i64 (r3 - (1 : Int))) f x e 0 r2).bind fun q10 =>
  some q10.2

noncomputable def fieldModulusExp (f : Nat × Nat) (x : Nat) (e : Nat) : Option (Nat) := hide (fieldModulusExpB f x e)

theorem fieldModulusExp_eq (f : Nat × Nat) (x : Nat) (e : Nat) : fieldModulusExp f x e = fieldModulusExpB f x e := hide_eq _

noncomputable def fieldModulusInverseB (f : Nat × Nat) (x : Nat) : Option (Nat) :=
  (u256From (2 : Int)).bind fun r1 =>
  (u256Sub f.1 r1).bind fun r2 =>
  (fieldModulusExp f x r2.1).bind fun r3 =>
  some r3

noncomputable def fieldModulusInverse (f : Nat × Nat) (x : Nat) : Option (Nat) := hide (fieldModulusInverseB f x)

theorem fieldModulusInverse_eq (f : Nat × Nat) (x : Nat) : fieldModulusInverse f x = fieldModulusInverseB f x := hide_eq _

noncomputable def fieldInverseB (k : Int) (x : Nat) : Option (Nat × Int) :=
  (fieldIOf k).bind fun r1 =>
  bif (r1.2 != (0 : Int)) then
    some (0, r1.2)
  else
    (fieldModulusOne r1.1 x).bind fun r2 =>
    bif (u256eq r2 0) then
      some (0, (40 : Int))
    else
      (fieldModulusInverse r1.1 x).bind fun r3 =>
      some (r3, (0 : Int))

noncomputable def fieldInverse (k : Int) (x : Nat) : Option (Nat × Int) := hide (fieldInverseB k x)

theorem fieldInverse_eq (k : Int) (x : Nat) : fieldInverse k x = fieldInverseB k x := hide_eq _

noncomputable def u256ShlL0R (n : Int) (i : Int) (x : Nat) (b4 : Nat) (z : Nat) : Option ((Int × Int × Nat × Nat × Nat) ⊕ (Nat × Nat)) :=
  bif (decide (i < (4 : Int))) then
    bif decide (0 ≤ (IntKind.wrap .i64 (i - (IntKind.wrap .i64 (Int.tdiv n (64 : Int)))))) then
      bif Nat.blt (Int.toNat (IntKind.wrap .i64 (i - (IntKind.wrap .i64 (Int.tdiv n (64 : Int)))))) 4 then
        bif Nat.blt (Int.toNat (IntKind.wrap .i64 (i - (IntKind.wrap .i64 (Int.tdiv n (64 : Int)))))) 4 then
          bif decide ((Int.tmod n (64 : Int)) < 0) then
            none
          else
            bif decide (0 ≤ i) then
              bif Nat.blt (Int.toNat i) 4 then
                bif Nat.blt (Int.toNat i) 4 then
                  bif inU64 (shlI .u64 (limb x (Int.toNat (IntKind.wrap .i64 (i - (IntKind.wrap .i64 (Int.tdiv n (64 : Int))))))) (Int.tmod n (64 : Int))) then
                    bif (decide (i > (IntKind.wrap .i64 (Int.tdiv n (64 : Int))))) then
                      bif (decide ((Int.tmod n (64 : Int)) > (0 : Int))) then
                        bif decide (0 ≤ i) then
                          bif Nat.blt (Int.toNat i) 4 then
                            bif Nat.blt (Int.toNat i) 4 then
                              bif decide (0 ≤ (IntKind.wrap .i64 ((IntKind.wrap .i64 (i - (IntKind.wrap .i64 (Int.tdiv n (64 : Int))))) - (1 : Int)))) then
                                bif Nat.blt (Int.toNat (IntKind.wrap .i64 ((IntKind.wrap .i64 (i - (IntKind.wrap .i64 (Int.tdiv n (64 : Int))))) - (1 : Int)))) 4 then
                                  bif Nat.blt (Int.toNat (IntKind.wrap .i64 ((IntKind.wrap .i64 (i - (IntKind.wrap .i64 (Int.tdiv n (64 : Int))))) - (1 : Int)))) 4 then
                                    bif decide ((IntKind.wrap .i64 ((64 : Int) - (Int.tmod n (64 : Int)))) < 0) then
                                      none
                                    else
                                      bif decide (0 ≤ i) then
                                        bif Nat.blt (Int.toNat i) 4 then
                                          bif Nat.blt (Int.toNat i) 4 then
                                            bif inU64 (orI .u64 (limb (setLimb z (Int.toNat i) (shlI .u64 (limb x (Int.toNat (IntKind.wrap .i64 (i - (IntKind.wrap .i64 (Int.tdiv n (64 : Int))))))) (Int.tmod n (64 : Int)))) (Int.toNat i)) (shrI .u64 (limb x (Int.toNat (IntKind.wrap .i64 ((IntKind.wrap .i64 (i - (IntKind.wrap .i64 (Int.tdiv n (64 : Int))))) - (1 : Int))))) (IntKind.wrap .i64 ((64 : Int) - (Int.tmod n (64 : Int)))))) then
                                              some (.inl (n, (IntKind.wrap .i64 (i + (1 : Int))), x, b4, (setLimb (setLimb z (Int.toNat i) (shlI .u64 (limb x (Int.toNat (IntKind.wrap .i64 (i - (IntKind.wrap .i64 (Int.tdiv n (64 : Int))))))) (Int.tmod n (64 : Int)))) (Int.toNat i) (orI .u64 (limb (setLimb z (Int.toNat i) (shlI .u64 (limb x (Int.toNat (IntKind.wrap .i64 (i - (IntKind.wrap .i64 (Int.tdiv n (64 : Int))))))) (Int.tmod n (64 : Int)))) (Int.toNat i)) (shrI .u64 (limb x (Int.toNat (IntKind.wrap .i64 ((IntKind.wrap .i64 (i - (IntKind.wrap .i64 (Int.tdiv n (64 : Int))))) - (1 : Int))))) (IntKind.wrap .i64 ((64 : Int) - (Int.tmod n (64 : Int)))))))))
                                            else none
                                          else none
                                        else none
                                      else none
                                  else none
                                else none
                              else none
                            else none
                          else none
                        else none
                      else
                        some (.inl (n, (IntKind.wrap .i64 (i + (1 : Int))), x, b4, (setLimb z (Int.toNat i) (shlI .u64 (limb x (Int.toNat (IntKind.wrap .i64 (i - (IntKind.wrap .i64 (Int.tdiv n (64 : Int))))))) (Int.tmod n (64 : Int))))))
                    else
                      some (.inl (n, (IntKind.wrap .i64 (i + (1 : Int))), x, b4, (setLimb z (Int.toNat i) (shlI .u64 (limb x (Int.toNat (IntKind.wrap .i64 (i - (IntKind.wrap .i64 (Int.tdiv n (64 : Int))))))) (Int.tmod n (64 : Int))))))
                  else none
                else none
              else none
            else none
        else none
      else none
    else none
  else
    some (.inr (b4, z))

noncomputable def u256ShlL0 (n : Int) (i : Int) (x : Nat) (b4 : Nat) (z : Nat) : Option (Nat × Nat) := hide (iter (fun p : Int × Int × Nat × Nat × Nat => u256ShlL0R p.1 p.2.1 p.2.2.1 p.2.2.2.1 p.2.2.2.2) (1000) (n, i, x, b4, z))

theorem u256ShlL0_eq (n : Int) (i : Int) (x : Nat) (b4 : Nat) (z : Nat) : u256ShlL0 n i x b4 z = iter (fun p : Int × Int × Nat × Nat × Nat => u256ShlL0R p.1 p.2.1 p.2.2.1 p.2.2.2.1 p.2.2.2.2) (1000) (n, i, x, b4, z) := hide_eq _

noncomputable def u256ShlB (x : Nat) (n : Int) : Option (Nat) :=
  bif (decide (n > (255 : Int))) then
    some 0
  else
    bif (decide (n < (-255 : Int))) then
      some 0
    else
      bif (decide (n < (0 : Int))) then
        none
      else
        (u256ShlL0 n (IntKind.wrap .i64 (Int.tdiv n (64 : Int))) x 0 0).bind fun q1 =>
        some q1.2

noncomputable def u256Shl (x : Nat) (n : Int) : Option (Nat) := hide (u256ShlB x n)

theorem u256Shl_eq (x : Nat) (n : Int) : u256Shl x n = u256ShlB x n := hide_eq _

noncomputable def u256ShrL0R (n : Int) (i : Int) (x : Nat) (b4 : Nat) (z : Nat) : Option ((Int × Int × Nat × Nat × Nat) ⊕ (Nat × Nat)) :=
  bif (decide (i < (IntKind.wrap .i64 ((4 : Int) - (IntKind.wrap .i64 (Int.tdiv n (64 : Int))))))) then
    bif decide (0 ≤ (IntKind.wrap .i64 (i + (IntKind.wrap .i64 (Int.tdiv n (64 : Int)))))) then
      bif Nat.blt (Int.toNat (IntKind.wrap .i64 (i + (IntKind.wrap .i64 (Int.tdiv n (64 : Int)))))) 4 then
        bif Nat.blt (Int.toNat (IntKind.wrap .i64 (i + (IntKind.wrap .i64 (Int.tdiv n (64 : Int)))))) 4 then
          bif decide ((Int.tmod n (64 : Int)) < 0) then
            none
          else
            bif decide (0 ≤ i) then
              bif Nat.blt (Int.toNat i) 4 then
                bif Nat.blt (Int.toNat i) 4 then
                  bif inU64 (shrI .u64 (limb x (Int.toNat (IntKind.wrap .i64 (i + (IntKind.wrap .i64 (Int.tdiv n (64 : Int))))))) (Int.tmod n (64 : Int))) then
                    bif (decide ((IntKind.wrap .i64 (i + (IntKind.wrap .i64 (Int.tdiv n (64 : Int))))) < (3 : Int))) then
                      bif (decide ((Int.tmod n (64 : Int)) > (0 : Int))) then
                        bif decide (0 ≤ i) then
                          bif Nat.blt (Int.toNat i) 4 then
                            bif Nat.blt (Int.toNat i) 4 then
                              bif decide (0 ≤ (IntKind.wrap .i64 ((IntKind.wrap .i64 (i + (IntKind.wrap .i64 (Int.tdiv n (64 : Int))))) + (1 : Int)))) then
                                bif Nat.blt (Int.toNat (IntKind.wrap .i64 ((IntKind.wrap .i64 (i + (IntKind.wrap .i64 (Int.tdiv n (64 : Int))))) + (1 : Int)))) 4 then
                                  bif Nat.blt (Int.toNat (IntKind.wrap .i64 ((IntKind.wrap .i64 (i + (IntKind.wrap .i64 (Int.tdiv n (64 : Int))))) + (1 : Int)))) 4 then
                                    bif decide ((IntKind.wrap .i64 ((64 : Int) - (Int.tmod n (64 : Int)))) < 0) then
                                      none
                                    else
                                      bif decide (0 ≤ i) then
                                        bif Nat.blt (Int.toNat i) 4 then
                                          bif Nat.blt (Int.toNat i) 4 then
                                            bif inU64 (orI .u64 (limb (setLimb z (Int.toNat i) (shrI .u64 (limb x (Int.toNat (IntKind.wrap .i64 (i + (IntKind.wrap .i64 (Int.tdiv n (64 : Int))))))) (Int.tmod n (64 : Int)))) (Int.toNat i)) (shlI .u64 (limb x (Int.toNat (IntKind.wrap .i64 ((IntKind.wrap .i64 (i + (IntKind.wrap .i64 (Int.tdiv n (64 : Int))))) + (1 : Int))))) (IntKind.wrap .i64 ((64 : Int) - (Int.tmod n (64 : Int)))))) then
                                              some (.inl (n, (IntKind.wrap .i64 (i + (1 : Int))), x, b4, (setLimb (setLimb z (Int.toNat i) (shrI .u64 (limb x (Int.toNat (IntKind.wrap .i64 (i + (IntKind.wrap .i64 (Int.tdiv n (64 : Int))))))) (Int.tmod n (64 : Int)))) (Int.toNat i) (orI .u64 (limb (setLimb z (Int.toNat i) (shrI .u64 (limb x (Int.toNat (IntKind.wrap .i64 (i + (IntKind.wrap .i64 (Int.tdiv n (64 : Int))))))) (Int.tmod n (64 : Int)))) (Int.toNat i)) (shlI .u64 (limb x (Int.toNat (IntKind.wrap .i64 ((IntKind.wrap .i64 (i + (IntKind.wrap .i64 (Int.tdiv n (64 : Int))))) + (1 : Int))))) (IntKind.wrap .i64 ((64 : Int) - (Int.tmod n (64 : Int)))))))))
                                            else none
                                          else none
                                        else none
                                      else none
                                  else none
                                else none
                              else none
                            else none
                          else none
                        else none
                      else
                        some (.inl (n, (IntKind.wrap .i64 (i + (1 : Int))), x, b4, (setLimb z (Int.toNat i) (shrI .u64 (limb x (Int.toNat (IntKind.wrap .i64 (i + (IntKind.wrap .i64 (Int.tdiv n (64 : Int))))))) (Int.tmod n (64 : Int))))))
                    else
                      some (.inl (n, (IntKind.wrap .i64 (i + (1 : Int))), x, b4, (setLimb z (Int.toNat i) (shrI .u64 (limb x (Int.toNat (IntKind.wrap .i64 (i + (IntKind.wrap .i64 (Int.tdiv n (64 : Int))))))) (Int.tmod n (64 : Int))))))
                  else none
                else none
              else none
            else none
        else none
      else none
    else none
  else
    some (.inr (b4, z))

noncomputable def u256ShrL0 (n : Int) (i : Int) (x : Nat) (b4 : Nat) (z : Nat) : Option (Nat × Nat) := hide (iter (fun p : Int × Int × Nat × Nat × Nat => u256ShrL0R p.1 p.2.1 p.2.2.1 p.2.2.2.1 p.2.2.2.2) (1000) (n, i, x, b4, z))

theorem u256ShrL0_eq (n : Int) (i : Int) (x : Nat) (b4 : Nat) (z : Nat) : u256ShrL0 n i x b4 z = iter (fun p : Int × Int × Nat × Nat × Nat => u256ShrL0R p.1 p.2.1 p.2.2.1 p.2.2.2.1 p.2.2.2.2) (1000) (n, i, x, b4, z) := hide_eq _

noncomputable def u256ShrB (x : Nat) (n : Int) : Option (Nat) :=
  bif (decide (n > (255 : Int))) then
    some 0
  else
    bif (decide (n < (-255 : Int))) then
      some 0
    else
      bif (decide (n < (0 : Int))) then
        (u256Shl x (IntKind.wrap .i64 (0 - n))).bind fun r1 =>
        some r1
      else
        (u256ShrL0 n (0 : Int) x 0 0).bind fun q2 =>
        some q2.2

noncomputable def u256Shr (x : Nat) (n : Int) : Option (Nat) := hide (u256ShrB x n)

theorem u256Shr_eq (x : Nat) (n : Int) : u256Shr x n = u256ShrB x n := hide_eq _

noncomputable def fieldRootB (x : Nat) : Option (Nat × Int) :=
  (u256From (1 : Int)).bind fun r1 =>
  (u256Add ((fieldModuli.getD 0 ((0, 0) : Nat × Nat)).1) r1).bind fun r2 =>
  (u256Shr r2.1 (2 : Int)).bind fun r3 =>
  (fieldModulusExp (fieldModuli.getD 0 ((0, 0) : Nat × Nat)) x r3).bind fun r4 =>
  (fieldModulusMul (fieldModuli.getD 0 ((0, 0) : Nat × Nat)) r4 r4).bind fun r5 =>
  (fieldModulusOne (fieldModuli.getD 0 ((0, 0) : Nat × Nat)) x).bind fun r6 =>
  bif (!(u256eq r5 r6)) then
    some (0, (41 : Int))
  else
    bif ((andI .u64 (limb r4 0) (1 : Int)) == (1 : Int)) then
      (fieldModulusNeg (fieldModuli.getD 0 ((0, 0) : Nat × Nat)) r4).bind fun r7 =>
      some (r7, (0 : Int))
    else
      some (r4, (0 : Int))

noncomputable def fieldRoot (x : Nat) : Option (Nat × Int) := hide (fieldRootB x)

theorem fieldRoot_eq (x : Nat) : fieldRoot x = fieldRootB x := hide_eq _

noncomputable def fieldSquareB (k : Int) (x : Nat) : Option (Nat × Int) :=
  (fieldMul k x x).bind fun r1 =>
  some r1

noncomputable def fieldSquare (k : Int) (x : Nat) : Option (Nat × Int) := hide (fieldSquareB k x)

theorem fieldSquare_eq (k : Int) (x : Nat) : fieldSquare k x = fieldSquareB k x := hide_eq _

noncomputable def fieldReduceB (k : Int) (high : Nat) (low : Nat) : Option (Nat × Int) :=
  (fieldIOf k).bind fun r1 =>
  bif (r1.2 != (0 : Int)) then
    some (0, r1.2)
  else
    (fieldModulusFold r1.1 high low).bind fun r2 =>
    some (r2, (0 : Int))

noncomputable def fieldReduce (k : Int) (high : Nat) (low : Nat) : Option (Nat × Int) := hide (fieldReduceB k high low)

theorem fieldReduce_eq (k : Int) (high : Nat) (low : Nat) : fieldReduce k high low = fieldReduceB k high low := hide_eq _

noncomputable def u256GetL0R (b : List Int) (s12 : Int) (s13 : Int) (b2 : Nat) (x : Nat) : Option ((List Int × Int × Int × Nat × Nat) ⊕ (Nat × Nat)) :=
  bif (decide (s13 < s12)) then
    bif decide (0 ≤ (IntKind.wrap .i64 (Int.tdiv (IntKind.wrap .i64 ((IntKind.wrap .i64 (((b.length : Nat) : Int) - (1 : Int))) - s13)) (8 : Int)))) then
      bif Nat.blt (Int.toNat (IntKind.wrap .i64 (Int.tdiv (IntKind.wrap .i64 ((IntKind.wrap .i64 (((b.length : Nat) : Int) - (1 : Int))) - s13)) (8 : Int)))) 4 then
        bif Nat.blt (Int.toNat (IntKind.wrap .i64 (Int.tdiv (IntKind.wrap .i64 ((IntKind.wrap .i64 (((b.length : Nat) : Int) - (1 : Int))) - s13)) (8 : Int)))) 4 then
          bif decide (0 ≤ s13) then
            bif Nat.blt (Int.toNat s13) b.length then
              bif decide ((IntKind.wrap .i64 ((8 : Int) * (Int.tmod (IntKind.wrap .i64 ((IntKind.wrap .i64 (((b.length : Nat) : Int) - (1 : Int))) - s13)) (8 : Int)))) < 0) then
                none
              else
                bif decide (0 ≤ (IntKind.wrap .i64 (Int.tdiv (IntKind.wrap .i64 ((IntKind.wrap .i64 (((b.length : Nat) : Int) - (1 : Int))) - s13)) (8 : Int)))) then
                  bif Nat.blt (Int.toNat (IntKind.wrap .i64 (Int.tdiv (IntKind.wrap .i64 ((IntKind.wrap .i64 (((b.length : Nat) : Int) - (1 : Int))) - s13)) (8 : Int)))) 4 then
                    bif Nat.blt (Int.toNat (IntKind.wrap .i64 (Int.tdiv (IntKind.wrap .i64 ((IntKind.wrap .i64 (((b.length : Nat) : Int) - (1 : Int))) - s13)) (8 : Int)))) 4 then
                      bif inU64 (orI .u64 (limb x (Int.toNat (IntKind.wrap .i64 (Int.tdiv (IntKind.wrap .i64 ((IntKind.wrap .i64 (((b.length : Nat) : Int) - (1 : Int))) - s13)) (8 : Int))))) (shlI .u64 (IntKind.wrap .u64 (b.getD (Int.toNat s13) (0 : Int))) (IntKind.wrap .i64 ((8 : Int) * (Int.tmod (IntKind.wrap .i64 ((IntKind.wrap .i64 (((b.length : Nat) : Int) - (1 : Int))) - s13)) (8 : Int)))))) then
                        some (.inl (b, s12, (IntKind.wrap .i64 (s13 + (1 : Int))), b2, (setLimb x (Int.toNat (IntKind.wrap .i64 (Int.tdiv (IntKind.wrap .i64 ((IntKind.wrap .i64 (((b.length : Nat) : Int) - (1 : Int))) - s13)) (8 : Int)))) (orI .u64 (limb x (Int.toNat (IntKind.wrap .i64 (Int.tdiv (IntKind.wrap .i64 ((IntKind.wrap .i64 (((b.length : Nat) : Int) - (1 : Int))) - s13)) (8 : Int))))) (shlI .u64 (IntKind.wrap .u64 (b.getD (Int.toNat s13) (0 : Int))) (IntKind.wrap .i64 ((8 : Int) * (Int.tmod (IntKind.wrap .i64 ((IntKind.wrap .i64 (((b.length : Nat) : Int) - (1 : Int))) - s13)) (8 : Int)))))))))
                      else none
                    else none
                  else none
                else none
            else none
          else none
        else none
      else none
    else none
  else
    some (.inr (b2, x))

noncomputable def u256GetL0 (b : List Int) (s12 : Int) (s13 : Int) (b2 : Nat) (x : Nat) : Option (Nat × Nat) := hide (iter (fun p : List Int × Int × Int × Nat × Nat => u256GetL0R p.1 p.2.1 p.2.2.1 p.2.2.2.1 p.2.2.2.2) (1000) (b, s12, s13, b2, x))

theorem u256GetL0_eq (b : List Int) (s12 : Int) (s13 : Int) (b2 : Nat) (x : Nat) : u256GetL0 b s12 s13 b2 x = iter (fun p : List Int × Int × Int × Nat × Nat => u256GetL0R p.1 p.2.1 p.2.2.1 p.2.2.2.1 p.2.2.2.2) (1000) (b, s12, s13, b2, x) := hide_eq _

noncomputable def u256GetB (b : List Int) : Option (Nat × Int) :=
  bif (decide (((b.length : Nat) : Int) > (32 : Int))) then
    some (0, (11 : Int))
  else
    (u256GetL0 b ((b.length : Nat) : Int) (0 : Int) 0 0).bind fun q1 =>
    some (q1.2, (0 : Int))

noncomputable def u256Get (b : List Int) : Option (Nat × Int) := hide (u256GetB b)

theorem u256Get_eq (b : List Int) : u256Get b = u256GetB b := hide_eq _

noncomputable def u256PutL0R (s5 : Int) (x : Nat) (b2 : List Int) (b : List Int) : Option ((Int × Nat × List Int × List Int) ⊕ (List Int × List Int)) :=
  bif (decide (s5 < (32 : Int))) then
    bif decide (0 ≤ (IntKind.wrap .i64 (Int.tdiv s5 (8 : Int)))) then
      bif Nat.blt (Int.toNat (IntKind.wrap .i64 (Int.tdiv s5 (8 : Int)))) 4 then
        bif Nat.blt (Int.toNat (IntKind.wrap .i64 (Int.tdiv s5 (8 : Int)))) 4 then
          bif decide ((IntKind.wrap .i64 ((8 : Int) * (Int.tmod s5 (8 : Int)))) < 0) then
            none
          else
            bif decide (0 ≤ (IntKind.wrap .i64 ((31 : Int) - s5))) then
              bif Nat.blt (Int.toNat (IntKind.wrap .i64 ((31 : Int) - s5))) 32 then
                bif Nat.blt (Int.toNat (IntKind.wrap .i64 ((31 : Int) - s5))) 32 then
                  some (.inl ((IntKind.wrap .i64 (s5 + (1 : Int))), x, b2, (b.set (Int.toNat (IntKind.wrap .i64 ((31 : Int) - s5))) (IntKind.wrap .u8 (shrI .u64 (limb x (Int.toNat (IntKind.wrap .i64 (Int.tdiv s5 (8 : Int))))) (IntKind.wrap .i64 ((8 : Int) * (Int.tmod s5 (8 : Int)))))))))
                else none
              else none
            else none
        else none
      else none
    else none
  else
    some (.inr (b2, b))

noncomputable def u256PutL0 (s5 : Int) (x : Nat) (b2 : List Int) (b : List Int) : Option (List Int × List Int) := hide (iter (fun p : Int × Nat × List Int × List Int => u256PutL0R p.1 p.2.1 p.2.2.1 p.2.2.2) (1000) (s5, x, b2, b))

theorem u256PutL0_eq (s5 : Int) (x : Nat) (b2 : List Int) (b : List Int) : u256PutL0 s5 x b2 b = iter (fun p : Int × Nat × List Int × List Int => u256PutL0R p.1 p.2.1 p.2.2.1 p.2.2.2) (1000) (s5, x, b2, b) := hide_eq _

noncomputable def u256PutB (x : Nat) : Option (List Int) :=
  (u256PutL0 (0 : Int) x (List.replicate 32 (0 : Int)) (List.replicate 32 (0 : Int))).bind fun q1 =>
  some q1.2

noncomputable def u256Put (x : Nat) : Option (List Int) := hide (u256PutB x)

theorem u256Put_eq (x : Nat) : u256Put x = u256PutB x := hide_eq _

noncomputable def ecdsaIOrderB  : Option (Nat) :=
  (fieldModulus (1 : Int)).bind fun r1 =>
  some r1.1

noncomputable def ecdsaIOrder  : Option (Nat) := hide (ecdsaIOrderB )

theorem ecdsaIOrder_eq  : ecdsaIOrder  = ecdsaIOrderB  := hide_eq _

noncomputable def ecdsaIFitB (x : Nat) : Option (Bool) :=
  bif (!(u256eq x 0)) then
    (ecdsaIOrder).bind fun r1 =>
    (u256Cmp x r1).bind fun r2 =>
    some (decide (r2 < (0 : Int)))
  else
    some false

noncomputable def ecdsaIFit (x : Nat) : Option (Bool) := hide (ecdsaIFitB x)

theorem ecdsaIFit_eq (x : Nat) : ecdsaIFit x = ecdsaIFitB x := hide_eq _

noncomputable def ecdsaILowB (s : Nat) : Option (Bool) :=
  (ecdsaIOrder).bind fun r1 =>
  (u256Shr r1 (1 : Int)).bind fun r2 =>
  (u256Cmp s r2).bind fun r3 =>
  some (decide (r3 ≤ (0 : Int)))

noncomputable def ecdsaILow (s : Nat) : Option (Bool) := hide (ecdsaILowB s)

theorem ecdsaILow_eq (s : Nat) : ecdsaILow s = ecdsaILowB s := hide_eq _

noncomputable def ecdsaCheckB (s : Nat × Nat × Bool) : Option (Int) :=
  (ecdsaIFit s.1).bind fun r1 =>
  bif (!r1) then
    some (61 : Int)
  else
    (ecdsaIFit s.2.1).bind fun r2 =>
    bif (!r2) then
      some (62 : Int)
    else
      (ecdsaILow s.2.1).bind fun r3 =>
      bif (!r3) then
        some (63 : Int)
      else
        some (0 : Int)

noncomputable def ecdsaCheck (s : Nat × Nat × Bool) : Option (Int) := hide (ecdsaCheckB s)

theorem ecdsaCheck_eq (s : Nat × Nat × Bool) : ecdsaCheck s = ecdsaCheckB s := hide_eq _

end Go.Sy
