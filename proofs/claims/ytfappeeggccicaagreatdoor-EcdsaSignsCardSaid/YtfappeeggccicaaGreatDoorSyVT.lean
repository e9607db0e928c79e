/- Typed functions, printed by a program out of the code: what each function of the code computes. -/
import Derived.Test.YtfappeeggccicaaGreatDoorSyKa
set_option linter.unusedVariables false
noncomputable section
namespace Go.Sy
open Go
def strC0 : List UInt8 := [0, 1, 2, 2, 3, 3, 3, 3, 4, 4, 4, 4, 4, 4, 4, 4, 5, 5, 5, 5, 5, 5, 5, 5, 5, 5, 5, 5, 5, 5, 5, 5, 6, 6, 6, 6, 6, 6, 6, 6, 6, 6, 6, 6, 6, 6, 6, 6, 6, 6, 6, 6, 6, 6, 6, 6, 6, 6, 6, 6, 6, 6, 6, 6, 7, 7, 7, 7, 7, 7, 7, 7, 7, 7, 7, 7, 7, 7, 7, 7, 7, 7, 7, 7, 7, 7, 7, 7, 7, 7, 7, 7, 7, 7, 7, 7, 7, 7, 7, 7, 7, 7, 7, 7, 7, 7, 7, 7, 7, 7, 7, 7, 7, 7, 7, 7, 7, 7, 7, 7, 7, 7, 7, 7, 7, 7, 7, 7, 8, 8, 8, 8, 8, 8, 8, 8, 8, 8, 8, 8, 8, 8, 8, 8, 8, 8, 8, 8, 8, 8, 8, 8, 8, 8, 8, 8, 8, 8, 8, 8, 8, 8, 8, 8, 8, 8, 8, 8, 8, 8, 8, 8, 8, 8, 8, 8, 8, 8, 8, 8, 8, 8, 8, 8, 8, 8, 8, 8, 8, 8, 8, 8, 8, 8, 8, 8, 8, 8, 8, 8, 8, 8, 8, 8, 8, 8, 8, 8, 8, 8, 8, 8, 8, 8, 8, 8, 8, 8, 8, 8, 8, 8, 8, 8, 8, 8, 8, 8, 8, 8, 8, 8, 8, 8, 8, 8, 8, 8, 8, 8, 8, 8, 8, 8, 8, 8, 8, 8, 8, 8, 8, 8, 8, 8, 8, 8]
def fieldIOfB (k : Int) : Option ((Nat × Nat) × Int) :=
 bif (decide (k < (0 : Int))) then
  some ((0, 0), (1 : Int))
 else
  bif (decide (k ≥ (2 : Int))) then
   some ((0, 0), (1 : Int))
  else
   bif decide (0 ≤ k) then
    bif Nat.blt (Int.toNat k) 2 then
     bif Nat.blt (Int.toNat k) 2 then
      some ((fieldModuli.getD (Int.toNat k) ((0, 0) : Nat × Nat)), (0 : Int))
     else none
    else none
   else none
def fieldIOf (k : Int) : Option ((Nat × Nat) × Int) := hide (fieldIOfB k)
theorem fieldIOf_eq (k : Int) : fieldIOf k = fieldIOfB k := hide_eq _
def fieldModulusB (k : Int) : Option (Nat × Int) :=
 (fieldIOf k).bind fun r1 =>
 some (r1.1.1, r1.2)
def fieldModulus (k : Int) : Option (Nat × Int) := hide (fieldModulusB k)
theorem fieldModulus_eq (k : Int) : fieldModulus k = fieldModulusB k := hide_eq _
def u256AddB (x : Nat) (y : Nat) : Option (Nat × Int) :=
 (bitsAdd64 (limb x 0) (limb y 0) (0 : Int)).bind fun r1 =>
 bif inU64 r1.1 then
  (bitsAdd64 (limb x 1) (limb y 1) r1.2).bind fun r2 =>
  bif inU64 r2.1 then
   (bitsAdd64 (limb x 2) (limb y 2) r2.2).bind fun r3 =>
   bif inU64 r3.1 then
    (bitsAdd64 (limb x 3) (limb y 3) r3.2).bind fun r4 =>
    bif inU64 r4.1 then
     some ((setLimb (setLimb (setLimb (setLimb 0 0 r1.1) 1 r2.1) 2 r3.1) 3 r4.1), r4.2)
    else none
   else none
  else none
 else none
def u256Add (x : Nat) (y : Nat) : Option (Nat × Int) := hide (u256AddB x y)
theorem u256Add_eq (x : Nat) (y : Nat) : u256Add x y = u256AddB x y := hide_eq _
def u256FromB (v : Int) : Option (Nat) :=
 bif inU64 v then
  some (setLimb 0 0 v)
 else none
def u256From (v : Int) : Option (Nat) := hide (u256FromB v)
theorem u256From_eq (v : Int) : u256From v = u256FromB v := hide_eq _
def bitsMul64B (x : Int) (y : Int) : Option (Int × Int) :=
 some ((IntKind.wrap .u64 ((IntKind.wrap .u64 ((IntKind.wrap .u64 ((shrI .u64 x 32) * (shrI .u64 y 32))) + (shrI .u64 (IntKind.wrap .u64 ((IntKind.wrap .u64 ((shrI .u64 x 32) * (andI .u64 y (4294967295 : Int)))) + (shrI .u64 (IntKind.wrap .u64 ((andI .u64 x (4294967295 : Int)) * (andI .u64 y (4294967295 : Int)))) 32))) 32))) + (shrI .u64 (IntKind.wrap .u64 ((andI .u64 (IntKind.wrap .u64 ((IntKind.wrap .u64 ((shrI .u64 x 32) * (andI .u64 y (4294967295 : Int)))) + (shrI .u64 (IntKind.wrap .u64 ((andI .u64 x (4294967295 : Int)) * (andI .u64 y (4294967295 : Int)))) 32))) (4294967295 : Int)) + (IntKind.wrap .u64 ((andI .u64 x (4294967295 : Int)) * (shrI .u64 y 32))))) 32))), (IntKind.wrap .u64 (x * y)))
def bitsMul64 (x : Int) (y : Int) : Option (Int × Int) := hide (bitsMul64B x y)
theorem bitsMul64_eq (x : Int) (y : Int) : bitsMul64 x y = bitsMul64B x y := hide_eq _
def u256MulL1R (i : Int) (over : Int) (s13 : Int) (s16 : Int) (x : Nat) (y : Nat) (high : Nat) (low : Nat) (all : List Int) : Option ((Int × Int × Int × Int × Nat × Nat × Nat × Nat × List Int) ⊕ (Int × Int × Int × Nat × Nat × Nat × Nat × List Int)) :=
 bif (decide (s16 < (4 : Int))) then
  bif decide (0 ≤ i) then
   bif Nat.blt (Int.toNat i) 4 then
    bif Nat.blt (Int.toNat i) 4 then
     bif decide (0 ≤ s16) then
      bif Nat.blt (Int.toNat s16) 4 then
       bif Nat.blt (Int.toNat s16) 4 then
        (bitsMul64 (limb x (Int.toNat i)) (limb y (Int.toNat s16))).bind fun r4 =>
        bif decide (0 ≤ (IntKind.wrap .i64 (i + s16))) then
         bif Nat.blt (Int.toNat (IntKind.wrap .i64 (i + s16))) 8 then
          bif Nat.blt (Int.toNat (IntKind.wrap .i64 (i + s16))) 8 then
           (bitsAdd64 r4.2 (all.getD (Int.toNat (IntKind.wrap .i64 (i + s16))) (0 : Int)) (0 : Int)).bind fun r5 =>
           (bitsAdd64 r5.1 over (0 : Int)).bind fun r6 =>
           bif decide (0 ≤ (IntKind.wrap .i64 (i + s16))) then
            bif Nat.blt (Int.toNat (IntKind.wrap .i64 (i + s16))) 8 then
             bif Nat.blt (Int.toNat (IntKind.wrap .i64 (i + s16))) 8 then
              some (.inl (i, (IntKind.wrap .u64 ((IntKind.wrap .u64 (r4.1 + r5.2)) + r6.2)), s13, (IntKind.wrap .i64 (s16 + (1 : Int))), x, y, high, low, (all.set (Int.toNat (IntKind.wrap .i64 (i + s16))) r6.1)))
             else none
            else none
           else none
          else none
         else none
        else none
       else none
      else none
     else none
    else none
   else none
  else none
 else
  some (.inr (i, over, s13, x, y, high, low, all))
def u256MulL1 (i : Int) (over : Int) (s13 : Int) (s16 : Int) (x : Nat) (y : Nat) (high : Nat) (low : Nat) (all : List Int) : Option (Int × Int × Int × Nat × Nat × Nat × Nat × List Int) := hide (iter (fun p : Int × Int × Int × Int × Nat × Nat × Nat × Nat × List Int => u256MulL1R p.1 p.2.1 p.2.2.1 p.2.2.2.1 p.2.2.2.2.1 p.2.2.2.2.2.1 p.2.2.2.2.2.2.1 p.2.2.2.2.2.2.2.1 p.2.2.2.2.2.2.2.2) (1000) (i, over, s13, s16, x, y, high, low, all))
theorem u256MulL1_eq (i : Int) (over : Int) (s13 : Int) (s16 : Int) (x : Nat) (y : Nat) (high : Nat) (low : Nat) (all : List Int) : u256MulL1 i over s13 s16 x y high low all = iter (fun p : Int × Int × Int × Int × Nat × Nat × Nat × Nat × List Int => u256MulL1R p.1 p.2.1 p.2.2.1 p.2.2.2.1 p.2.2.2.2.1 p.2.2.2.2.2.1 p.2.2.2.2.2.2.1 p.2.2.2.2.2.2.2.1 p.2.2.2.2.2.2.2.2) (1000) (i, over, s13, s16, x, y, high, low, all) := hide_eq _
def u256MulL0R (s13 : Int) (x : Nat) (y : Nat) (high : Nat) (low : Nat) (all : List Int) : Option ((Int × Nat × Nat × Nat × Nat × List Int) ⊕ (Nat × Nat × List Int)) :=
 bif (decide (s13 < (4 : Int))) then
  (u256MulL1 s13 (0 : Int) s13 (0 : Int) x y high low all).bind fun q8 =>
  bif decide (0 ≤ (IntKind.wrap .i64 (q8.1 + (4 : Int)))) then
   bif Nat.blt (Int.toNat (IntKind.wrap .i64 (q8.1 + (4 : Int)))) 8 then
    bif Nat.blt (Int.toNat (IntKind.wrap .i64 (q8.1 + (4 : Int)))) 8 then
     some (.inl ((IntKind.wrap .i64 (q8.2.2.1 + (1 : Int))), q8.2.2.2.1, q8.2.2.2.2.1, q8.2.2.2.2.2.1, q8.2.2.2.2.2.2.1, (q8.2.2.2.2.2.2.2.set (Int.toNat (IntKind.wrap .i64 (q8.1 + (4 : Int)))) q8.2.1)))
    else none
   else none
  else none
 else
  some (.inr (high, low, all))
def u256MulL0 (s13 : Int) (x : Nat) (y : Nat) (high : Nat) (low : Nat) (all : List Int) : Option (Nat × Nat × List Int) := hide (iter (fun p : Int × Nat × Nat × Nat × Nat × List Int => u256MulL0R p.1 p.2.1 p.2.2.1 p.2.2.2.1 p.2.2.2.2.1 p.2.2.2.2.2) (1000) (s13, x, y, high, low, all))
theorem u256MulL0_eq (s13 : Int) (x : Nat) (y : Nat) (high : Nat) (low : Nat) (all : List Int) : u256MulL0 s13 x y high low all = iter (fun p : Int × Nat × Nat × Nat × Nat × List Int => u256MulL0R p.1 p.2.1 p.2.2.1 p.2.2.2.1 p.2.2.2.2.1 p.2.2.2.2.2) (1000) (s13, x, y, high, low, all) := hide_eq _
def u256MulB (x : Nat) (y : Nat) : Option (Nat × Nat) :=
 (u256MulL0 (0 : Int) x y 0 0 (List.replicate 8 (0 : Int))).bind fun q9 =>
 bif (List.all (spliceL (limbs q9.2.1) 0 (List.take 4 (List.take 4 (List.drop 0 q9.2.2)))) inU64) then
  bif (List.all (spliceL (limbs q9.1) 0 (List.take 4 (List.take 4 (List.drop 4 q9.2.2)))) inU64) then
   some ((ofLimbs (spliceL (limbs q9.1) 0 (List.take 4 (List.take 4 (List.drop 4 q9.2.2))))), (ofLimbs (spliceL (limbs q9.2.1) 0 (List.take 4 (List.take 4 (List.drop 0 q9.2.2))))))
  else none
 else none
def u256Mul (x : Nat) (y : Nat) : Option (Nat × Nat) := hide (u256MulB x y)
theorem u256Mul_eq (x : Nat) (y : Nat) : u256Mul x y = u256MulB x y := hide_eq _
def u256SubB (x : Nat) (y : Nat) : Option (Nat × Int) :=
 (bitsSub64 (limb x 0) (limb y 0) (0 : Int)).bind fun r1 =>
 bif inU64 r1.1 then
  (bitsSub64 (limb x 1) (limb y 1) r1.2).bind fun r2 =>
  bif inU64 r2.1 then
   (bitsSub64 (limb x 2) (limb y 2) r2.2).bind fun r3 =>
   bif inU64 r3.1 then
    (bitsSub64 (limb x 3) (limb y 3) r3.2).bind fun r4 =>
    bif inU64 r4.1 then
     some ((setLimb (setLimb (setLimb (setLimb 0 0 r1.1) 1 r2.1) 2 r3.1) 3 r4.1), r4.2)
    else none
   else none
  else none
 else none
def u256Sub (x : Nat) (y : Nat) : Option (Nat × Int) := hide (u256SubB x y)
theorem u256Sub_eq (x : Nat) (y : Nat) : u256Sub x y = u256SubB x y := hide_eq _
def u256CmpB (x : Nat) (y : Nat) : Option (Int) :=
 bif (u256eq x y) then
  some (0 : Int)
 else
  (u256Sub x y).bind fun r1 =>
  bif (r1.2 == (1 : Int)) then
   some (-1 : Int)
  else
   some (1 : Int)
def u256Cmp (x : Nat) (y : Nat) : Option (Int) := hide (u256CmpB x y)
theorem u256Cmp_eq (x : Nat) (y : Nat) : u256Cmp x y = u256CmpB x y := hide_eq _
def fieldModulusFoldL0R (f : Nat × Nat) (high : Nat) (low : Nat) (b6 : Nat) : Option (((Nat × Nat) × Nat × Nat × Nat) ⊕ ((Nat × Nat) × Nat × Nat)) :=
 bif (!(u256eq high 0)) then
  (u256Mul high f.2).bind fun r5 =>
  (u256Add low r5.2).bind fun r6 =>
  (u256From r6.2).bind fun r7 =>
  (u256Add r5.1 r7).bind fun r8 =>
  some (.inl (f, r8.1, r6.1, b6))
 else
  some (.inr (f, low, b6))
def fieldModulusFoldL0 (f : Nat × Nat) (high : Nat) (low : Nat) (b6 : Nat) : Option ((Nat × Nat) × Nat × Nat) := hide (iter (fun p : (Nat × Nat) × Nat × Nat × Nat => fieldModulusFoldL0R p.1 p.2.1 p.2.2.1 p.2.2.2) (1000) (f, high, low, b6))
theorem fieldModulusFoldL0_eq (f : Nat × Nat) (high : Nat) (low : Nat) (b6 : Nat) : fieldModulusFoldL0 f high low b6 = iter (fun p : (Nat × Nat) × Nat × Nat × Nat => fieldModulusFoldL0R p.1 p.2.1 p.2.2.1 p.2.2.2) (1000) (f, high, low, b6) := hide_eq _
def fieldModulusFoldL1R (f : Nat × Nat) (low : Nat) (b6 : Nat) : Option (((Nat × Nat) × Nat × Nat) ⊕ (Nat × Nat)) :=
 (u256Cmp low f.1).bind fun r12 =>
 bif (decide (r12 ≥ (0 : Int))) then
  (u256Sub low f.1).bind fun r13 =>
  some (.inl (f, r13.1, b6))
 else
  some (.inr (low, b6))
def fieldModulusFoldL1 (f : Nat × Nat) (low : Nat) (b6 : Nat) : Option (Nat × Nat) := hide (iter (fun p : (Nat × Nat) × Nat × Nat => fieldModulusFoldL1R p.1 p.2.1 p.2.2) (1000) (f, low, b6))
theorem fieldModulusFoldL1_eq (f : Nat × Nat) (low : Nat) (b6 : Nat) : fieldModulusFoldL1 f low b6 = iter (fun p : (Nat × Nat) × Nat × Nat => fieldModulusFoldL1R p.1 p.2.1 p.2.2) (1000) (f, low, b6) := hide_eq _
def fieldModulusFoldB (f : Nat × Nat) (high : Nat) (low : Nat) : Option (Nat) :=
 (fieldModulusFoldL0 f high low 0).bind fun q9 =>
 (fieldModulusFoldL1 q9.1 q9.2.1 q9.2.2).bind fun q14 =>
 some q14.1
def fieldModulusFold (f : Nat × Nat) (high : Nat) (low : Nat) : Option (Nat) := hide (fieldModulusFoldB f high low)
theorem fieldModulusFold_eq (f : Nat × Nat) (high : Nat) (low : Nat) : fieldModulusFold f high low = fieldModulusFoldB f high low := hide_eq _
def fieldModulusAddB (f : Nat × Nat) (x : Nat) (y : Nat) : Option (Nat) :=
 (u256Add x y).bind fun r1 =>
 (u256From r1.2).bind fun r2 =>
 (fieldModulusFold f r2 r1.1).bind fun r3 =>
 some r3
def fieldModulusAdd (f : Nat × Nat) (x : Nat) (y : Nat) : Option (Nat) := hide (fieldModulusAddB f x y)
theorem fieldModulusAdd_eq (f : Nat × Nat) (x : Nat) (y : Nat) : fieldModulusAdd f x y = fieldModulusAddB f x y := hide_eq _
def fieldAddB (k : Int) (x : Nat) (y : Nat) : Option (Nat × Int) :=
 (fieldIOf k).bind fun r1 =>
 bif (r1.2 != (0 : Int)) then
  some (0, r1.2)
 else
  (fieldModulusAdd r1.1 x y).bind fun r2 =>
  some (r2, (0 : Int))
def fieldAdd (k : Int) (x : Nat) (y : Nat) : Option (Nat × Int) := hide (fieldAddB k x y)
theorem fieldAdd_eq (k : Int) (x : Nat) (y : Nat) : fieldAdd k x y = fieldAddB k x y := hide_eq _
def fieldModulusOneB (f : Nat × Nat) (x : Nat) : Option (Nat) :=
 (fieldModulusFold f 0 x).bind fun r1 =>
 some r1
def fieldModulusOne (f : Nat × Nat) (x : Nat) : Option (Nat) := hide (fieldModulusOneB f x)
theorem fieldModulusOne_eq (f : Nat × Nat) (x : Nat) : fieldModulusOne f x = fieldModulusOneB f x := hide_eq _
def fieldModulusNegB (f : Nat × Nat) (x : Nat) : Option (Nat) :=
 (fieldModulusOne f x).bind fun r1 =>
 (u256Sub f.1 r1).bind fun r2 =>
 (fieldModulusOne f r2.1).bind fun r3 =>
 some r3
def fieldModulusNeg (f : Nat × Nat) (x : Nat) : Option (Nat) := hide (fieldModulusNegB f x)
theorem fieldModulusNeg_eq (f : Nat × Nat) (x : Nat) : fieldModulusNeg f x = fieldModulusNegB f x := hide_eq _
def fieldSubB (k : Int) (x : Nat) (y : Nat) : Option (Nat × Int) :=
 (fieldIOf k).bind fun r1 =>
 bif (r1.2 != (0 : Int)) then
  some (0, r1.2)
 else
  (fieldModulusNeg r1.1 y).bind fun r2 =>
  (fieldModulusAdd r1.1 x r2).bind fun r3 =>
  some (r3, (0 : Int))
def fieldSub (k : Int) (x : Nat) (y : Nat) : Option (Nat × Int) := hide (fieldSubB k x y)
theorem fieldSub_eq (k : Int) (x : Nat) (y : Nat) : fieldSub k x y = fieldSubB k x y := hide_eq _
def fieldNegB (k : Int) (x : Nat) : Option (Nat × Int) :=
 (fieldIOf k).bind fun r1 =>
 bif (r1.2 != (0 : Int)) then
  some (0, r1.2)
 else
  (fieldModulusNeg r1.1 x).bind fun r2 =>
  some (r2, (0 : Int))
def fieldNeg (k : Int) (x : Nat) : Option (Nat × Int) := hide (fieldNegB k x)
theorem fieldNeg_eq (k : Int) (x : Nat) : fieldNeg k x = fieldNegB k x := hide_eq _
def fieldModulusMulB (f : Nat × Nat) (x : Nat) (y : Nat) : Option (Nat) :=
 (u256Mul x y).bind fun r1 =>
 (fieldModulusFold f r1.1 r1.2).bind fun r2 =>
 some r2
def fieldModulusMul (f : Nat × Nat) (x : Nat) (y : Nat) : Option (Nat) := hide (fieldModulusMulB f x y)
theorem fieldModulusMul_eq (f : Nat × Nat) (x : Nat) (y : Nat) : fieldModulusMul f x y = fieldModulusMulB f x y := hide_eq _
def fieldMulB (k : Int) (x : Nat) (y : Nat) : Option (Nat × Int) :=
 (fieldIOf k).bind fun r1 =>
 bif (r1.2 != (0 : Int)) then
  some (0, r1.2)
 else
  (fieldModulusMul r1.1 x y).bind fun r2 =>
  some (r2, (0 : Int))
def fieldMul (k : Int) (x : Nat) (y : Nat) : Option (Nat × Int) := hide (fieldMulB k x y)
theorem fieldMul_eq (k : Int) (x : Nat) (y : Nat) : fieldMul k x y = fieldMulB k x y := hide_eq _
def bitsLen64B (x : Int) : Option (Int) :=
 bif (decide (x ≥ (4294967296 : Int))) then
  bif (decide ((shrI .u64 x 32) ≥ (65536 : Int))) then
   bif (decide ((shrI .u64 (shrI .u64 x 32) 16) ≥ (256 : Int))) then
    bif decide (0 ≤ (IntKind.wrap .u8 (shrI .u64 (shrI .u64 (shrI .u64 x 32) 16) 8))) then
     bif Nat.blt (Int.toNat (IntKind.wrap .u8 (shrI .u64 (shrI .u64 (shrI .u64 x 32) 16) 8))) strC0.length then
      some (IntKind.wrap .i64 ((56 : Int) + (IntKind.wrap .i64 (((List.getD strC0 (Int.toNat (IntKind.wrap .u8 (shrI .u64 (shrI .u64 (shrI .u64 x 32) 16) 8))) 0).toNat : Nat) : Int))))
     else none
    else none
   else
    bif decide (0 ≤ (IntKind.wrap .u8 (shrI .u64 (shrI .u64 x 32) 16))) then
     bif Nat.blt (Int.toNat (IntKind.wrap .u8 (shrI .u64 (shrI .u64 x 32) 16))) strC0.length then
      some (IntKind.wrap .i64 ((48 : Int) + (IntKind.wrap .i64 (((List.getD strC0 (Int.toNat (IntKind.wrap .u8 (shrI .u64 (shrI .u64 x 32) 16))) 0).toNat : Nat) : Int))))
     else none
    else none
  else
   bif (decide ((shrI .u64 x 32) ≥ (256 : Int))) then
    bif decide (0 ≤ (IntKind.wrap .u8 (shrI .u64 (shrI .u64 x 32) 8))) then
     bif Nat.blt (Int.toNat (IntKind.wrap .u8 (shrI .u64 (shrI .u64 x 32) 8))) strC0.length then
      some (IntKind.wrap .i64 ((40 : Int) + (IntKind.wrap .i64 (((List.getD strC0 (Int.toNat (IntKind.wrap .u8 (shrI .u64 (shrI .u64 x 32) 8))) 0).toNat : Nat) : Int))))
     else none
    else none
   else
    bif decide (0 ≤ (IntKind.wrap .u8 (shrI .u64 x 32))) then
     bif Nat.blt (Int.toNat (IntKind.wrap .u8 (shrI .u64 x 32))) strC0.length then
      some (IntKind.wrap .i64 ((32 : Int) + (IntKind.wrap .i64 (((List.getD strC0 (Int.toNat (IntKind.wrap .u8 (shrI .u64 x 32))) 0).toNat : Nat) : Int))))
     else none
    else none
 else
  bif (decide (x ≥ (65536 : Int))) then
   bif (decide ((shrI .u64 x 16) ≥ (256 : Int))) then
    bif decide (0 ≤ (IntKind.wrap .u8 (shrI .u64 (shrI .u64 x 16) 8))) then
     bif Nat.blt (Int.toNat (IntKind.wrap .u8 (shrI .u64 (shrI .u64 x 16) 8))) strC0.length then
      some (IntKind.wrap .i64 ((24 : Int) + (IntKind.wrap .i64 (((List.getD strC0 (Int.toNat (IntKind.wrap .u8 (shrI .u64 (shrI .u64 x 16) 8))) 0).toNat : Nat) : Int))))
     else none
    else none
   else
    bif decide (0 ≤ (IntKind.wrap .u8 (shrI .u64 x 16))) then
     bif Nat.blt (Int.toNat (IntKind.wrap .u8 (shrI .u64 x 16))) strC0.length then
      some (IntKind.wrap .i64 ((16 : Int) + (IntKind.wrap .i64 (((List.getD strC0 (Int.toNat (IntKind.wrap .u8 (shrI .u64 x 16))) 0).toNat : Nat) : Int))))
     else none
    else none
  else
   bif (decide (x ≥ (256 : Int))) then
    bif decide (0 ≤ (IntKind.wrap .u8 (shrI .u64 x 8))) then
     bif Nat.blt (Int.toNat (IntKind.wrap .u8 (shrI .u64 x 8))) strC0.length then
      some (IntKind.wrap .i64 ((8 : Int) + (IntKind.wrap .i64 (((List.getD strC0 (Int.toNat (IntKind.wrap .u8 (shrI .u64 x 8))) 0).toNat : Nat) : Int))))
     else none
    else none
   else
    bif decide (0 ≤ (IntKind.wrap .u8 x)) then
     bif Nat.blt (Int.toNat (IntKind.wrap .u8 x)) strC0.length then
      some (IntKind.wrap .i64 ((0 : Int) + (IntKind.wrap .i64 (((List.getD strC0 (Int.toNat (IntKind.wrap .u8 x)) 0).toNat : Nat) : Int))))
     else none
    else none
def bitsLen64 (x : Int) : Option (Int) := hide (bitsLen64B x)
theorem bitsLen64_eq (x : Int) : bitsLen64 x = bitsLen64B x := hide_eq _
def u256LenL0R (i : Int) (x : Nat) : Option ((Int × Nat) ⊕ (Int ⊕ Unit)) :=
 bif (decide (i ≥ (0 : Int))) then
  bif decide (0 ≤ i) then
   bif Nat.blt (Int.toNat i) 4 then
    bif Nat.blt (Int.toNat i) 4 then
     bif ((limb x (Int.toNat i)) != (0 : Int)) then
      bif decide (0 ≤ i) then
       bif Nat.blt (Int.toNat i) 4 then
        bif Nat.blt (Int.toNat i) 4 then
         (bitsLen64 (limb x (Int.toNat i))).bind fun r2 =>
         some (.inr (.inl (IntKind.wrap .i64 ((IntKind.wrap .i64 ((64 : Int) * i)) + r2))))
        else none
       else none
      else none
     else
      some (.inl ((IntKind.wrap .i64 (i - (1 : Int))), x))
    else none
   else none
  else none
 else
  some (.inr (.inr ()))
def u256LenL0 (i : Int) (x : Nat) : Option (Int ⊕ Unit) := hide (iter (fun p : Int × Nat => u256LenL0R p.1 p.2) (1000) (i, x))
theorem u256LenL0_eq (i : Int) (x : Nat) : u256LenL0 i x = iter (fun p : Int × Nat => u256LenL0R p.1 p.2) (1000) (i, x) := hide_eq _
def u256LenB (x : Nat) : Option (Int) :=
 (u256LenL0 (3 : Int) x).bind fun q3 =>
 sumK q3 (fun q4 =>
  some q4)
  (fun q5 =>
  some (0 : Int))
def u256Len (x : Nat) : Option (Int) := hide (u256LenB x)
theorem u256Len_eq (x : Nat) : u256Len x = u256LenB x := hide_eq _
def u256BitB (x : Nat) (i : Int) : Option (Int) :=
 bif (decide (i < (0 : Int))) then
  some (0 : Int)
 else
  bif (decide (i > (255 : Int))) then
   some (0 : Int)
  else
   bif decide (0 ≤ (IntKind.wrap .i64 (Int.tdiv i (64 : Int)))) then
    bif Nat.blt (Int.toNat (IntKind.wrap .i64 (Int.tdiv i (64 : Int)))) 4 then
     bif Nat.blt (Int.toNat (IntKind.wrap .i64 (Int.tdiv i (64 : Int)))) 4 then
      bif decide ((Int.tmod i (64 : Int)) < 0) then
       none
      else
       some (IntKind.wrap .i64 (andI .u64 (shrI .u64 (limb x (Int.toNat (IntKind.wrap .i64 (Int.tdiv i (64 : Int))))) (Int.tmod i (64 : Int))) (1 : Int)))
     else none
    else none
   else none
def u256Bit (x : Nat) (i : Int) : Option (Int) := hide (u256BitB x i)
theorem u256Bit_eq (x : Nat) (i : Int) : u256Bit x i = u256BitB x i := hide_eq _
def fieldModulusExpL0R (i : Int) (f : Nat × Nat) (x : Nat) (e : Nat) (b6 : Nat) (z : Nat) : Option ((Int × (Nat × Nat) × Nat × Nat × Nat × Nat) ⊕ (Nat × Nat)) :=
 bif (decide (i ≥ (0 : Int))) then
  (fieldModulusMul f z z).bind fun r7 =>
  (u256Bit e i).bind fun r8 =>
  bif (r8 == (1 : Int)) then
   (fieldModulusMul f r7 x).bind fun r9 =>
   some (.inl ((IntKind.wrap .i64 (i - (1 : Int))), f, x, e, b6, r9))
  else
   some (.inl ((IntKind.wrap .i64 (i - (1 : Int))), f, x, e, b6, r7))
 else
  some (.inr (b6, z))
def fieldModulusExpL0 (i : Int) (f : Nat × Nat) (x : Nat) (e : Nat) (b6 : Nat) (z : Nat) : Option (Nat × Nat) := hide (iter (fun p : Int × (Nat × Nat) × Nat × Nat × Nat × Nat => fieldModulusExpL0R p.1 p.2.1 p.2.2.1 p.2.2.2.1 p.2.2.2.2.1 p.2.2.2.2.2) (1000) (i, f, x, e, b6, z))
theorem fieldModulusExpL0_eq (i : Int) (f : Nat × Nat) (x : Nat) (e : Nat) (b6 : Nat) (z : Nat) : fieldModulusExpL0 i f x e b6 z = iter (fun p : Int × (Nat × Nat) × Nat × Nat × Nat × Nat => fieldModulusExpL0R p.1 p.2.1 p.2.2.1 p.2.2.2.1 p.2.2.2.2.1 p.2.2.2.2.2) (1000) (i, f, x, e, b6, z) := hide_eq _
def fieldModulusExpB (f : Nat × Nat) (x : Nat) (e : Nat) : Option (Nat) :=
 (u256From (1 : Int)).bind fun r1 =>
 (fieldModulusOne f r1).bind fun r2 =>
 (u256Len e).bind fun r3 =>
 (fieldModulusExpL0 (IntKind.wrap .i64 (r3 - (1 : Int))) f x e 0 r2).bind fun q10 =>
 some q10.2
def fieldModulusExp (f : Nat × Nat) (x : Nat) (e : Nat) : Option (Nat) := hide (fieldModulusExpB f x e)
theorem fieldModulusExp_eq (f : Nat × Nat) (x : Nat) (e : Nat) : fieldModulusExp f x e = fieldModulusExpB f x e := hide_eq _
def fieldModulusInverseB (f : Nat × Nat) (x : Nat) : Option (Nat) :=
 (u256From (2 : Int)).bind fun r1 =>
 (u256Sub f.1 r1).bind fun r2 =>
 (fieldModulusExp f x r2.1).bind fun r3 =>
 some r3
def fieldModulusInverse (f : Nat × Nat) (x : Nat) : Option (Nat) := hide (fieldModulusInverseB f x)
theorem fieldModulusInverse_eq (f : Nat × Nat) (x : Nat) : fieldModulusInverse f x = fieldModulusInverseB f x := hide_eq _
def fieldInverseB (k : Int) (x : Nat) : Option (Nat × Int) :=
 (fieldIOf k).bind fun r1 =>
 bif (r1.2 != (0 : Int)) then
  some (0, r1.2)
 else
  (fieldModulusOne r1.1 x).bind fun r2 =>
  bif (u256eq r2 0) then
   some (0, (40 : Int))
  else
   (fieldModulusInverse r1.1 x).bind fun r3 =>
   some (r3, (0 : Int))
def fieldInverse (k : Int) (x : Nat) : Option (Nat × Int) := hide (fieldInverseB k x)
theorem fieldInverse_eq (k : Int) (x : Nat) : fieldInverse k x = fieldInverseB k x := hide_eq _
def fieldSquareB (k : Int) (x : Nat) : Option (Nat × Int) :=
 (fieldMul k x x).bind fun r1 =>
 some r1
def fieldSquare (k : Int) (x : Nat) : Option (Nat × Int) := hide (fieldSquareB k x)
theorem fieldSquare_eq (k : Int) (x : Nat) : fieldSquare k x = fieldSquareB k x := hide_eq _
def fieldReduceB (k : Int) (high : Nat) (low : Nat) : Option (Nat × Int) :=
 (fieldIOf k).bind fun r1 =>
 bif (r1.2 != (0 : Int)) then
  some (0, r1.2)
 else
  (fieldModulusFold r1.1 high low).bind fun r2 =>
  some (r2, (0 : Int))
def fieldReduce (k : Int) (high : Nat) (low : Nat) : Option (Nat × Int) := hide (fieldReduceB k high low)
theorem fieldReduce_eq (k : Int) (high : Nat) (low : Nat) : fieldReduce k high low = fieldReduceB k high low := hide_eq _
def ref04IGoodB (k : Int) : Option (Bool) :=
 bif (k == (0 : Int)) then
  some true
 else
  some (k == (1 : Int))
def ref04IGood (k : Int) : Option (Bool) := hide (ref04IGoodB k)
theorem ref04IGood_eq (k : Int) : ref04IGood k = ref04IGoodB k := hide_eq _
def ref04IModulusB (k : Int) : Option (Nat) :=
 bif (k == (0 : Int)) then
  some 115792089237316195423570985008687907853269984665640564039457584007908834671663
 else
  some 115792089237316195423570985008687907852837564279074904382605163141518161494337
def ref04IModulus (k : Int) : Option (Nat) := hide (ref04IModulusB k)
theorem ref04IModulus_eq (k : Int) : ref04IModulus k = ref04IModulusB k := hide_eq _
def ref04ModulusB (k : Int) : Option (Nat × Int) :=
 (ref04IGood k).bind fun r1 =>
 bif (!r1) then
  some (0, (1 : Int))
 else
  (ref04IModulus k).bind fun r2 =>
  some (r2, (0 : Int))
def ref04Modulus (k : Int) : Option (Nat × Int) := hide (ref04ModulusB k)
theorem ref04Modulus_eq (k : Int) : ref04Modulus k = ref04ModulusB k := hide_eq _
def ref01IDigitsB (x : Nat) : Option (List Int) :=
 some (((((((((List.replicate 8 (0 : Int)).set 0 (Int.tmod (limb x 0) (4294967296 : Int))).set 1 (IntKind.wrap .u64 (Int.tdiv (limb x 0) (4294967296 : Int)))).set 2 (Int.tmod (limb x 1) (4294967296 : Int))).set 3 (IntKind.wrap .u64 (Int.tdiv (limb x 1) (4294967296 : Int)))).set 4 (Int.tmod (limb x 2) (4294967296 : Int))).set 5 (IntKind.wrap .u64 (Int.tdiv (limb x 2) (4294967296 : Int)))).set 6 (Int.tmod (limb x 3) (4294967296 : Int))).set 7 (IntKind.wrap .u64 (Int.tdiv (limb x 3) (4294967296 : Int))))
def ref01IDigits (x : Nat) : Option (List Int) := hide (ref01IDigitsB x)
theorem ref01IDigits_eq (x : Nat) : ref01IDigits x = ref01IDigitsB x := hide_eq _
def ref01INumberB (d : List Int) : Option (Nat) :=
 bif inU64 (IntKind.wrap .u64 ((d.getD 0 (0 : Int)) + (IntKind.wrap .u64 ((4294967296 : Int) * (d.getD 1 (0 : Int)))))) then
  bif inU64 (IntKind.wrap .u64 ((d.getD 2 (0 : Int)) + (IntKind.wrap .u64 ((4294967296 : Int) * (d.getD 3 (0 : Int)))))) then
   bif inU64 (IntKind.wrap .u64 ((d.getD 4 (0 : Int)) + (IntKind.wrap .u64 ((4294967296 : Int) * (d.getD 5 (0 : Int)))))) then
    bif inU64 (IntKind.wrap .u64 ((d.getD 6 (0 : Int)) + (IntKind.wrap .u64 ((4294967296 : Int) * (d.getD 7 (0 : Int)))))) then
     some (setLimb (setLimb (setLimb (setLimb 0 0 (IntKind.wrap .u64 ((d.getD 0 (0 : Int)) + (IntKind.wrap .u64 ((4294967296 : Int) * (d.getD 1 (0 : Int))))))) 1 (IntKind.wrap .u64 ((d.getD 2 (0 : Int)) + (IntKind.wrap .u64 ((4294967296 : Int) * (d.getD 3 (0 : Int))))))) 2 (IntKind.wrap .u64 ((d.getD 4 (0 : Int)) + (IntKind.wrap .u64 ((4294967296 : Int) * (d.getD 5 (0 : Int))))))) 3 (IntKind.wrap .u64 ((d.getD 6 (0 : Int)) + (IntKind.wrap .u64 ((4294967296 : Int) * (d.getD 7 (0 : Int)))))))
    else none
   else none
  else none
 else none
def ref01INumber (d : List Int) : Option (Nat) := hide (ref01INumberB d)
theorem ref01INumber_eq (d : List Int) : ref01INumber d = ref01INumberB d := hide_eq _
def ref01AddL0R (carry : Int) (i : Int) (b4 : Nat) (a : List Int) (b : List Int) : Option ((Int × Int × Nat × List Int × List Int) ⊕ (Int × Nat × List Int)) :=
 bif (decide (i < (8 : Int))) then
  bif decide (0 ≤ i) then
   bif Nat.blt (Int.toNat i) 8 then
    bif Nat.blt (Int.toNat i) 8 then
     bif decide (0 ≤ i) then
      bif Nat.blt (Int.toNat i) 8 then
       bif Nat.blt (Int.toNat i) 8 then
        bif decide (0 ≤ i) then
         bif Nat.blt (Int.toNat i) 8 then
          bif Nat.blt (Int.toNat i) 8 then
           some (.inl ((IntKind.wrap .u64 (Int.tdiv (IntKind.wrap .u64 ((IntKind.wrap .u64 ((a.getD (Int.toNat i) (0 : Int)) + (b.getD (Int.toNat i) (0 : Int)))) + carry)) (4294967296 : Int))), (IntKind.wrap .i64 (i + (1 : Int))), b4, (a.set (Int.toNat i) (Int.tmod (IntKind.wrap .u64 ((IntKind.wrap .u64 ((a.getD (Int.toNat i) (0 : Int)) + (b.getD (Int.toNat i) (0 : Int)))) + carry)) (4294967296 : Int))), b))
          else none
         else none
        else none
       else none
      else none
     else none
    else none
   else none
  else none
 else
  some (.inr (carry, b4, a))
def ref01AddL0 (carry : Int) (i : Int) (b4 : Nat) (a : List Int) (b : List Int) : Option (Int × Nat × List Int) := hide (iter (fun p : Int × Int × Nat × List Int × List Int => ref01AddL0R p.1 p.2.1 p.2.2.1 p.2.2.2.1 p.2.2.2.2) (1000) (carry, i, b4, a, b))
theorem ref01AddL0_eq (carry : Int) (i : Int) (b4 : Nat) (a : List Int) (b : List Int) : ref01AddL0 carry i b4 a b = iter (fun p : Int × Int × Nat × List Int × List Int => ref01AddL0R p.1 p.2.1 p.2.2.1 p.2.2.2.1 p.2.2.2.2) (1000) (carry, i, b4, a, b) := hide_eq _
def ref01AddB (x : Nat) (y : Nat) : Option (Nat × Int) :=
 (ref01IDigits x).bind fun r1 =>
 (ref01IDigits y).bind fun r2 =>
 (ref01AddL0 (0 : Int) (0 : Int) 0 r1 r2).bind fun q3 =>
 (ref01INumber q3.2.2).bind fun r4 =>
 some (r4, q3.1)
def ref01Add (x : Nat) (y : Nat) : Option (Nat × Int) := hide (ref01AddB x y)
theorem ref01Add_eq (x : Nat) (y : Nat) : ref01Add x y = ref01AddB x y := hide_eq _
def ref01FromB (v : Int) : Option (Nat) :=
 bif inU64 v then
  some (setLimb (setLimb (setLimb (setLimb 0 0 v) 1 0) 2 0) 3 0)
 else none
def ref01From (v : Int) : Option (Nat) := hide (ref01FromB v)
theorem ref01From_eq (v : Int) : ref01From v = ref01FromB v := hide_eq _
def ref01SubL0R (borrow : Int) (i : Int) (b4 : Nat) (a : List Int) (b : List Int) : Option ((Int × Int × Nat × List Int × List Int) ⊕ (Int × Nat × List Int)) :=
 bif (decide (i < (8 : Int))) then
  bif decide (0 ≤ i) then
   bif Nat.blt (Int.toNat i) 8 then
    bif Nat.blt (Int.toNat i) 8 then
     bif decide (0 ≤ i) then
      bif Nat.blt (Int.toNat i) 8 then
       bif Nat.blt (Int.toNat i) 8 then
        bif (decide ((a.getD (Int.toNat i) (0 : Int)) < (IntKind.wrap .u64 ((b.getD (Int.toNat i) (0 : Int)) + borrow)))) then
         bif decide (0 ≤ i) then
          bif Nat.blt (Int.toNat i) 8 then
           bif Nat.blt (Int.toNat i) 8 then
            bif decide (0 ≤ i) then
             bif Nat.blt (Int.toNat i) 8 then
              bif Nat.blt (Int.toNat i) 8 then
               bif decide (0 ≤ i) then
                bif Nat.blt (Int.toNat i) 8 then
                 bif Nat.blt (Int.toNat i) 8 then
                  bif decide (0 ≤ i) then
                   bif Nat.blt (Int.toNat i) 8 then
                    bif Nat.blt (Int.toNat i) 8 then
                     some (.inl ((1 : Int), (IntKind.wrap .i64 (i + (1 : Int))), b4, ((a.set (Int.toNat i) (IntKind.wrap .u64 ((a.getD (Int.toNat i) (0 : Int)) + (4294967296 : Int)))).set (Int.toNat i) (IntKind.wrap .u64 (((a.set (Int.toNat i) (IntKind.wrap .u64 ((a.getD (Int.toNat i) (0 : Int)) + (4294967296 : Int)))).getD (Int.toNat i) (0 : Int)) - (IntKind.wrap .u64 ((b.getD (Int.toNat i) (0 : Int)) + borrow))))), b))
                    else none
                   else none
                  else none
                 else none
                else none
               else none
              else none
             else none
            else none
           else none
          else none
         else none
        else
         bif decide (0 ≤ i) then
          bif Nat.blt (Int.toNat i) 8 then
           bif Nat.blt (Int.toNat i) 8 then
            bif decide (0 ≤ i) then
             bif Nat.blt (Int.toNat i) 8 then
              bif Nat.blt (Int.toNat i) 8 then
               some (.inl ((0 : Int), (IntKind.wrap .i64 (i + (1 : Int))), b4, (a.set (Int.toNat i) (IntKind.wrap .u64 ((a.getD (Int.toNat i) (0 : Int)) - (IntKind.wrap .u64 ((b.getD (Int.toNat i) (0 : Int)) + borrow))))), b))
              else none
             else none
            else none
           else none
          else none
         else none
       else none
      else none
     else none
    else none
   else none
  else none
 else
  some (.inr (borrow, b4, a))
def ref01SubL0 (borrow : Int) (i : Int) (b4 : Nat) (a : List Int) (b : List Int) : Option (Int × Nat × List Int) := hide (iter (fun p : Int × Int × Nat × List Int × List Int => ref01SubL0R p.1 p.2.1 p.2.2.1 p.2.2.2.1 p.2.2.2.2) (1000) (borrow, i, b4, a, b))
theorem ref01SubL0_eq (borrow : Int) (i : Int) (b4 : Nat) (a : List Int) (b : List Int) : ref01SubL0 borrow i b4 a b = iter (fun p : Int × Int × Nat × List Int × List Int => ref01SubL0R p.1 p.2.1 p.2.2.1 p.2.2.2.1 p.2.2.2.2) (1000) (borrow, i, b4, a, b) := hide_eq _
def ref01SubB (x : Nat) (y : Nat) : Option (Nat × Int) :=
 (ref01IDigits x).bind fun r1 =>
 (ref01IDigits y).bind fun r2 =>
 (ref01SubL0 (0 : Int) (0 : Int) 0 r1 r2).bind fun q3 =>
 (ref01INumber q3.2.2).bind fun r4 =>
 some (r4, q3.1)
def ref01Sub (x : Nat) (y : Nat) : Option (Nat × Int) := hide (ref01SubB x y)
theorem ref01Sub_eq (x : Nat) (y : Nat) : ref01Sub x y = ref01SubB x y := hide_eq _
def ref01MulL1R (i : Int) (carry : Int) (j : Int) (b4 : Nat) (b5 : Nat) (a : List Int) (b : List Int) (p : List Int) : Option ((Int × Int × Int × Nat × Nat × List Int × List Int × List Int) ⊕ (Int × Int × Nat × Nat × List Int × List Int × List Int)) :=
 bif (decide (j < (8 : Int))) then
  bif decide (0 ≤ (IntKind.wrap .i64 (i + j))) then
   bif Nat.blt (Int.toNat (IntKind.wrap .i64 (i + j))) 16 then
    bif Nat.blt (Int.toNat (IntKind.wrap .i64 (i + j))) 16 then
     bif decide (0 ≤ i) then
      bif Nat.blt (Int.toNat i) 8 then
       bif Nat.blt (Int.toNat i) 8 then
        bif decide (0 ≤ j) then
         bif Nat.blt (Int.toNat j) 8 then
          bif Nat.blt (Int.toNat j) 8 then
           bif decide (0 ≤ (IntKind.wrap .i64 (i + j))) then
            bif Nat.blt (Int.toNat (IntKind.wrap .i64 (i + j))) 16 then
             bif Nat.blt (Int.toNat (IntKind.wrap .i64 (i + j))) 16 then
              some (.inl (i, (IntKind.wrap .u64 (Int.tdiv (IntKind.wrap .u64 ((IntKind.wrap .u64 ((p.getD (Int.toNat (IntKind.wrap .i64 (i + j))) (0 : Int)) + (IntKind.wrap .u64 ((a.getD (Int.toNat i) (0 : Int)) * (b.getD (Int.toNat j) (0 : Int)))))) + carry)) (4294967296 : Int))), (IntKind.wrap .i64 (j + (1 : Int))), b4, b5, a, b, (p.set (Int.toNat (IntKind.wrap .i64 (i + j))) (Int.tmod (IntKind.wrap .u64 ((IntKind.wrap .u64 ((p.getD (Int.toNat (IntKind.wrap .i64 (i + j))) (0 : Int)) + (IntKind.wrap .u64 ((a.getD (Int.toNat i) (0 : Int)) * (b.getD (Int.toNat j) (0 : Int)))))) + carry)) (4294967296 : Int)))))
             else none
            else none
           else none
          else none
         else none
        else none
       else none
      else none
     else none
    else none
   else none
  else none
 else
  some (.inr (i, carry, b4, b5, a, b, p))
def ref01MulL1 (i : Int) (carry : Int) (j : Int) (b4 : Nat) (b5 : Nat) (a : List Int) (b : List Int) (p : List Int) : Option (Int × Int × Nat × Nat × List Int × List Int × List Int) := hide (iter (fun p : Int × Int × Int × Nat × Nat × List Int × List Int × List Int => ref01MulL1R p.1 p.2.1 p.2.2.1 p.2.2.2.1 p.2.2.2.2.1 p.2.2.2.2.2.1 p.2.2.2.2.2.2.1 p.2.2.2.2.2.2.2) (1000) (i, carry, j, b4, b5, a, b, p))
theorem ref01MulL1_eq (i : Int) (carry : Int) (j : Int) (b4 : Nat) (b5 : Nat) (a : List Int) (b : List Int) (p : List Int) : ref01MulL1 i carry j b4 b5 a b p = iter (fun p : Int × Int × Int × Nat × Nat × List Int × List Int × List Int => ref01MulL1R p.1 p.2.1 p.2.2.1 p.2.2.2.1 p.2.2.2.2.1 p.2.2.2.2.2.1 p.2.2.2.2.2.2.1 p.2.2.2.2.2.2.2) (1000) (i, carry, j, b4, b5, a, b, p) := hide_eq _
def ref01MulL0R (i : Int) (b4 : Nat) (b5 : Nat) (a : List Int) (b : List Int) (p : List Int) : Option ((Int × Nat × Nat × List Int × List Int × List Int) ⊕ (Nat × Nat × List Int)) :=
 bif (decide (i < (8 : Int))) then
  (ref01MulL1 i (0 : Int) (0 : Int) b4 b5 a b p).bind fun q4 =>
  bif decide (0 ≤ (IntKind.wrap .i64 (q4.1 + (8 : Int)))) then
   bif Nat.blt (Int.toNat (IntKind.wrap .i64 (q4.1 + (8 : Int)))) 16 then
    bif Nat.blt (Int.toNat (IntKind.wrap .i64 (q4.1 + (8 : Int)))) 16 then
     some (.inl ((IntKind.wrap .i64 (q4.1 + (1 : Int))), q4.2.2.1, q4.2.2.2.1, q4.2.2.2.2.1, q4.2.2.2.2.2.1, (q4.2.2.2.2.2.2.set (Int.toNat (IntKind.wrap .i64 (q4.1 + (8 : Int)))) q4.2.1)))
    else none
   else none
  else none
 else
  some (.inr (b4, b5, p))
def ref01MulL0 (i : Int) (b4 : Nat) (b5 : Nat) (a : List Int) (b : List Int) (p : List Int) : Option (Nat × Nat × List Int) := hide (iter (fun p : Int × Nat × Nat × List Int × List Int × List Int => ref01MulL0R p.1 p.2.1 p.2.2.1 p.2.2.2.1 p.2.2.2.2.1 p.2.2.2.2.2) (1000) (i, b4, b5, a, b, p))
theorem ref01MulL0_eq (i : Int) (b4 : Nat) (b5 : Nat) (a : List Int) (b : List Int) (p : List Int) : ref01MulL0 i b4 b5 a b p = iter (fun p : Int × Nat × Nat × List Int × List Int × List Int => ref01MulL0R p.1 p.2.1 p.2.2.1 p.2.2.2.1 p.2.2.2.2.1 p.2.2.2.2.2) (1000) (i, b4, b5, a, b, p) := hide_eq _
def ref01MulL2R (i : Int) (b4 : Nat) (b5 : Nat) (p : List Int) (low : List Int) (high : List Int) : Option ((Int × Nat × Nat × List Int × List Int × List Int) ⊕ (Nat × Nat × List Int × List Int)) :=
 bif (decide (i < (8 : Int))) then
  bif decide (0 ≤ i) then
   bif Nat.blt (Int.toNat i) 16 then
    bif Nat.blt (Int.toNat i) 16 then
     bif decide (0 ≤ i) then
      bif Nat.blt (Int.toNat i) 8 then
       bif Nat.blt (Int.toNat i) 8 then
        bif decide (0 ≤ (IntKind.wrap .i64 (i + (8 : Int)))) then
         bif Nat.blt (Int.toNat (IntKind.wrap .i64 (i + (8 : Int)))) 16 then
          bif Nat.blt (Int.toNat (IntKind.wrap .i64 (i + (8 : Int)))) 16 then
           bif decide (0 ≤ i) then
            bif Nat.blt (Int.toNat i) 8 then
             bif Nat.blt (Int.toNat i) 8 then
              some (.inl ((IntKind.wrap .i64 (i + (1 : Int))), b4, b5, p, (low.set (Int.toNat i) (p.getD (Int.toNat i) (0 : Int))), (high.set (Int.toNat i) (p.getD (Int.toNat (IntKind.wrap .i64 (i + (8 : Int)))) (0 : Int)))))
             else none
            else none
           else none
          else none
         else none
        else none
       else none
      else none
     else none
    else none
   else none
  else none
 else
  some (.inr (b4, b5, low, high))
def ref01MulL2 (i : Int) (b4 : Nat) (b5 : Nat) (p : List Int) (low : List Int) (high : List Int) : Option (Nat × Nat × List Int × List Int) := hide (iter (fun p : Int × Nat × Nat × List Int × List Int × List Int => ref01MulL2R p.1 p.2.1 p.2.2.1 p.2.2.2.1 p.2.2.2.2.1 p.2.2.2.2.2) (1000) (i, b4, b5, p, low, high))
theorem ref01MulL2_eq (i : Int) (b4 : Nat) (b5 : Nat) (p : List Int) (low : List Int) (high : List Int) : ref01MulL2 i b4 b5 p low high = iter (fun p : Int × Nat × Nat × List Int × List Int × List Int => ref01MulL2R p.1 p.2.1 p.2.2.1 p.2.2.2.1 p.2.2.2.2.1 p.2.2.2.2.2) (1000) (i, b4, b5, p, low, high) := hide_eq _
def ref01MulB (x : Nat) (y : Nat) : Option (Nat × Nat) :=
 (ref01IDigits x).bind fun r1 =>
 (ref01IDigits y).bind fun r2 =>
 (ref01MulL0 (0 : Int) 0 0 r1 r2 (List.replicate 16 (0 : Int))).bind fun q5 =>
 (ref01MulL2 (0 : Int) q5.1 q5.2.1 q5.2.2 (List.replicate 8 (0 : Int)) (List.replicate 8 (0 : Int))).bind fun q6 =>
 (ref01INumber q6.2.2.2).bind fun r7 =>
 (ref01INumber q6.2.2.1).bind fun r8 =>
 some (r7, r8)
def ref01Mul (x : Nat) (y : Nat) : Option (Nat × Nat) := hide (ref01MulB x y)
theorem ref01Mul_eq (x : Nat) (y : Nat) : ref01Mul x y = ref01MulB x y := hide_eq _
def ref01CmpL0R (i : Int) (x : Nat) (y : Nat) : Option ((Int × Nat × Nat) ⊕ (Int ⊕ Unit)) :=
 bif (decide (i ≥ (0 : Int))) then
  bif decide (0 ≤ i) then
   bif Nat.blt (Int.toNat i) 4 then
    bif Nat.blt (Int.toNat i) 4 then
     bif decide (0 ≤ i) then
      bif Nat.blt (Int.toNat i) 4 then
       bif Nat.blt (Int.toNat i) 4 then
        bif (decide ((limb x (Int.toNat i)) < (limb y (Int.toNat i)))) then
         some (.inr (.inl (-1 : Int)))
        else
         bif decide (0 ≤ i) then
          bif Nat.blt (Int.toNat i) 4 then
           bif Nat.blt (Int.toNat i) 4 then
            bif decide (0 ≤ i) then
             bif Nat.blt (Int.toNat i) 4 then
              bif Nat.blt (Int.toNat i) 4 then
               bif (decide ((limb x (Int.toNat i)) > (limb y (Int.toNat i)))) then
                some (.inr (.inl (1 : Int)))
               else
                some (.inl ((IntKind.wrap .i64 (i - (1 : Int))), x, y))
              else none
             else none
            else none
           else none
          else none
         else none
       else none
      else none
     else none
    else none
   else none
  else none
 else
  some (.inr (.inr ()))
def ref01CmpL0 (i : Int) (x : Nat) (y : Nat) : Option (Int ⊕ Unit) := hide (iter (fun p : Int × Nat × Nat => ref01CmpL0R p.1 p.2.1 p.2.2) (1000) (i, x, y))
theorem ref01CmpL0_eq (i : Int) (x : Nat) (y : Nat) : ref01CmpL0 i x y = iter (fun p : Int × Nat × Nat => ref01CmpL0R p.1 p.2.1 p.2.2) (1000) (i, x, y) := hide_eq _
def ref01CmpB (x : Nat) (y : Nat) : Option (Int) :=
 (ref01CmpL0 (3 : Int) x y).bind fun q1 =>
 sumK q1 (fun q2 =>
  some q2)
  (fun q3 =>
  some (0 : Int))
def ref01Cmp (x : Nat) (y : Nat) : Option (Int) := hide (ref01CmpB x y)
theorem ref01Cmp_eq (x : Nat) (y : Nat) : ref01Cmp x y = ref01CmpB x y := hide_eq _
def ref04IFoldL0R (high : Nat) (low : Nat) (b6 : Nat) (zeroV : Nat) (m : Nat) (c : Nat) : Option ((Nat × Nat × Nat × Nat × Nat × Nat) ⊕ (Nat × Nat × Nat)) :=
 bif (!(u256eq high zeroV)) then
  (ref01Mul high c).bind fun r7 =>
  (ref01Add r7.2 low).bind fun r8 =>
  (ref01From r8.2).bind fun r9 =>
  (ref01Add r7.1 r9).bind fun r10 =>
  some (.inl (r10.1, r8.1, b6, zeroV, m, c))
 else
  some (.inr (low, b6, m))
def ref04IFoldL0 (high : Nat) (low : Nat) (b6 : Nat) (zeroV : Nat) (m : Nat) (c : Nat) : Option (Nat × Nat × Nat) := hide (iter (fun p : Nat × Nat × Nat × Nat × Nat × Nat => ref04IFoldL0R p.1 p.2.1 p.2.2.1 p.2.2.2.1 p.2.2.2.2.1 p.2.2.2.2.2) (1000) (high, low, b6, zeroV, m, c))
theorem ref04IFoldL0_eq (high : Nat) (low : Nat) (b6 : Nat) (zeroV : Nat) (m : Nat) (c : Nat) : ref04IFoldL0 high low b6 zeroV m c = iter (fun p : Nat × Nat × Nat × Nat × Nat × Nat => ref04IFoldL0R p.1 p.2.1 p.2.2.1 p.2.2.2.1 p.2.2.2.2.1 p.2.2.2.2.2) (1000) (high, low, b6, zeroV, m, c) := hide_eq _
def ref04IFoldL1R (low : Nat) (b6 : Nat) (m : Nat) : Option ((Nat × Nat × Nat) ⊕ (Nat × Nat)) :=
 (ref01Cmp low m).bind fun r14 =>
 bif (decide (r14 ≥ (0 : Int))) then
  (ref01Sub low m).bind fun r15 =>
  some (.inl (r15.1, b6, m))
 else
  some (.inr (low, b6))
def ref04IFoldL1 (low : Nat) (b6 : Nat) (m : Nat) : Option (Nat × Nat) := hide (iter (fun p : Nat × Nat × Nat => ref04IFoldL1R p.1 p.2.1 p.2.2) (1000) (low, b6, m))
theorem ref04IFoldL1_eq (low : Nat) (b6 : Nat) (m : Nat) : ref04IFoldL1 low b6 m = iter (fun p : Nat × Nat × Nat => ref04IFoldL1R p.1 p.2.1 p.2.2) (1000) (low, b6, m) := hide_eq _
def ref04IFoldB (k : Int) (high : Nat) (low : Nat) : Option (Nat) :=
 (ref04IModulus k).bind fun r1 =>
 (ref01Sub 0 r1).bind fun r2 =>
 (ref04IFoldL0 high low 0 0 r1 r2.1).bind fun q11 =>
 (ref04IFoldL1 q11.1 q11.2.1 q11.2.2).bind fun q16 =>
 some q16.1
def ref04IFold (k : Int) (high : Nat) (low : Nat) : Option (Nat) := hide (ref04IFoldB k high low)
theorem ref04IFold_eq (k : Int) (high : Nat) (low : Nat) : ref04IFold k high low = ref04IFoldB k high low := hide_eq _
def ref04IPlusB (k : Int) (x : Nat) (y : Nat) : Option (Nat) :=
 (ref01Add x y).bind fun r1 =>
 (ref01From r1.2).bind fun r2 =>
 (ref04IFold k r2 r1.1).bind fun r3 =>
 some r3
def ref04IPlus (k : Int) (x : Nat) (y : Nat) : Option (Nat) := hide (ref04IPlusB k x y)
theorem ref04IPlus_eq (k : Int) (x : Nat) (y : Nat) : ref04IPlus k x y = ref04IPlusB k x y := hide_eq _
def ref04AddB (k : Int) (x : Nat) (y : Nat) : Option (Nat × Int) :=
 (ref04IGood k).bind fun r1 =>
 bif (!r1) then
  some (0, (1 : Int))
 else
  (ref04IPlus k x y).bind fun r2 =>
  some (r2, (0 : Int))
def ref04Add (k : Int) (x : Nat) (y : Nat) : Option (Nat × Int) := hide (ref04AddB k x y)
theorem ref04Add_eq (k : Int) (x : Nat) (y : Nat) : ref04Add k x y = ref04AddB k x y := hide_eq _
def ref04IBelowB (k : Int) (x : Nat) : Option (Nat) :=
 (ref04IFold k 0 x).bind fun r1 =>
 some r1
def ref04IBelow (k : Int) (x : Nat) : Option (Nat) := hide (ref04IBelowB k x)
theorem ref04IBelow_eq (k : Int) (x : Nat) : ref04IBelow k x = ref04IBelowB k x := hide_eq _
def ref04ILessB (k : Int) (x : Nat) : Option (Nat) :=
 (ref04IModulus k).bind fun r1 =>
 (ref04IBelow k x).bind fun r2 =>
 (ref01Sub r1 r2).bind fun r3 =>
 (ref04IBelow k r3.1).bind fun r4 =>
 some r4
def ref04ILess (k : Int) (x : Nat) : Option (Nat) := hide (ref04ILessB k x)
theorem ref04ILess_eq (k : Int) (x : Nat) : ref04ILess k x = ref04ILessB k x := hide_eq _
def ref04SubB (k : Int) (x : Nat) (y : Nat) : Option (Nat × Int) :=
 (ref04IGood k).bind fun r1 =>
 bif (!r1) then
  some (0, (1 : Int))
 else
  (ref04ILess k y).bind fun r2 =>
  (ref04IPlus k x r2).bind fun r3 =>
  some (r3, (0 : Int))
def ref04Sub (k : Int) (x : Nat) (y : Nat) : Option (Nat × Int) := hide (ref04SubB k x y)
theorem ref04Sub_eq (k : Int) (x : Nat) (y : Nat) : ref04Sub k x y = ref04SubB k x y := hide_eq _
def ref04ITimesB (k : Int) (x : Nat) (y : Nat) : Option (Nat) :=
 (ref01Mul x y).bind fun r1 =>
 (ref04IFold k r1.1 r1.2).bind fun r2 =>
 some r2
def ref04ITimes (k : Int) (x : Nat) (y : Nat) : Option (Nat) := hide (ref04ITimesB k x y)
theorem ref04ITimes_eq (k : Int) (x : Nat) (y : Nat) : ref04ITimes k x y = ref04ITimesB k x y := hide_eq _
def ref04MulB (k : Int) (x : Nat) (y : Nat) : Option (Nat × Int) :=
 (ref04IGood k).bind fun r1 =>
 bif (!r1) then
  some (0, (1 : Int))
 else
  (ref04ITimes k x y).bind fun r2 =>
  some (r2, (0 : Int))
def ref04Mul (k : Int) (x : Nat) (y : Nat) : Option (Nat × Int) := hide (ref04MulB k x y)
theorem ref04Mul_eq (k : Int) (x : Nat) (y : Nat) : ref04Mul k x y = ref04MulB k x y := hide_eq _
def ref01BitB (x : Nat) (i : Int) : Option (Int) :=
 bif (decide (i < (0 : Int))) then
  some (0 : Int)
 else
  bif (decide (i > (255 : Int))) then
   some (0 : Int)
  else
   bif decide (0 ≤ (IntKind.wrap .i64 (Int.tdiv i (64 : Int)))) then
    bif Nat.blt (Int.toNat (IntKind.wrap .i64 (Int.tdiv i (64 : Int)))) 4 then
     bif Nat.blt (Int.toNat (IntKind.wrap .i64 (Int.tdiv i (64 : Int)))) 4 then
      bif decide ((IntKind.wrap .u64 (Int.tmod i (64 : Int))) < 0) then
       none
      else
       some (IntKind.wrap .i64 (Int.tmod (shrI .u64 (limb x (Int.toNat (IntKind.wrap .i64 (Int.tdiv i (64 : Int))))) (IntKind.wrap .u64 (Int.tmod i (64 : Int)))) (2 : Int)))
     else none
    else none
   else none
def ref01Bit (x : Nat) (i : Int) : Option (Int) := hide (ref01BitB x i)
theorem ref01Bit_eq (x : Nat) (i : Int) : ref01Bit x i = ref01BitB x i := hide_eq _
def ref01LenL0R (i : Int) (x : Nat) : Option ((Int × Nat) ⊕ (Int ⊕ Unit)) :=
 bif (decide (i ≥ (0 : Int))) then
  (ref01Bit x i).bind fun r2 =>
  bif (r2 == (1 : Int)) then
   some (.inr (.inl (IntKind.wrap .i64 (i + (1 : Int)))))
  else
   some (.inl ((IntKind.wrap .i64 (i - (1 : Int))), x))
 else
  some (.inr (.inr ()))
def ref01LenL0 (i : Int) (x : Nat) : Option (Int ⊕ Unit) := hide (iter (fun p : Int × Nat => ref01LenL0R p.1 p.2) (1000) (i, x))
theorem ref01LenL0_eq (i : Int) (x : Nat) : ref01LenL0 i x = iter (fun p : Int × Nat => ref01LenL0R p.1 p.2) (1000) (i, x) := hide_eq _
def ref01LenB (x : Nat) : Option (Int) :=
 (ref01LenL0 (255 : Int) x).bind fun q3 =>
 sumK q3 (fun q4 =>
  some q4)
  (fun q5 =>
  some (0 : Int))
def ref01Len (x : Nat) : Option (Int) := hide (ref01LenB x)
theorem ref01Len_eq (x : Nat) : ref01Len x = ref01LenB x := hide_eq _
def ref04IPowerL0R (k : Int) (i : Int) (x : Nat) (e : Nat) (b6 : Nat) (z : Nat) : Option ((Int × Int × Nat × Nat × Nat × Nat) ⊕ (Nat × Nat)) :=
 bif (decide (i ≥ (0 : Int))) then
  (ref04ITimes k z z).bind fun r6 =>
  (ref01Bit e i).bind fun r7 =>
  bif (r7 == (1 : Int)) then
   (ref04ITimes k r6 x).bind fun r8 =>
   some (.inl (k, (IntKind.wrap .i64 (i - (1 : Int))), x, e, b6, r8))
  else
   some (.inl (k, (IntKind.wrap .i64 (i - (1 : Int))), x, e, b6, r6))
 else
  some (.inr (b6, z))
def ref04IPowerL0 (k : Int) (i : Int) (x : Nat) (e : Nat) (b6 : Nat) (z : Nat) : Option (Nat × Nat) := hide (iter (fun p : Int × Int × Nat × Nat × Nat × Nat => ref04IPowerL0R p.1 p.2.1 p.2.2.1 p.2.2.2.1 p.2.2.2.2.1 p.2.2.2.2.2) (1000) (k, i, x, e, b6, z))
theorem ref04IPowerL0_eq (k : Int) (i : Int) (x : Nat) (e : Nat) (b6 : Nat) (z : Nat) : ref04IPowerL0 k i x e b6 z = iter (fun p : Int × Int × Nat × Nat × Nat × Nat => ref04IPowerL0R p.1 p.2.1 p.2.2.1 p.2.2.2.1 p.2.2.2.2.1 p.2.2.2.2.2) (1000) (k, i, x, e, b6, z) := hide_eq _
def ref04IPowerB (k : Int) (x : Nat) (e : Nat) : Option (Nat) :=
 (ref01From (1 : Int)).bind fun r1 =>
 (ref01Len e).bind fun r2 =>
 (ref04IPowerL0 k (IntKind.wrap .i64 (r2 - (1 : Int))) x e 0 r1).bind fun q9 =>
 some q9.2
def ref04IPower (k : Int) (x : Nat) (e : Nat) : Option (Nat) := hide (ref04IPowerB k x e)
theorem ref04IPower_eq (k : Int) (x : Nat) (e : Nat) : ref04IPower k x e = ref04IPowerB k x e := hide_eq _
def ref04InverseB (k : Int) (x : Nat) : Option (Nat × Int) :=
 (ref04IGood k).bind fun r1 =>
 bif (!r1) then
  some (0, (1 : Int))
 else
  (ref04IBelow k x).bind fun r2 =>
  bif (u256eq r2 0) then
   some (0, (40 : Int))
  else
   (ref04IModulus k).bind fun r3 =>
   (ref01From (2 : Int)).bind fun r4 =>
   (ref01Sub r3 r4).bind fun r5 =>
   (ref04IPower k x r5.1).bind fun r6 =>
   some (r6, (0 : Int))
def ref04Inverse (k : Int) (x : Nat) : Option (Nat × Int) := hide (ref04InverseB k x)
theorem ref04Inverse_eq (k : Int) (x : Nat) : ref04Inverse k x = ref04InverseB k x := hide_eq _
def ref04ReduceB (k : Int) (high : Nat) (low : Nat) : Option (Nat × Int) :=
 (ref04IGood k).bind fun r1 =>
 bif (!r1) then
  some (0, (1 : Int))
 else
  (ref04IFold k high low).bind fun r2 =>
  some (r2, (0 : Int))
def ref04Reduce (k : Int) (high : Nat) (low : Nat) : Option (Nat × Int) := hide (ref04ReduceB k high low)
theorem ref04Reduce_eq (k : Int) (high : Nat) (low : Nat) : ref04Reduce k high low = ref04ReduceB k high low := hide_eq _
def u256GetL0R (b : List Int) (s12 : Int) (s13 : Int) (b2 : Nat) (x : Nat) : Option ((List Int × Int × Int × Nat × Nat) ⊕ (Nat × Nat)) :=
 bif (decide (s13 < s12)) then
  bif decide (0 ≤ (IntKind.wrap .i64 (Int.tdiv (IntKind.wrap .i64 ((IntKind.wrap .i64 (((b.length : Nat) : Int) - (1 : Int))) - s13)) (8 : Int)))) then
   bif Nat.blt (Int.toNat (IntKind.wrap .i64 (Int.tdiv (IntKind.wrap .i64 ((IntKind.wrap .i64 (((b.length : Nat) : Int) - (1 : Int))) - s13)) (8 : Int)))) 4 then
    bif Nat.blt (Int.toNat (IntKind.wrap .i64 (Int.tdiv (IntKind.wrap .i64 ((IntKind.wrap .i64 (((b.length : Nat) : Int) - (1 : Int))) - s13)) (8 : Int)))) 4 then
     bif decide (0 ≤ s13) then
      bif Nat.blt (Int.toNat s13) b.length then
       bif decide ((IntKind.wrap .i64 ((8 : Int) * (Int.tmod (IntKind.wrap .i64 ((IntKind.wrap .i64 (((b.length : Nat) : Int) - (1 : Int))) - s13)) (8 : Int)))) < 0) then
        none
       else
        bif decide (0 ≤ (IntKind.wrap .i64 (Int.tdiv (IntKind.wrap .i64 ((IntKind.wrap .i64 (((b.length : Nat) : Int) - (1 : Int))) - s13)) (8 : Int)))) then
         bif Nat.blt (Int.toNat (IntKind.wrap .i64 (Int.tdiv (IntKind.wrap .i64 ((IntKind.wrap .i64 (((b.length : Nat) : Int) - (1 : Int))) - s13)) (8 : Int)))) 4 then
          bif Nat.blt (Int.toNat (IntKind.wrap .i64 (Int.tdiv (IntKind.wrap .i64 ((IntKind.wrap .i64 (((b.length : Nat) : Int) - (1 : Int))) - s13)) (8 : Int)))) 4 then
           bif inU64 (orI .u64 (limb x (Int.toNat (IntKind.wrap .i64 (Int.tdiv (IntKind.wrap .i64 ((IntKind.wrap .i64 (((b.length : Nat) : Int) - (1 : Int))) - s13)) (8 : Int))))) (shlI .u64 (IntKind.wrap .u64 (b.getD (Int.toNat s13) (0 : Int))) (IntKind.wrap .i64 ((8 : Int) * (Int.tmod (IntKind.wrap .i64 ((IntKind.wrap .i64 (((b.length : Nat) : Int) - (1 : Int))) - s13)) (8 : Int)))))) then
            some (.inl (b, s12, (IntKind.wrap .i64 (s13 + (1 : Int))), b2, (setLimb x (Int.toNat (IntKind.wrap .i64 (Int.tdiv (IntKind.wrap .i64 ((IntKind.wrap .i64 (((b.length : Nat) : Int) - (1 : Int))) - s13)) (8 : Int)))) (orI .u64 (limb x (Int.toNat (IntKind.wrap .i64 (Int.tdiv (IntKind.wrap .i64 ((IntKind.wrap .i64 (((b.length : Nat) : Int) - (1 : Int))) - s13)) (8 : Int))))) (shlI .u64 (IntKind.wrap .u64 (b.getD (Int.toNat s13) (0 : Int))) (IntKind.wrap .i64 ((8 : Int) * (Int.tmod (IntKind.wrap .i64 ((IntKind.wrap .i64 (((b.length : Nat) : Int) - (1 : Int))) - s13)) (8 : Int)))))))))
           else none
          else none
         else none
        else none
      else none
     else none
    else none
   else none
  else none
 else
  some (.inr (b2, x))
def u256GetL0 (b : List Int) (s12 : Int) (s13 : Int) (b2 : Nat) (x : Nat) : Option (Nat × Nat) := hide (iter (fun p : List Int × Int × Int × Nat × Nat => u256GetL0R p.1 p.2.1 p.2.2.1 p.2.2.2.1 p.2.2.2.2) (1000) (b, s12, s13, b2, x))
theorem u256GetL0_eq (b : List Int) (s12 : Int) (s13 : Int) (b2 : Nat) (x : Nat) : u256GetL0 b s12 s13 b2 x = iter (fun p : List Int × Int × Int × Nat × Nat => u256GetL0R p.1 p.2.1 p.2.2.1 p.2.2.2.1 p.2.2.2.2) (1000) (b, s12, s13, b2, x) := hide_eq _
def u256GetB (b : List Int) : Option (Nat × Int) :=
 bif (decide (((b.length : Nat) : Int) > (32 : Int))) then
  some (0, (11 : Int))
 else
  (u256GetL0 b ((b.length : Nat) : Int) (0 : Int) 0 0).bind fun q1 =>
  some (q1.2, (0 : Int))
def u256Get (b : List Int) : Option (Nat × Int) := hide (u256GetB b)
theorem u256Get_eq (b : List Int) : u256Get b = u256GetB b := hide_eq _
def u256PutL0R (s5 : Int) (x : Nat) (b2 : List Int) (b : List Int) : Option ((Int × Nat × List Int × List Int) ⊕ (List Int × List Int)) :=
 bif (decide (s5 < (32 : Int))) then
  bif decide (0 ≤ (IntKind.wrap .i64 (Int.tdiv s5 (8 : Int)))) then
   bif Nat.blt (Int.toNat (IntKind.wrap .i64 (Int.tdiv s5 (8 : Int)))) 4 then
    bif Nat.blt (Int.toNat (IntKind.wrap .i64 (Int.tdiv s5 (8 : Int)))) 4 then
     bif decide ((IntKind.wrap .i64 ((8 : Int) * (Int.tmod s5 (8 : Int)))) < 0) then
      none
     else
      bif decide (0 ≤ (IntKind.wrap .i64 ((31 : Int) - s5))) then
       bif Nat.blt (Int.toNat (IntKind.wrap .i64 ((31 : Int) - s5))) 32 then
        bif Nat.blt (Int.toNat (IntKind.wrap .i64 ((31 : Int) - s5))) 32 then
         some (.inl ((IntKind.wrap .i64 (s5 + (1 : Int))), x, b2, (b.set (Int.toNat (IntKind.wrap .i64 ((31 : Int) - s5))) (IntKind.wrap .u8 (shrI .u64 (limb x (Int.toNat (IntKind.wrap .i64 (Int.tdiv s5 (8 : Int))))) (IntKind.wrap .i64 ((8 : Int) * (Int.tmod s5 (8 : Int)))))))))
        else none
       else none
      else none
    else none
   else none
  else none
 else
  some (.inr (b2, b))
def u256PutL0 (s5 : Int) (x : Nat) (b2 : List Int) (b : List Int) : Option (List Int × List Int) := hide (iter (fun p : Int × Nat × List Int × List Int => u256PutL0R p.1 p.2.1 p.2.2.1 p.2.2.2) (1000) (s5, x, b2, b))
theorem u256PutL0_eq (s5 : Int) (x : Nat) (b2 : List Int) (b : List Int) : u256PutL0 s5 x b2 b = iter (fun p : Int × Nat × List Int × List Int => u256PutL0R p.1 p.2.1 p.2.2.1 p.2.2.2) (1000) (s5, x, b2, b) := hide_eq _
def u256PutB (x : Nat) : Option (List Int) :=
 (u256PutL0 (0 : Int) x (List.replicate 32 (0 : Int)) (List.replicate 32 (0 : Int))).bind fun q1 =>
 some q1.2
def u256Put (x : Nat) : Option (List Int) := hide (u256PutB x)
theorem u256Put_eq (x : Nat) : u256Put x = u256PutB x := hide_eq _
def u256ShrL0R (n : Int) (i : Int) (x : Nat) (b4 : Nat) (z : Nat) : Option ((Int × Int × Nat × Nat × Nat) ⊕ (Nat × Nat)) :=
 bif (decide (i < (IntKind.wrap .i64 ((4 : Int) - (IntKind.wrap .i64 (Int.tdiv n (64 : Int))))))) then
  bif decide (0 ≤ (IntKind.wrap .i64 (i + (IntKind.wrap .i64 (Int.tdiv n (64 : Int)))))) then
   bif Nat.blt (Int.toNat (IntKind.wrap .i64 (i + (IntKind.wrap .i64 (Int.tdiv n (64 : Int)))))) 4 then
    bif Nat.blt (Int.toNat (IntKind.wrap .i64 (i + (IntKind.wrap .i64 (Int.tdiv n (64 : Int)))))) 4 then
     bif decide ((Int.tmod n (64 : Int)) < 0) then
      none
     else
      bif decide (0 ≤ i) then
       bif Nat.blt (Int.toNat i) 4 then
        bif Nat.blt (Int.toNat i) 4 then
         bif inU64 (shrI .u64 (limb x (Int.toNat (IntKind.wrap .i64 (i + (IntKind.wrap .i64 (Int.tdiv n (64 : Int))))))) (Int.tmod n (64 : Int))) then
          bif (decide ((IntKind.wrap .i64 (i + (IntKind.wrap .i64 (Int.tdiv n (64 : Int))))) < (3 : Int))) then
           bif (decide ((Int.tmod n (64 : Int)) > (0 : Int))) then
            bif decide (0 ≤ i) then
             bif Nat.blt (Int.toNat i) 4 then
              bif Nat.blt (Int.toNat i) 4 then
               bif decide (0 ≤ (IntKind.wrap .i64 ((IntKind.wrap .i64 (i + (IntKind.wrap .i64 (Int.tdiv n (64 : Int))))) + (1 : Int)))) then
                bif Nat.blt (Int.toNat (IntKind.wrap .i64 ((IntKind.wrap .i64 (i + (IntKind.wrap .i64 (Int.tdiv n (64 : Int))))) + (1 : Int)))) 4 then
                 bif Nat.blt (Int.toNat (IntKind.wrap .i64 ((IntKind.wrap .i64 (i + (IntKind.wrap .i64 (Int.tdiv n (64 : Int))))) + (1 : Int)))) 4 then
                  bif decide ((IntKind.wrap .i64 ((64 : Int) - (Int.tmod n (64 : Int)))) < 0) then
                   none
                  else
                   bif decide (0 ≤ i) then
                    bif Nat.blt (Int.toNat i) 4 then
                     bif Nat.blt (Int.toNat i) 4 then
                      bif inU64 (orI .u64 (limb (setLimb z (Int.toNat i) (shrI .u64 (limb x (Int.toNat (IntKind.wrap .i64 (i + (IntKind.wrap .i64 (Int.tdiv n (64 : Int))))))) (Int.tmod n (64 : Int)))) (Int.toNat i)) (shlI .u64 (limb x (Int.toNat (IntKind.wrap .i64 ((IntKind.wrap .i64 (i + (IntKind.wrap .i64 (Int.tdiv n (64 : Int))))) + (1 : Int))))) (IntKind.wrap .i64 ((64 : Int) - (Int.tmod n (64 : Int)))))) then
                       some (.inl (n, (IntKind.wrap .i64 (i + (1 : Int))), x, b4, (setLimb (setLimb z (Int.toNat i) (shrI .u64 (limb x (Int.toNat (IntKind.wrap .i64 (i + (IntKind.wrap .i64 (Int.tdiv n (64 : Int))))))) (Int.tmod n (64 : Int)))) (Int.toNat i) (orI .u64 (limb (setLimb z (Int.toNat i) (shrI .u64 (limb x (Int.toNat (IntKind.wrap .i64 (i + (IntKind.wrap .i64 (Int.tdiv n (64 : Int))))))) (Int.tmod n (64 : Int)))) (Int.toNat i)) (shlI .u64 (limb x (Int.toNat (IntKind.wrap .i64 ((IntKind.wrap .i64 (i + (IntKind.wrap .i64 (Int.tdiv n (64 : Int))))) + (1 : Int))))) (IntKind.wrap .i64 ((64 : Int) - (Int.tmod n (64 : Int)))))))))
                      else none
                     else none
                    else none
                   else none
                 else none
                else none
               else none
              else none
             else none
            else none
           else
            some (.inl (n, (IntKind.wrap .i64 (i + (1 : Int))), x, b4, (setLimb z (Int.toNat i) (shrI .u64 (limb x (Int.toNat (IntKind.wrap .i64 (i + (IntKind.wrap .i64 (Int.tdiv n (64 : Int))))))) (Int.tmod n (64 : Int))))))
          else
           some (.inl (n, (IntKind.wrap .i64 (i + (1 : Int))), x, b4, (setLimb z (Int.toNat i) (shrI .u64 (limb x (Int.toNat (IntKind.wrap .i64 (i + (IntKind.wrap .i64 (Int.tdiv n (64 : Int))))))) (Int.tmod n (64 : Int))))))
         else none
        else none
       else none
      else none
    else none
   else none
  else none
 else
  some (.inr (b4, z))
def u256ShrL0 (n : Int) (i : Int) (x : Nat) (b4 : Nat) (z : Nat) : Option (Nat × Nat) := hide (iter (fun p : Int × Int × Nat × Nat × Nat => u256ShrL0R p.1 p.2.1 p.2.2.1 p.2.2.2.1 p.2.2.2.2) (1000) (n, i, x, b4, z))
theorem u256ShrL0_eq (n : Int) (i : Int) (x : Nat) (b4 : Nat) (z : Nat) : u256ShrL0 n i x b4 z = iter (fun p : Int × Int × Nat × Nat × Nat => u256ShrL0R p.1 p.2.1 p.2.2.1 p.2.2.2.1 p.2.2.2.2) (1000) (n, i, x, b4, z) := hide_eq _
def u256ShrB (x : Nat) (n : Int) : Option (Nat) :=
 bif (decide (n > (255 : Int))) then
  some 0
 else
  bif (decide (n < (-255 : Int))) then
   some 0
  else
   bif (decide (n < (0 : Int))) then
    none
   else
    (u256ShrL0 n (0 : Int) x 0 0).bind fun q1 =>
    some q1.2
def u256Shr (x : Nat) (n : Int) : Option (Nat) := hide (u256ShrB x n)
theorem u256Shr_eq (x : Nat) (n : Int) : u256Shr x n = u256ShrB x n := hide_eq _
def ref01GetL0R (b : List Int) (i : Int) (b2 : Nat) (x : Nat) : Option ((List Int × Int × Nat × Nat) ⊕ (Nat × Nat)) :=
 bif (decide (i < ((b.length : Nat) : Int))) then
  bif decide (0 ≤ (IntKind.wrap .i64 (Int.tdiv (IntKind.wrap .i64 ((IntKind.wrap .i64 (((b.length : Nat) : Int) - (1 : Int))) - i)) (8 : Int)))) then
   bif Nat.blt (Int.toNat (IntKind.wrap .i64 (Int.tdiv (IntKind.wrap .i64 ((IntKind.wrap .i64 (((b.length : Nat) : Int) - (1 : Int))) - i)) (8 : Int)))) 4 then
    bif Nat.blt (Int.toNat (IntKind.wrap .i64 (Int.tdiv (IntKind.wrap .i64 ((IntKind.wrap .i64 (((b.length : Nat) : Int) - (1 : Int))) - i)) (8 : Int)))) 4 then
     bif decide (0 ≤ i) then
      bif Nat.blt (Int.toNat i) b.length then
       bif decide ((IntKind.wrap .u64 (IntKind.wrap .i64 ((8 : Int) * (Int.tmod (IntKind.wrap .i64 ((IntKind.wrap .i64 (((b.length : Nat) : Int) - (1 : Int))) - i)) (8 : Int))))) < 0) then
        none
       else
        bif decide (0 ≤ (IntKind.wrap .i64 (Int.tdiv (IntKind.wrap .i64 ((IntKind.wrap .i64 (((b.length : Nat) : Int) - (1 : Int))) - i)) (8 : Int)))) then
         bif Nat.blt (Int.toNat (IntKind.wrap .i64 (Int.tdiv (IntKind.wrap .i64 ((IntKind.wrap .i64 (((b.length : Nat) : Int) - (1 : Int))) - i)) (8 : Int)))) 4 then
          bif Nat.blt (Int.toNat (IntKind.wrap .i64 (Int.tdiv (IntKind.wrap .i64 ((IntKind.wrap .i64 (((b.length : Nat) : Int) - (1 : Int))) - i)) (8 : Int)))) 4 then
           bif inU64 (IntKind.wrap .u64 ((limb x (Int.toNat (IntKind.wrap .i64 (Int.tdiv (IntKind.wrap .i64 ((IntKind.wrap .i64 (((b.length : Nat) : Int) - (1 : Int))) - i)) (8 : Int))))) + (shlI .u64 (IntKind.wrap .u64 (b.getD (Int.toNat i) (0 : Int))) (IntKind.wrap .u64 (IntKind.wrap .i64 ((8 : Int) * (Int.tmod (IntKind.wrap .i64 ((IntKind.wrap .i64 (((b.length : Nat) : Int) - (1 : Int))) - i)) (8 : Int)))))))) then
            some (.inl (b, (IntKind.wrap .i64 (i + (1 : Int))), b2, (setLimb x (Int.toNat (IntKind.wrap .i64 (Int.tdiv (IntKind.wrap .i64 ((IntKind.wrap .i64 (((b.length : Nat) : Int) - (1 : Int))) - i)) (8 : Int)))) (IntKind.wrap .u64 ((limb x (Int.toNat (IntKind.wrap .i64 (Int.tdiv (IntKind.wrap .i64 ((IntKind.wrap .i64 (((b.length : Nat) : Int) - (1 : Int))) - i)) (8 : Int))))) + (shlI .u64 (IntKind.wrap .u64 (b.getD (Int.toNat i) (0 : Int))) (IntKind.wrap .u64 (IntKind.wrap .i64 ((8 : Int) * (Int.tmod (IntKind.wrap .i64 ((IntKind.wrap .i64 (((b.length : Nat) : Int) - (1 : Int))) - i)) (8 : Int)))))))))))
           else none
          else none
         else none
        else none
      else none
     else none
    else none
   else none
  else none
 else
  some (.inr (b2, x))
def ref01GetL0 (b : List Int) (i : Int) (b2 : Nat) (x : Nat) : Option (Nat × Nat) := hide (iter (fun p : List Int × Int × Nat × Nat => ref01GetL0R p.1 p.2.1 p.2.2.1 p.2.2.2) (1000) (b, i, b2, x))
theorem ref01GetL0_eq (b : List Int) (i : Int) (b2 : Nat) (x : Nat) : ref01GetL0 b i b2 x = iter (fun p : List Int × Int × Nat × Nat => ref01GetL0R p.1 p.2.1 p.2.2.1 p.2.2.2) (1000) (b, i, b2, x) := hide_eq _
def ref01GetB (b : List Int) : Option (Nat × Int) :=
 bif (decide (((b.length : Nat) : Int) > (32 : Int))) then
  some (0, (11 : Int))
 else
  (ref01GetL0 b (0 : Int) 0 0).bind fun q1 =>
  some (q1.2, (0 : Int))
def ref01Get (b : List Int) : Option (Nat × Int) := hide (ref01GetB b)
theorem ref01Get_eq (b : List Int) : ref01Get b = ref01GetB b := hide_eq _
def ref01PutL0R (i : Int) (x : Nat) (b2 : List Int) (b : List Int) : Option ((Int × Nat × List Int × List Int) ⊕ (List Int × List Int)) :=
 bif (decide (i < (32 : Int))) then
  bif decide (0 ≤ (IntKind.wrap .i64 (Int.tdiv i (8 : Int)))) then
   bif Nat.blt (Int.toNat (IntKind.wrap .i64 (Int.tdiv i (8 : Int)))) 4 then
    bif Nat.blt (Int.toNat (IntKind.wrap .i64 (Int.tdiv i (8 : Int)))) 4 then
     bif decide ((IntKind.wrap .u64 (IntKind.wrap .i64 ((8 : Int) * (Int.tmod i (8 : Int))))) < 0) then
      none
     else
      bif decide (0 ≤ (IntKind.wrap .i64 ((31 : Int) - i))) then
       bif Nat.blt (Int.toNat (IntKind.wrap .i64 ((31 : Int) - i))) 32 then
        bif Nat.blt (Int.toNat (IntKind.wrap .i64 ((31 : Int) - i))) 32 then
         some (.inl ((IntKind.wrap .i64 (i + (1 : Int))), x, b2, (b.set (Int.toNat (IntKind.wrap .i64 ((31 : Int) - i))) (IntKind.wrap .u8 (shrI .u64 (limb x (Int.toNat (IntKind.wrap .i64 (Int.tdiv i (8 : Int))))) (IntKind.wrap .u64 (IntKind.wrap .i64 ((8 : Int) * (Int.tmod i (8 : Int))))))))))
        else none
       else none
      else none
    else none
   else none
  else none
 else
  some (.inr (b2, b))
def ref01PutL0 (i : Int) (x : Nat) (b2 : List Int) (b : List Int) : Option (List Int × List Int) := hide (iter (fun p : Int × Nat × List Int × List Int => ref01PutL0R p.1 p.2.1 p.2.2.1 p.2.2.2) (1000) (i, x, b2, b))
theorem ref01PutL0_eq (i : Int) (x : Nat) (b2 : List Int) (b : List Int) : ref01PutL0 i x b2 b = iter (fun p : Int × Nat × List Int × List Int => ref01PutL0R p.1 p.2.1 p.2.2.1 p.2.2.2) (1000) (i, x, b2, b) := hide_eq _
def ref01PutB (x : Nat) : Option (List Int) :=
 (ref01PutL0 (0 : Int) x (List.replicate 32 (0 : Int)) (List.replicate 32 (0 : Int))).bind fun q1 =>
 some q1.2
def ref01Put (x : Nat) : Option (List Int) := hide (ref01PutB x)
theorem ref01Put_eq (x : Nat) : ref01Put x = ref01PutB x := hide_eq _
def ref01IWithB (x : Nat) (i : Int) : Option (Nat) :=
 bif decide (0 ≤ (IntKind.wrap .i64 (Int.tdiv i (64 : Int)))) then
  bif Nat.blt (Int.toNat (IntKind.wrap .i64 (Int.tdiv i (64 : Int)))) 4 then
   bif Nat.blt (Int.toNat (IntKind.wrap .i64 (Int.tdiv i (64 : Int)))) 4 then
    bif decide ((IntKind.wrap .u64 (Int.tmod i (64 : Int))) < 0) then
     none
    else
     bif decide (0 ≤ (IntKind.wrap .i64 (Int.tdiv i (64 : Int)))) then
      bif Nat.blt (Int.toNat (IntKind.wrap .i64 (Int.tdiv i (64 : Int)))) 4 then
       bif Nat.blt (Int.toNat (IntKind.wrap .i64 (Int.tdiv i (64 : Int)))) 4 then
        bif inU64 (orI .u64 (limb x (Int.toNat (IntKind.wrap .i64 (Int.tdiv i (64 : Int))))) (shlI .u64 1 (IntKind.wrap .u64 (Int.tmod i (64 : Int))))) then
         some (setLimb x (Int.toNat (IntKind.wrap .i64 (Int.tdiv i (64 : Int)))) (orI .u64 (limb x (Int.toNat (IntKind.wrap .i64 (Int.tdiv i (64 : Int))))) (shlI .u64 1 (IntKind.wrap .u64 (Int.tmod i (64 : Int))))))
        else none
       else none
      else none
     else none
   else none
  else none
 else none
def ref01IWith (x : Nat) (i : Int) : Option (Nat) := hide (ref01IWithB x i)
theorem ref01IWith_eq (x : Nat) (i : Int) : ref01IWith x i = ref01IWithB x i := hide_eq _
def ref01ShlL0R (n : Int) (i : Int) (x : Nat) (b4 : Nat) (y : Nat) : Option ((Int × Int × Nat × Nat × Nat) ⊕ (Nat × Nat)) :=
 bif (decide (i < (256 : Int))) then
  (ref01Bit x (IntKind.wrap .i64 (i - n))).bind fun r3 =>
  bif (r3 == (1 : Int)) then
   (ref01IWith y i).bind fun r4 =>
   some (.inl (n, (IntKind.wrap .i64 (i + (1 : Int))), x, b4, r4))
  else
   some (.inl (n, (IntKind.wrap .i64 (i + (1 : Int))), x, b4, y))
 else
  some (.inr (b4, y))
def ref01ShlL0 (n : Int) (i : Int) (x : Nat) (b4 : Nat) (y : Nat) : Option (Nat × Nat) := hide (iter (fun p : Int × Int × Nat × Nat × Nat => ref01ShlL0R p.1 p.2.1 p.2.2.1 p.2.2.2.1 p.2.2.2.2) (1000) (n, i, x, b4, y))
theorem ref01ShlL0_eq (n : Int) (i : Int) (x : Nat) (b4 : Nat) (y : Nat) : ref01ShlL0 n i x b4 y = iter (fun p : Int × Int × Nat × Nat × Nat => ref01ShlL0R p.1 p.2.1 p.2.2.1 p.2.2.2.1 p.2.2.2.2) (1000) (n, i, x, b4, y) := hide_eq _
def ref01ShlB (x : Nat) (n : Int) : Option (Nat) :=
 bif (decide (n < (-255 : Int))) then
  some 0
 else
  bif (decide (n > (255 : Int))) then
   some 0
  else
   (ref01ShlL0 n (0 : Int) x 0 0).bind fun q5 =>
   some q5.2
def ref01Shl (x : Nat) (n : Int) : Option (Nat) := hide (ref01ShlB x n)
theorem ref01Shl_eq (x : Nat) (n : Int) : ref01Shl x n = ref01ShlB x n := hide_eq _
def ref01ShrB (x : Nat) (n : Int) : Option (Nat) :=
 bif (decide (n < (-255 : Int))) then
  some 0
 else
  bif (decide (n > (255 : Int))) then
   some 0
  else
   (ref01Shl x (IntKind.wrap .i64 (0 - n))).bind fun r1 =>
   some r1
def ref01Shr (x : Nat) (n : Int) : Option (Nat) := hide (ref01ShrB x n)
theorem ref01Shr_eq (x : Nat) (n : Int) : ref01Shr x n = ref01ShrB x n := hide_eq _
def law06INumB (e : Int) : Option (Int) :=
 some e
def law06INum (e : Int) : Option (Int) := hide (law06INumB e)
theorem law06INum_eq (e : Int) : law06INum e = law06INumB e := hide_eq _
def ecdsaIOrderB  : Option (Nat) :=
 (fieldModulus (1 : Int)).bind fun r1 =>
 some r1.1
def ecdsaIOrder  : Option (Nat) := hide (ecdsaIOrderB )
theorem ecdsaIOrder_eq  : ecdsaIOrder  = ecdsaIOrderB  := hide_eq _
def ecdsaIFitB (x : Nat) : Option (Bool) :=
 bif (!(u256eq x 0)) then
  (ecdsaIOrder).bind fun r1 =>
  (u256Cmp x r1).bind fun r2 =>
  some (decide (r2 < (0 : Int)))
 else
  some false
def ecdsaIFit (x : Nat) : Option (Bool) := hide (ecdsaIFitB x)
theorem ecdsaIFit_eq (x : Nat) : ecdsaIFit x = ecdsaIFitB x := hide_eq _
def ecdsaILowB (s : Nat) : Option (Bool) :=
 (ecdsaIOrder).bind fun r1 =>
 (u256Shr r1 (1 : Int)).bind fun r2 =>
 (u256Cmp s r2).bind fun r3 =>
 some (decide (r3 ≤ (0 : Int)))
def ecdsaILow (s : Nat) : Option (Bool) := hide (ecdsaILowB s)
theorem ecdsaILow_eq (s : Nat) : ecdsaILow s = ecdsaILowB s := hide_eq _
def ref06IOrderB  : Option (Nat) :=
 (ref04Modulus (1 : Int)).bind fun r1 =>
 some r1.1
def ref06IOrder  : Option (Nat) := hide (ref06IOrderB )
theorem ref06IOrder_eq  : ref06IOrder  = ref06IOrderB  := hide_eq _
def ref06FitB (x : Nat) : Option (Bool) :=
 bif (!(u256eq x 0)) then
  (ref06IOrder).bind fun r1 =>
  (ref01Cmp x r1).bind fun r2 =>
  some (decide (r2 < (0 : Int)))
 else
  some false
def ref06Fit (x : Nat) : Option (Bool) := hide (ref06FitB x)
theorem ref06Fit_eq (x : Nat) : ref06Fit x = ref06FitB x := hide_eq _
def ref06LowB (s : Nat) : Option (Bool) :=
 (ref06IOrder).bind fun r1 =>
 (ref01Shr r1 (1 : Int)).bind fun r2 =>
 (ref01Cmp s r2).bind fun r3 =>
 some (decide (r3 ≤ (0 : Int)))
def ref06Low (s : Nat) : Option (Bool) := hide (ref06LowB s)
theorem ref06Low_eq (s : Nat) : ref06Low s = ref06LowB s := hide_eq _
end Go.Sy
