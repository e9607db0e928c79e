/- Typed functions, printed by a program out of the code: what each function of the code computes. -/
import Derived.Test.YtfappeeggccicaaDoorSyKa
set_option linter.unusedVariables false
noncomputable section
namespace Go.Sy
open Go
def fieldIOfB (k : Int) : Option ((Nat × Nat) × Int) :=
 bif (decide (k < (0 : Int))) then
  some ((0, 0), (1 : Int))
 else
  bif (decide (k ≥ (2 : Int))) then
   some ((0, 0), (1 : Int))
  else
   bif decide (0 ≤ k) then
    bif Nat.blt (Int.toNat k) 2 then
     bif Nat.blt (Int.toNat k) 2 then
      some ((fieldModuli.getD (Int.toNat k) ((0, 0) : Nat × Nat)), (0 : Int))
     else none
    else none
   else none
def fieldIOf (k : Int) : Option ((Nat × Nat) × Int) := hide (fieldIOfB k)
theorem fieldIOf_eq (k : Int) : fieldIOf k = fieldIOfB k := hide_eq _
def fieldModulusB (k : Int) : Option (Nat × Int) :=
 (fieldIOf k).bind fun r1 =>
 some (r1.1.1, r1.2)
def fieldModulus (k : Int) : Option (Nat × Int) := hide (fieldModulusB k)
theorem fieldModulus_eq (k : Int) : fieldModulus k = fieldModulusB k := hide_eq _
def u256SubB (x : Nat) (y : Nat) : Option (Nat × Int) :=
 (bitsSub64 (limb x 0) (limb y 0) (0 : Int)).bind fun r1 =>
 bif inU64 r1.1 then
  (bitsSub64 (limb x 1) (limb y 1) r1.2).bind fun r2 =>
  bif inU64 r2.1 then
   (bitsSub64 (limb x 2) (limb y 2) r2.2).bind fun r3 =>
   bif inU64 r3.1 then
    (bitsSub64 (limb x 3) (limb y 3) r3.2).bind fun r4 =>
    bif inU64 r4.1 then
     some ((setLimb (setLimb (setLimb (setLimb 0 0 r1.1) 1 r2.1) 2 r3.1) 3 r4.1), r4.2)
    else none
   else none
  else none
 else none
def u256Sub (x : Nat) (y : Nat) : Option (Nat × Int) := hide (u256SubB x y)
theorem u256Sub_eq (x : Nat) (y : Nat) : u256Sub x y = u256SubB x y := hide_eq _
def u256CmpB (x : Nat) (y : Nat) : Option (Int) :=
 bif (u256eq x y) then
  some (0 : Int)
 else
  (u256Sub x y).bind fun r1 =>
  bif (r1.2 == (1 : Int)) then
   some (-1 : Int)
  else
   some (1 : Int)
def u256Cmp (x : Nat) (y : Nat) : Option (Int) := hide (u256CmpB x y)
theorem u256Cmp_eq (x : Nat) (y : Nat) : u256Cmp x y = u256CmpB x y := hide_eq _
def u256ShlL0R (n : Int) (i : Int) (x : Nat) (b4 : Nat) (z : Nat) : Option ((Int × Int × Nat × Nat × Nat) ⊕ (Nat × Nat)) :=
 bif (decide (i < (4 : Int))) then
  bif decide (0 ≤ (IntKind.wrap .i64 (i - (IntKind.wrap .i64 (Int.tdiv n (64 : Int)))))) then
   bif Nat.blt (Int.toNat (IntKind.wrap .i64 (i - (IntKind.wrap .i64 (Int.tdiv n (64 : Int)))))) 4 then
    bif Nat.blt (Int.toNat (IntKind.wrap .i64 (i - (IntKind.wrap .i64 (Int.tdiv n (64 : Int)))))) 4 then
     bif decide ((Int.tmod n (64 : Int)) < 0) then
      none
     else
      bif decide (0 ≤ i) then
       bif Nat.blt (Int.toNat i) 4 then
        bif Nat.blt (Int.toNat i) 4 then
         bif inU64 (shlI .u64 (limb x (Int.toNat (IntKind.wrap .i64 (i - (IntKind.wrap .i64 (Int.tdiv n (64 : Int))))))) (Int.tmod n (64 : Int))) then
          bif (decide (i > (IntKind.wrap .i64 (Int.tdiv n (64 : Int))))) then
           bif (decide ((Int.tmod n (64 : Int)) > (0 : Int))) then
            bif decide (0 ≤ i) then
             bif Nat.blt (Int.toNat i) 4 then
              bif Nat.blt (Int.toNat i) 4 then
               bif decide (0 ≤ (IntKind.wrap .i64 ((IntKind.wrap .i64 (i - (IntKind.wrap .i64 (Int.tdiv n (64 : Int))))) - (1 : Int)))) then
                bif Nat.blt (Int.toNat (IntKind.wrap .i64 ((IntKind.wrap .i64 (i - (IntKind.wrap .i64 (Int.tdiv n (64 : Int))))) - (1 : Int)))) 4 then
                 bif Nat.blt (Int.toNat (IntKind.wrap .i64 ((IntKind.wrap .i64 (i - (IntKind.wrap .i64 (Int.tdiv n (64 : Int))))) - (1 : Int)))) 4 then
                  bif decide ((IntKind.wrap .i64 ((64 : Int) - (Int.tmod n (64 : Int)))) < 0) then
                   none
                  else
                   bif decide (0 ≤ i) then
                    bif Nat.blt (Int.toNat i) 4 then
                     bif Nat.blt (Int.toNat i) 4 then
                      bif inU64 (orI .u64 (limb (setLimb z (Int.toNat i) (shlI .u64 (limb x (Int.toNat (IntKind.wrap .i64 (i - (IntKind.wrap .i64 (Int.tdiv n (64 : Int))))))) (Int.tmod n (64 : Int)))) (Int.toNat i)) (shrI .u64 (limb x (Int.toNat (IntKind.wrap .i64 ((IntKind.wrap .i64 (i - (IntKind.wrap .i64 (Int.tdiv n (64 : Int))))) - (1 : Int))))) (IntKind.wrap .i64 ((64 : Int) - (Int.tmod n (64 : Int)))))) then
                       some (.inl (n, (IntKind.wrap .i64 (i + (1 : Int))), x, b4, (setLimb (setLimb z (Int.toNat i) (shlI .u64 (limb x (Int.toNat (IntKind.wrap .i64 (i - (IntKind.wrap .i64 (Int.tdiv n (64 : Int))))))) (Int.tmod n (64 : Int)))) (Int.toNat i) (orI .u64 (limb (setLimb z (Int.toNat i) (shlI .u64 (limb x (Int.toNat (IntKind.wrap .i64 (i - (IntKind.wrap .i64 (Int.tdiv n (64 : Int))))))) (Int.tmod n (64 : Int)))) (Int.toNat i)) (shrI .u64 (limb x (Int.toNat (IntKind.wrap .i64 ((IntKind.wrap .i64 (i - (IntKind.wrap .i64 (Int.tdiv n (64 : Int))))) - (1 : Int))))) (IntKind.wrap .i64 ((64 : Int) - (Int.tmod n (64 : Int)))))))))
                      else none
                     else none
                    else none
                   else none
                 else none
                else none
               else none
              else none
             else none
            else none
           else
            some (.inl (n, (IntKind.wrap .i64 (i + (1 : Int))), x, b4, (setLimb z (Int.toNat i) (shlI .u64 (limb x (Int.toNat (IntKind.wrap .i64 (i - (IntKind.wrap .i64 (Int.tdiv n (64 : Int))))))) (Int.tmod n (64 : Int))))))
          else
           some (.inl (n, (IntKind.wrap .i64 (i + (1 : Int))), x, b4, (setLimb z (Int.toNat i) (shlI .u64 (limb x (Int.toNat (IntKind.wrap .i64 (i - (IntKind.wrap .i64 (Int.tdiv n (64 : Int))))))) (Int.tmod n (64 : Int))))))
         else none
        else none
       else none
      else none
    else none
   else none
  else none
 else
  some (.inr (b4, z))
def u256ShlL0 (n : Int) (i : Int) (x : Nat) (b4 : Nat) (z : Nat) : Option (Nat × Nat) := hide (iter (fun p : Int × Int × Nat × Nat × Nat => u256ShlL0R p.1 p.2.1 p.2.2.1 p.2.2.2.1 p.2.2.2.2) (1000) (n, i, x, b4, z))
theorem u256ShlL0_eq (n : Int) (i : Int) (x : Nat) (b4 : Nat) (z : Nat) : u256ShlL0 n i x b4 z = iter (fun p : Int × Int × Nat × Nat × Nat => u256ShlL0R p.1 p.2.1 p.2.2.1 p.2.2.2.1 p.2.2.2.2) (1000) (n, i, x, b4, z) := hide_eq _
def u256ShlB (x : Nat) (n : Int) : Option (Nat) :=
 bif (decide (n > (255 : Int))) then
  some 0
 else
  bif (decide (n < (-255 : Int))) then
   some 0
  else
   bif (decide (n < (0 : Int))) then
    none
   else
    (u256ShlL0 n (IntKind.wrap .i64 (Int.tdiv n (64 : Int))) x 0 0).bind fun q1 =>
    some q1.2
def u256Shl (x : Nat) (n : Int) : Option (Nat) := hide (u256ShlB x n)
theorem u256Shl_eq (x : Nat) (n : Int) : u256Shl x n = u256ShlB x n := hide_eq _
def u256ShrL0R (n : Int) (i : Int) (x : Nat) (b4 : Nat) (z : Nat) : Option ((Int × Int × Nat × Nat × Nat) ⊕ (Nat × Nat)) :=
 bif (decide (i < (IntKind.wrap .i64 ((4 : Int) - (IntKind.wrap .i64 (Int.tdiv n (64 : Int))))))) then
  bif decide (0 ≤ (IntKind.wrap .i64 (i + (IntKind.wrap .i64 (Int.tdiv n (64 : Int)))))) then
   bif Nat.blt (Int.toNat (IntKind.wrap .i64 (i + (IntKind.wrap .i64 (Int.tdiv n (64 : Int)))))) 4 then
    bif Nat.blt (Int.toNat (IntKind.wrap .i64 (i + (IntKind.wrap .i64 (Int.tdiv n (64 : Int)))))) 4 then
     bif decide ((Int.tmod n (64 : Int)) < 0) then
      none
     else
      bif decide (0 ≤ i) then
       bif Nat.blt (Int.toNat i) 4 then
        bif Nat.blt (Int.toNat i) 4 then
         bif inU64 (shrI .u64 (limb x (Int.toNat (IntKind.wrap .i64 (i + (IntKind.wrap .i64 (Int.tdiv n (64 : Int))))))) (Int.tmod n (64 : Int))) then
          bif (decide ((IntKind.wrap .i64 (i + (IntKind.wrap .i64 (Int.tdiv n (64 : Int))))) < (3 : Int))) then
           bif (decide ((Int.tmod n (64 : Int)) > (0 : Int))) then
            bif decide (0 ≤ i) then
             bif Nat.blt (Int.toNat i) 4 then
              bif Nat.blt (Int.toNat i) 4 then
               bif decide (0 ≤ (IntKind.wrap .i64 ((IntKind.wrap .i64 (i + (IntKind.wrap .i64 (Int.tdiv n (64 : Int))))) + (1 : Int)))) then
                bif Nat.blt (Int.toNat (IntKind.wrap .i64 ((IntKind.wrap .i64 (i + (IntKind.wrap .i64 (Int.tdiv n (64 : Int))))) + (1 : Int)))) 4 then
                 bif Nat.blt (Int.toNat (IntKind.wrap .i64 ((IntKind.wrap .i64 (i + (IntKind.wrap .i64 (Int.tdiv n (64 : Int))))) + (1 : Int)))) 4 then
                  bif decide ((IntKind.wrap .i64 ((64 : Int) - (Int.tmod n (64 : Int)))) < 0) then
                   none
                  else
                   bif decide (0 ≤ i) then
                    bif Nat.blt (Int.toNat i) 4 then
                     bif Nat.blt (Int.toNat i) 4 then
                      bif inU64 (orI .u64 (limb (setLimb z (Int.toNat i) (shrI .u64 (limb x (Int.toNat (IntKind.wrap .i64 (i + (IntKind.wrap .i64 (Int.tdiv n (64 : Int))))))) (Int.tmod n (64 : Int)))) (Int.toNat i)) (shlI .u64 (limb x (Int.toNat (IntKind.wrap .i64 ((IntKind.wrap .i64 (i + (IntKind.wrap .i64 (Int.tdiv n (64 : Int))))) + (1 : Int))))) (IntKind.wrap .i64 ((64 : Int) - (Int.tmod n (64 : Int)))))) then
                       some (.inl (n, (IntKind.wrap .i64 (i + (1 : Int))), x, b4, (setLimb (setLimb z (Int.toNat i) (shrI .u64 (limb x (Int.toNat (IntKind.wrap .i64 (i + (IntKind.wrap .i64 (Int.tdiv n (64 : Int))))))) (Int.tmod n (64 : Int)))) (Int.toNat i) (orI .u64 (limb (setLimb z (Int.toNat i) (shrI .u64 (limb x (Int.toNat (IntKind.wrap .i64 (i + (IntKind.wrap .i64 (Int.tdiv n (64 : Int))))))) (Int.tmod n (64 : Int)))) (Int.toNat i)) (shlI .u64 (limb x (Int.toNat (IntKind.wrap .i64 ((IntKind.wrap .i64 (i + (IntKind.wrap .i64 (Int.tdiv n (64 : Int))))) + (1 : Int))))) (IntKind.wrap .i64 ((64 : Int) - (Int.tmod n (64 : Int)))))))))
                      else none
                     else none
                    else none
                   else none
                 else none
                else none
               else none
              else none
             else none
            else none
           else
            some (.inl (n, (IntKind.wrap .i64 (i + (1 : Int))), x, b4, (setLimb z (Int.toNat i) (shrI .u64 (limb x (Int.toNat (IntKind.wrap .i64 (i + (IntKind.wrap .i64 (Int.tdiv n (64 : Int))))))) (Int.tmod n (64 : Int))))))
          else
           some (.inl (n, (IntKind.wrap .i64 (i + (1 : Int))), x, b4, (setLimb z (Int.toNat i) (shrI .u64 (limb x (Int.toNat (IntKind.wrap .i64 (i + (IntKind.wrap .i64 (Int.tdiv n (64 : Int))))))) (Int.tmod n (64 : Int))))))
         else none
        else none
       else none
      else none
    else none
   else none
  else none
 else
  some (.inr (b4, z))
def u256ShrL0 (n : Int) (i : Int) (x : Nat) (b4 : Nat) (z : Nat) : Option (Nat × Nat) := hide (iter (fun p : Int × Int × Nat × Nat × Nat => u256ShrL0R p.1 p.2.1 p.2.2.1 p.2.2.2.1 p.2.2.2.2) (1000) (n, i, x, b4, z))
theorem u256ShrL0_eq (n : Int) (i : Int) (x : Nat) (b4 : Nat) (z : Nat) : u256ShrL0 n i x b4 z = iter (fun p : Int × Int × Nat × Nat × Nat => u256ShrL0R p.1 p.2.1 p.2.2.1 p.2.2.2.1 p.2.2.2.2) (1000) (n, i, x, b4, z) := hide_eq _
def u256ShrB (x : Nat) (n : Int) : Option (Nat) :=
 bif (decide (n > (255 : Int))) then
  some 0
 else
  bif (decide (n < (-255 : Int))) then
   some 0
  else
   bif (decide (n < (0 : Int))) then
    (u256Shl x (IntKind.wrap .i64 (0 - n))).bind fun r1 =>
    some r1
   else
    (u256ShrL0 n (0 : Int) x 0 0).bind fun q2 =>
    some q2.2
def u256Shr (x : Nat) (n : Int) : Option (Nat) := hide (u256ShrB x n)
theorem u256Shr_eq (x : Nat) (n : Int) : u256Shr x n = u256ShrB x n := hide_eq _
def ref04IGoodB (k : Int) : Option (Bool) :=
 bif (k == (0 : Int)) then
  some true
 else
  some (k == (1 : Int))
def ref04IGood (k : Int) : Option (Bool) := hide (ref04IGoodB k)
theorem ref04IGood_eq (k : Int) : ref04IGood k = ref04IGoodB k := hide_eq _
def ref04IModulusB (k : Int) : Option (Nat) :=
 bif (k == (0 : Int)) then
  some 115792089237316195423570985008687907853269984665640564039457584007908834671663
 else
  some 115792089237316195423570985008687907852837564279074904382605163141518161494337
def ref04IModulus (k : Int) : Option (Nat) := hide (ref04IModulusB k)
theorem ref04IModulus_eq (k : Int) : ref04IModulus k = ref04IModulusB k := hide_eq _
def ref04ModulusB (k : Int) : Option (Nat × Int) :=
 (ref04IGood k).bind fun r1 =>
 bif (!r1) then
  some (0, (1 : Int))
 else
  (ref04IModulus k).bind fun r2 =>
  some (r2, (0 : Int))
def ref04Modulus (k : Int) : Option (Nat × Int) := hide (ref04ModulusB k)
theorem ref04Modulus_eq (k : Int) : ref04Modulus k = ref04ModulusB k := hide_eq _
def ref01CmpL0R (i : Int) (x : Nat) (y : Nat) : Option ((Int × Nat × Nat) ⊕ (Int ⊕ Unit)) :=
 bif (decide (i ≥ (0 : Int))) then
  bif decide (0 ≤ i) then
   bif Nat.blt (Int.toNat i) 4 then
    bif Nat.blt (Int.toNat i) 4 then
     bif decide (0 ≤ i) then
      bif Nat.blt (Int.toNat i) 4 then
       bif Nat.blt (Int.toNat i) 4 then
        bif (decide ((limb x (Int.toNat i)) < (limb y (Int.toNat i)))) then
         some (.inr (.inl (-1 : Int)))
        else
         bif decide (0 ≤ i) then
          bif Nat.blt (Int.toNat i) 4 then
           bif Nat.blt (Int.toNat i) 4 then
            bif decide (0 ≤ i) then
             bif Nat.blt (Int.toNat i) 4 then
              bif Nat.blt (Int.toNat i) 4 then
               bif (decide ((limb x (Int.toNat i)) > (limb y (Int.toNat i)))) then
                some (.inr (.inl (1 : Int)))
               else
                some (.inl ((IntKind.wrap .i64 (i - (1 : Int))), x, y))
              else none
             else none
            else none
           else none
          else none
         else none
       else none
      else none
     else none
    else none
   else none
  else none
 else
  some (.inr (.inr ()))
def ref01CmpL0 (i : Int) (x : Nat) (y : Nat) : Option (Int ⊕ Unit) := hide (iter (fun p : Int × Nat × Nat => ref01CmpL0R p.1 p.2.1 p.2.2) (1000) (i, x, y))
theorem ref01CmpL0_eq (i : Int) (x : Nat) (y : Nat) : ref01CmpL0 i x y = iter (fun p : Int × Nat × Nat => ref01CmpL0R p.1 p.2.1 p.2.2) (1000) (i, x, y) := hide_eq _
def ref01CmpB (x : Nat) (y : Nat) : Option (Int) :=
 (ref01CmpL0 (3 : Int) x y).bind fun q1 =>
 sumK q1 (fun q2 =>
  some q2)
  (fun q3 =>
  some (0 : Int))
def ref01Cmp (x : Nat) (y : Nat) : Option (Int) := hide (ref01CmpB x y)
theorem ref01Cmp_eq (x : Nat) (y : Nat) : ref01Cmp x y = ref01CmpB x y := hide_eq _
def ref01BitB (x : Nat) (i : Int) : Option (Int) :=
 bif (decide (i < (0 : Int))) then
  some (0 : Int)
 else
  bif (decide (i > (255 : Int))) then
   some (0 : Int)
  else
   bif decide (0 ≤ (IntKind.wrap .i64 (Int.tdiv i (64 : Int)))) then
    bif Nat.blt (Int.toNat (IntKind.wrap .i64 (Int.tdiv i (64 : Int)))) 4 then
     bif Nat.blt (Int.toNat (IntKind.wrap .i64 (Int.tdiv i (64 : Int)))) 4 then
      bif decide ((IntKind.wrap .u64 (Int.tmod i (64 : Int))) < 0) then
       none
      else
       some (IntKind.wrap .i64 (Int.tmod (shrI .u64 (limb x (Int.toNat (IntKind.wrap .i64 (Int.tdiv i (64 : Int))))) (IntKind.wrap .u64 (Int.tmod i (64 : Int)))) (2 : Int)))
     else none
    else none
   else none
def ref01Bit (x : Nat) (i : Int) : Option (Int) := hide (ref01BitB x i)
theorem ref01Bit_eq (x : Nat) (i : Int) : ref01Bit x i = ref01BitB x i := hide_eq _
def u256GetL0R (b : List Int) (s12 : Int) (s13 : Int) (b2 : Nat) (x : Nat) : Option ((List Int × Int × Int × Nat × Nat) ⊕ (Nat × Nat)) :=
 bif (decide (s13 < s12)) then
  bif decide (0 ≤ (IntKind.wrap .i64 (Int.tdiv (IntKind.wrap .i64 ((IntKind.wrap .i64 (((b.length : Nat) : Int) - (1 : Int))) - s13)) (8 : Int)))) then
   bif Nat.blt (Int.toNat (IntKind.wrap .i64 (Int.tdiv (IntKind.wrap .i64 ((IntKind.wrap .i64 (((b.length : Nat) : Int) - (1 : Int))) - s13)) (8 : Int)))) 4 then
    bif Nat.blt (Int.toNat (IntKind.wrap .i64 (Int.tdiv (IntKind.wrap .i64 ((IntKind.wrap .i64 (((b.length : Nat) : Int) - (1 : Int))) - s13)) (8 : Int)))) 4 then
     bif decide (0 ≤ s13) then
      bif Nat.blt (Int.toNat s13) b.length then
       bif decide ((IntKind.wrap .i64 ((8 : Int) * (Int.tmod (IntKind.wrap .i64 ((IntKind.wrap .i64 (((b.length : Nat) : Int) - (1 : Int))) - s13)) (8 : Int)))) < 0) then
        none
       else
        bif decide (0 ≤ (IntKind.wrap .i64 (Int.tdiv (IntKind.wrap .i64 ((IntKind.wrap .i64 (((b.length : Nat) : Int) - (1 : Int))) - s13)) (8 : Int)))) then
         bif Nat.blt (Int.toNat (IntKind.wrap .i64 (Int.tdiv (IntKind.wrap .i64 ((IntKind.wrap .i64 (((b.length : Nat) : Int) - (1 : Int))) - s13)) (8 : Int)))) 4 then
          bif Nat.blt (Int.toNat (IntKind.wrap .i64 (Int.tdiv (IntKind.wrap .i64 ((IntKind.wrap .i64 (((b.length : Nat) : Int) - (1 : Int))) - s13)) (8 : Int)))) 4 then
           bif inU64 (orI .u64 (limb x (Int.toNat (IntKind.wrap .i64 (Int.tdiv (IntKind.wrap .i64 ((IntKind.wrap .i64 (((b.length : Nat) : Int) - (1 : Int))) - s13)) (8 : Int))))) (shlI .u64 (IntKind.wrap .u64 (b.getD (Int.toNat s13) (0 : Int))) (IntKind.wrap .i64 ((8 : Int) * (Int.tmod (IntKind.wrap .i64 ((IntKind.wrap .i64 (((b.length : Nat) : Int) - (1 : Int))) - s13)) (8 : Int)))))) then
            some (.inl (b, s12, (IntKind.wrap .i64 (s13 + (1 : Int))), b2, (setLimb x (Int.toNat (IntKind.wrap .i64 (Int.tdiv (IntKind.wrap .i64 ((IntKind.wrap .i64 (((b.length : Nat) : Int) - (1 : Int))) - s13)) (8 : Int)))) (orI .u64 (limb x (Int.toNat (IntKind.wrap .i64 (Int.tdiv (IntKind.wrap .i64 ((IntKind.wrap .i64 (((b.length : Nat) : Int) - (1 : Int))) - s13)) (8 : Int))))) (shlI .u64 (IntKind.wrap .u64 (b.getD (Int.toNat s13) (0 : Int))) (IntKind.wrap .i64 ((8 : Int) * (Int.tmod (IntKind.wrap .i64 ((IntKind.wrap .i64 (((b.length : Nat) : Int) - (1 : Int))) - s13)) (8 : Int)))))))))
           else none
          else none
         else none
        else none
      else none
     else none
    else none
   else none
  else none
 else
  some (.inr (b2, x))
def u256GetL0 (b : List Int) (s12 : Int) (s13 : Int) (b2 : Nat) (x : Nat) : Option (Nat × Nat) := hide (iter (fun p : List Int × Int × Int × Nat × Nat => u256GetL0R p.1 p.2.1 p.2.2.1 p.2.2.2.1 p.2.2.2.2) (1000) (b, s12, s13, b2, x))
theorem u256GetL0_eq (b : List Int) (s12 : Int) (s13 : Int) (b2 : Nat) (x : Nat) : u256GetL0 b s12 s13 b2 x = iter (fun p : List Int × Int × Int × Nat × Nat => u256GetL0R p.1 p.2.1 p.2.2.1 p.2.2.2.1 p.2.2.2.2) (1000) (b, s12, s13, b2, x) := hide_eq _
def u256GetB (b : List Int) : Option (Nat × Int) :=
 bif (decide (((b.length : Nat) : Int) > (32 : Int))) then
  some (0, (11 : Int))
 else
  (u256GetL0 b ((b.length : Nat) : Int) (0 : Int) 0 0).bind fun q1 =>
  some (q1.2, (0 : Int))
def u256Get (b : List Int) : Option (Nat × Int) := hide (u256GetB b)
theorem u256Get_eq (b : List Int) : u256Get b = u256GetB b := hide_eq _
def u256PutL0R (s5 : Int) (x : Nat) (b2 : List Int) (b : List Int) : Option ((Int × Nat × List Int × List Int) ⊕ (List Int × List Int)) :=
 bif (decide (s5 < (32 : Int))) then
  bif decide (0 ≤ (IntKind.wrap .i64 (Int.tdiv s5 (8 : Int)))) then
   bif Nat.blt (Int.toNat (IntKind.wrap .i64 (Int.tdiv s5 (8 : Int)))) 4 then
    bif Nat.blt (Int.toNat (IntKind.wrap .i64 (Int.tdiv s5 (8 : Int)))) 4 then
     bif decide ((IntKind.wrap .i64 ((8 : Int) * (Int.tmod s5 (8 : Int)))) < 0) then
      none
     else
      bif decide (0 ≤ (IntKind.wrap .i64 ((31 : Int) - s5))) then
       bif Nat.blt (Int.toNat (IntKind.wrap .i64 ((31 : Int) - s5))) 32 then
        bif Nat.blt (Int.toNat (IntKind.wrap .i64 ((31 : Int) - s5))) 32 then
         some (.inl ((IntKind.wrap .i64 (s5 + (1 : Int))), x, b2, (b.set (Int.toNat (IntKind.wrap .i64 ((31 : Int) - s5))) (IntKind.wrap .u8 (shrI .u64 (limb x (Int.toNat (IntKind.wrap .i64 (Int.tdiv s5 (8 : Int))))) (IntKind.wrap .i64 ((8 : Int) * (Int.tmod s5 (8 : Int)))))))))
        else none
       else none
      else none
    else none
   else none
  else none
 else
  some (.inr (b2, b))
def u256PutL0 (s5 : Int) (x : Nat) (b2 : List Int) (b : List Int) : Option (List Int × List Int) := hide (iter (fun p : Int × Nat × List Int × List Int => u256PutL0R p.1 p.2.1 p.2.2.1 p.2.2.2) (1000) (s5, x, b2, b))
theorem u256PutL0_eq (s5 : Int) (x : Nat) (b2 : List Int) (b : List Int) : u256PutL0 s5 x b2 b = iter (fun p : Int × Nat × List Int × List Int => u256PutL0R p.1 p.2.1 p.2.2.1 p.2.2.2) (1000) (s5, x, b2, b) := hide_eq _
def u256PutB (x : Nat) : Option (List Int) :=
 (u256PutL0 (0 : Int) x (List.replicate 32 (0 : Int)) (List.replicate 32 (0 : Int))).bind fun q1 =>
 some q1.2
def u256Put (x : Nat) : Option (List Int) := hide (u256PutB x)
theorem u256Put_eq (x : Nat) : u256Put x = u256PutB x := hide_eq _
def ref01GetL0R (b : List Int) (i : Int) (b2 : Nat) (x : Nat) : Option ((List Int × Int × Nat × Nat) ⊕ (Nat × Nat)) :=
 bif (decide (i < ((b.length : Nat) : Int))) then
  bif decide (0 ≤ (IntKind.wrap .i64 (Int.tdiv (IntKind.wrap .i64 ((IntKind.wrap .i64 (((b.length : Nat) : Int) - (1 : Int))) - i)) (8 : Int)))) then
   bif Nat.blt (Int.toNat (IntKind.wrap .i64 (Int.tdiv (IntKind.wrap .i64 ((IntKind.wrap .i64 (((b.length : Nat) : Int) - (1 : Int))) - i)) (8 : Int)))) 4 then
    bif Nat.blt (Int.toNat (IntKind.wrap .i64 (Int.tdiv (IntKind.wrap .i64 ((IntKind.wrap .i64 (((b.length : Nat) : Int) - (1 : Int))) - i)) (8 : Int)))) 4 then
     bif decide (0 ≤ i) then
      bif Nat.blt (Int.toNat i) b.length then
       bif decide ((IntKind.wrap .u64 (IntKind.wrap .i64 ((8 : Int) * (Int.tmod (IntKind.wrap .i64 ((IntKind.wrap .i64 (((b.length : Nat) : Int) - (1 : Int))) - i)) (8 : Int))))) < 0) then
        none
       else
        bif decide (0 ≤ (IntKind.wrap .i64 (Int.tdiv (IntKind.wrap .i64 ((IntKind.wrap .i64 (((b.length : Nat) : Int) - (1 : Int))) - i)) (8 : Int)))) then
         bif Nat.blt (Int.toNat (IntKind.wrap .i64 (Int.tdiv (IntKind.wrap .i64 ((IntKind.wrap .i64 (((b.length : Nat) : Int) - (1 : Int))) - i)) (8 : Int)))) 4 then
          bif Nat.blt (Int.toNat (IntKind.wrap .i64 (Int.tdiv (IntKind.wrap .i64 ((IntKind.wrap .i64 (((b.length : Nat) : Int) - (1 : Int))) - i)) (8 : Int)))) 4 then
           bif inU64 (IntKind.wrap .u64 ((limb x (Int.toNat (IntKind.wrap .i64 (Int.tdiv (IntKind.wrap .i64 ((IntKind.wrap .i64 (((b.length : Nat) : Int) - (1 : Int))) - i)) (8 : Int))))) + (shlI .u64 (IntKind.wrap .u64 (b.getD (Int.toNat i) (0 : Int))) (IntKind.wrap .u64 (IntKind.wrap .i64 ((8 : Int) * (Int.tmod (IntKind.wrap .i64 ((IntKind.wrap .i64 (((b.length : Nat) : Int) - (1 : Int))) - i)) (8 : Int)))))))) then
            some (.inl (b, (IntKind.wrap .i64 (i + (1 : Int))), b2, (setLimb x (Int.toNat (IntKind.wrap .i64 (Int.tdiv (IntKind.wrap .i64 ((IntKind.wrap .i64 (((b.length : Nat) : Int) - (1 : Int))) - i)) (8 : Int)))) (IntKind.wrap .u64 ((limb x (Int.toNat (IntKind.wrap .i64 (Int.tdiv (IntKind.wrap .i64 ((IntKind.wrap .i64 (((b.length : Nat) : Int) - (1 : Int))) - i)) (8 : Int))))) + (shlI .u64 (IntKind.wrap .u64 (b.getD (Int.toNat i) (0 : Int))) (IntKind.wrap .u64 (IntKind.wrap .i64 ((8 : Int) * (Int.tmod (IntKind.wrap .i64 ((IntKind.wrap .i64 (((b.length : Nat) : Int) - (1 : Int))) - i)) (8 : Int)))))))))))
           else none
          else none
         else none
        else none
      else none
     else none
    else none
   else none
  else none
 else
  some (.inr (b2, x))
def ref01GetL0 (b : List Int) (i : Int) (b2 : Nat) (x : Nat) : Option (Nat × Nat) := hide (iter (fun p : List Int × Int × Nat × Nat => ref01GetL0R p.1 p.2.1 p.2.2.1 p.2.2.2) (1000) (b, i, b2, x))
theorem ref01GetL0_eq (b : List Int) (i : Int) (b2 : Nat) (x : Nat) : ref01GetL0 b i b2 x = iter (fun p : List Int × Int × Nat × Nat => ref01GetL0R p.1 p.2.1 p.2.2.1 p.2.2.2) (1000) (b, i, b2, x) := hide_eq _
def ref01GetB (b : List Int) : Option (Nat × Int) :=
 bif (decide (((b.length : Nat) : Int) > (32 : Int))) then
  some (0, (11 : Int))
 else
  (ref01GetL0 b (0 : Int) 0 0).bind fun q1 =>
  some (q1.2, (0 : Int))
def ref01Get (b : List Int) : Option (Nat × Int) := hide (ref01GetB b)
theorem ref01Get_eq (b : List Int) : ref01Get b = ref01GetB b := hide_eq _
def ref01PutL0R (i : Int) (x : Nat) (b2 : List Int) (b : List Int) : Option ((Int × Nat × List Int × List Int) ⊕ (List Int × List Int)) :=
 bif (decide (i < (32 : Int))) then
  bif decide (0 ≤ (IntKind.wrap .i64 (Int.tdiv i (8 : Int)))) then
   bif Nat.blt (Int.toNat (IntKind.wrap .i64 (Int.tdiv i (8 : Int)))) 4 then
    bif Nat.blt (Int.toNat (IntKind.wrap .i64 (Int.tdiv i (8 : Int)))) 4 then
     bif decide ((IntKind.wrap .u64 (IntKind.wrap .i64 ((8 : Int) * (Int.tmod i (8 : Int))))) < 0) then
      none
     else
      bif decide (0 ≤ (IntKind.wrap .i64 ((31 : Int) - i))) then
       bif Nat.blt (Int.toNat (IntKind.wrap .i64 ((31 : Int) - i))) 32 then
        bif Nat.blt (Int.toNat (IntKind.wrap .i64 ((31 : Int) - i))) 32 then
         some (.inl ((IntKind.wrap .i64 (i + (1 : Int))), x, b2, (b.set (Int.toNat (IntKind.wrap .i64 ((31 : Int) - i))) (IntKind.wrap .u8 (shrI .u64 (limb x (Int.toNat (IntKind.wrap .i64 (Int.tdiv i (8 : Int))))) (IntKind.wrap .u64 (IntKind.wrap .i64 ((8 : Int) * (Int.tmod i (8 : Int))))))))))
        else none
       else none
      else none
    else none
   else none
  else none
 else
  some (.inr (b2, b))
def ref01PutL0 (i : Int) (x : Nat) (b2 : List Int) (b : List Int) : Option (List Int × List Int) := hide (iter (fun p : Int × Nat × List Int × List Int => ref01PutL0R p.1 p.2.1 p.2.2.1 p.2.2.2) (1000) (i, x, b2, b))
theorem ref01PutL0_eq (i : Int) (x : Nat) (b2 : List Int) (b : List Int) : ref01PutL0 i x b2 b = iter (fun p : Int × Nat × List Int × List Int => ref01PutL0R p.1 p.2.1 p.2.2.1 p.2.2.2) (1000) (i, x, b2, b) := hide_eq _
def ref01PutB (x : Nat) : Option (List Int) :=
 (ref01PutL0 (0 : Int) x (List.replicate 32 (0 : Int)) (List.replicate 32 (0 : Int))).bind fun q1 =>
 some q1.2
def ref01Put (x : Nat) : Option (List Int) := hide (ref01PutB x)
theorem ref01Put_eq (x : Nat) : ref01Put x = ref01PutB x := hide_eq _
def ref01IWithB (x : Nat) (i : Int) : Option (Nat) :=
 bif decide (0 ≤ (IntKind.wrap .i64 (Int.tdiv i (64 : Int)))) then
  bif Nat.blt (Int.toNat (IntKind.wrap .i64 (Int.tdiv i (64 : Int)))) 4 then
   bif Nat.blt (Int.toNat (IntKind.wrap .i64 (Int.tdiv i (64 : Int)))) 4 then
    bif decide ((IntKind.wrap .u64 (Int.tmod i (64 : Int))) < 0) then
     none
    else
     bif decide (0 ≤ (IntKind.wrap .i64 (Int.tdiv i (64 : Int)))) then
      bif Nat.blt (Int.toNat (IntKind.wrap .i64 (Int.tdiv i (64 : Int)))) 4 then
       bif Nat.blt (Int.toNat (IntKind.wrap .i64 (Int.tdiv i (64 : Int)))) 4 then
        bif inU64 (orI .u64 (limb x (Int.toNat (IntKind.wrap .i64 (Int.tdiv i (64 : Int))))) (shlI .u64 1 (IntKind.wrap .u64 (Int.tmod i (64 : Int))))) then
         some (setLimb x (Int.toNat (IntKind.wrap .i64 (Int.tdiv i (64 : Int)))) (orI .u64 (limb x (Int.toNat (IntKind.wrap .i64 (Int.tdiv i (64 : Int))))) (shlI .u64 1 (IntKind.wrap .u64 (Int.tmod i (64 : Int))))))
        else none
       else none
      else none
     else none
   else none
  else none
 else none
def ref01IWith (x : Nat) (i : Int) : Option (Nat) := hide (ref01IWithB x i)
theorem ref01IWith_eq (x : Nat) (i : Int) : ref01IWith x i = ref01IWithB x i := hide_eq _
def ref01ShlL0R (n : Int) (i : Int) (x : Nat) (b4 : Nat) (y : Nat) : Option ((Int × Int × Nat × Nat × Nat) ⊕ (Nat × Nat)) :=
 bif (decide (i < (256 : Int))) then
  (ref01Bit x (IntKind.wrap .i64 (i - n))).bind fun r3 =>
  bif (r3 == (1 : Int)) then
   (ref01IWith y i).bind fun r4 =>
   some (.inl (n, (IntKind.wrap .i64 (i + (1 : Int))), x, b4, r4))
  else
   some (.inl (n, (IntKind.wrap .i64 (i + (1 : Int))), x, b4, y))
 else
  some (.inr (b4, y))
def ref01ShlL0 (n : Int) (i : Int) (x : Nat) (b4 : Nat) (y : Nat) : Option (Nat × Nat) := hide (iter (fun p : Int × Int × Nat × Nat × Nat => ref01ShlL0R p.1 p.2.1 p.2.2.1 p.2.2.2.1 p.2.2.2.2) (1000) (n, i, x, b4, y))
theorem ref01ShlL0_eq (n : Int) (i : Int) (x : Nat) (b4 : Nat) (y : Nat) : ref01ShlL0 n i x b4 y = iter (fun p : Int × Int × Nat × Nat × Nat => ref01ShlL0R p.1 p.2.1 p.2.2.1 p.2.2.2.1 p.2.2.2.2) (1000) (n, i, x, b4, y) := hide_eq _
def ref01ShlB (x : Nat) (n : Int) : Option (Nat) :=
 bif (decide (n < (-255 : Int))) then
  some 0
 else
  bif (decide (n > (255 : Int))) then
   some 0
  else
   (ref01ShlL0 n (0 : Int) x 0 0).bind fun q5 =>
   some q5.2
def ref01Shl (x : Nat) (n : Int) : Option (Nat) := hide (ref01ShlB x n)
theorem ref01Shl_eq (x : Nat) (n : Int) : ref01Shl x n = ref01ShlB x n := hide_eq _
def ref01ShrB (x : Nat) (n : Int) : Option (Nat) :=
 bif (decide (n < (-255 : Int))) then
  some 0
 else
  bif (decide (n > (255 : Int))) then
   some 0
  else
   (ref01Shl x (IntKind.wrap .i64 (0 - n))).bind fun r1 =>
   some r1
def ref01Shr (x : Nat) (n : Int) : Option (Nat) := hide (ref01ShrB x n)
theorem ref01Shr_eq (x : Nat) (n : Int) : ref01Shr x n = ref01ShrB x n := hide_eq _
def ecdsaIOrderB  : Option (Nat) :=
 (fieldModulus (1 : Int)).bind fun r1 =>
 some r1.1
def ecdsaIOrder  : Option (Nat) := hide (ecdsaIOrderB )
theorem ecdsaIOrder_eq  : ecdsaIOrder  = ecdsaIOrderB  := hide_eq _
def ecdsaIFitB (x : Nat) : Option (Bool) :=
 bif (!(u256eq x 0)) then
  (ecdsaIOrder).bind fun r1 =>
  (u256Cmp x r1).bind fun r2 =>
  some (decide (r2 < (0 : Int)))
 else
  some false
def ecdsaIFit (x : Nat) : Option (Bool) := hide (ecdsaIFitB x)
theorem ecdsaIFit_eq (x : Nat) : ecdsaIFit x = ecdsaIFitB x := hide_eq _
def ecdsaILowB (s : Nat) : Option (Bool) :=
 (ecdsaIOrder).bind fun r1 =>
 (u256Shr r1 (1 : Int)).bind fun r2 =>
 (u256Cmp s r2).bind fun r3 =>
 some (decide (r3 ≤ (0 : Int)))
def ecdsaILow (s : Nat) : Option (Bool) := hide (ecdsaILowB s)
theorem ecdsaILow_eq (s : Nat) : ecdsaILow s = ecdsaILowB s := hide_eq _
def ecdsaCheckB (s : Nat × Nat × Bool) : Option (Int) :=
 (ecdsaIFit s.1).bind fun r1 =>
 bif (!r1) then
  some (61 : Int)
 else
  (ecdsaIFit s.2.1).bind fun r2 =>
  bif (!r2) then
   some (62 : Int)
  else
   (ecdsaILow s.2.1).bind fun r3 =>
   bif (!r3) then
    some (63 : Int)
   else
    some (0 : Int)
def ecdsaCheck (s : Nat × Nat × Bool) : Option (Int) := hide (ecdsaCheckB s)
theorem ecdsaCheck_eq (s : Nat × Nat × Bool) : ecdsaCheck s = ecdsaCheckB s := hide_eq _
def ref06IOrderB  : Option (Nat) :=
 (ref04Modulus (1 : Int)).bind fun r1 =>
 some r1.1
def ref06IOrder  : Option (Nat) := hide (ref06IOrderB )
theorem ref06IOrder_eq  : ref06IOrder  = ref06IOrderB  := hide_eq _
def ref06FitB (x : Nat) : Option (Bool) :=
 bif (!(u256eq x 0)) then
  (ref06IOrder).bind fun r1 =>
  (ref01Cmp x r1).bind fun r2 =>
  some (decide (r2 < (0 : Int)))
 else
  some false
def ref06Fit (x : Nat) : Option (Bool) := hide (ref06FitB x)
theorem ref06Fit_eq (x : Nat) : ref06Fit x = ref06FitB x := hide_eq _
def ref06LowB (s : Nat) : Option (Bool) :=
 (ref06IOrder).bind fun r1 =>
 (ref01Shr r1 (1 : Int)).bind fun r2 =>
 (ref01Cmp s r2).bind fun r3 =>
 some (decide (r3 ≤ (0 : Int)))
def ref06Low (s : Nat) : Option (Bool) := hide (ref06LowB s)
theorem ref06Low_eq (s : Nat) : ref06Low s = ref06LowB s := hide_eq _
def ref06CheckB (s : Nat × Nat × Bool) : Option (Int) :=
 (ref06Fit s.1).bind fun r1 =>
 bif (!r1) then
  some (61 : Int)
 else
  (ref06Fit s.2.1).bind fun r2 =>
  bif (!r2) then
   some (62 : Int)
  else
   (ref06Low s.2.1).bind fun r3 =>
   bif (!r3) then
    some (63 : Int)
   else
    some (0 : Int)
def ref06Check (s : Nat × Nat × Bool) : Option (Int) := hide (ref06CheckB s)
theorem ref06Check_eq (s : Nat × Nat × Bool) : ref06Check s = ref06CheckB s := hide_eq _
def law06INumB (e : Int) : Option (Int) :=
 some e
def law06INum (e : Int) : Option (Int) := hide (law06INumB e)
theorem law06INum_eq (e : Int) : law06INum e = law06INumB e := hide_eq _
end Go.Sy
