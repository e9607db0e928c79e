/- Typed functions, printed by a program out of the code: what each function of the code computes. -/
import Derived.Test.YtmbcolalfgepiaaDoorSyU
set_option linter.unusedVariables false
namespace Go.Sy
open Go

noncomputable def fieldIOfB (k : Int) : Option ((Nat × Nat) × Int) :=
  bif (decide (k < (0 : Int))) then
    some ((0, 0), (1 : Int))
  else
    bif (decide (k ≥ (2 : Int))) then
      some ((0, 0), (1 : Int))
    else
      bif decide (0 ≤ k) then
        bif Nat.blt (Int.toNat k) 2 then
          bif Nat.blt (Int.toNat k) 2 then
            some ((fieldModuli.getD (Int.toNat k) ((0, 0) : Nat × Nat)), (0 : Int))
          else none
        else none
      else none

noncomputable def fieldIOf (k : Int) : Option ((Nat × Nat) × Int) := hide (fieldIOfB k)

theorem fieldIOf_eq (k : Int) : fieldIOf k = fieldIOfB k := hide_eq _

noncomputable def fieldIOfE : Entry := mkE [.int .i64] [.st [.u256, .u256], .int .i64] fun p => fieldIOf p

noncomputable def fieldModulusB (k : Int) : Option (Nat × Int) :=
  (fieldIOf k).bind fun r1 =>
  some (r1.1.1, r1.2)

noncomputable def fieldModulus (k : Int) : Option (Nat × Int) := hide (fieldModulusB k)

theorem fieldModulus_eq (k : Int) : fieldModulus k = fieldModulusB k := hide_eq _

noncomputable def fieldModulusE : Entry := mkE [.int .i64] [.u256, .int .i64] fun p => fieldModulus p

noncomputable def ecdsaIOrderB  : Option (Nat) :=
  (fieldModulus (1 : Int)).bind fun r1 =>
  some r1.1

noncomputable def ecdsaIOrder  : Option (Nat) := hide (ecdsaIOrderB )

theorem ecdsaIOrder_eq  : ecdsaIOrder  = ecdsaIOrderB  := hide_eq _

noncomputable def ecdsaIOrderE : Entry := mkE [] [.u256] fun _ => ecdsaIOrder

noncomputable def u256SubB (x : Nat) (y : Nat) : Option (Nat × Int) :=
  (bitsSub64 (limb x 0) (limb y 0) (0 : Int)).bind fun r1 =>
  bif inU64 r1.1 then
    (bitsSub64 (limb x 1) (limb y 1) r1.2).bind fun r2 =>
    bif inU64 r2.1 then
      (bitsSub64 (limb x 2) (limb y 2) r2.2).bind fun r3 =>
      bif inU64 r3.1 then
        (bitsSub64 (limb x 3) (limb y 3) r3.2).bind fun r4 =>
        bif inU64 r4.1 then
          some ((setLimb (setLimb (setLimb (setLimb 0 0 r1.1) 1 r2.1) 2 r3.1) 3 r4.1), r4.2)
        else none
      else none
    else none
  else none

noncomputable def u256Sub (x : Nat) (y : Nat) : Option (Nat × Int) := hide (u256SubB x y)

theorem u256Sub_eq (x : Nat) (y : Nat) : u256Sub x y = u256SubB x y := hide_eq _

noncomputable def u256SubE : Entry := mkE [.u256, .u256] [.u256, .int .u64] fun p => u256Sub p.1 p.2

noncomputable def u256CmpB (x : Nat) (y : Nat) : Option (Int) :=
  bif (u256eq x y) then
    some (0 : Int)
  else
    (u256Sub x y).bind fun r1 =>
    bif (r1.2 == (1 : Int)) then
      some (-1 : Int)
    else
      some (1 : Int)

noncomputable def u256Cmp (x : Nat) (y : Nat) : Option (Int) := hide (u256CmpB x y)

theorem u256Cmp_eq (x : Nat) (y : Nat) : u256Cmp x y = u256CmpB x y := hide_eq _

noncomputable def u256CmpE : Entry := mkE [.u256, .u256] [.int .i64] fun p => u256Cmp p.1 p.2

noncomputable def ecdsaIFitB (x : Nat) : Option (Bool) :=
  bif (!(u256eq x 0)) then
    (ecdsaIOrder).bind fun r1 =>
    (u256Cmp x r1).bind fun r2 =>
    some (decide (r2 < (0 : Int)))
  else
    some false

noncomputable def ecdsaIFit (x : Nat) : Option (Bool) := hide (ecdsaIFitB x)

theorem ecdsaIFit_eq (x : Nat) : ecdsaIFit x = ecdsaIFitB x := hide_eq _

noncomputable def ecdsaIFitE : Entry := mkE [.u256] [.bool] fun p => ecdsaIFit p

noncomputable def u256ShlL0R (n : Int) (i : Int) (x : Nat) (b4 : Nat) (z : Nat) : Option ((Int × Int × Nat × Nat × Nat) ⊕ (Nat × Nat)) :=
  bif (decide (i < (4 : Int))) then
    bif decide (0 ≤ (IntKind.wrap .i64 (i - (IntKind.wrap .i64 (Int.tdiv n (64 : Int)))))) then
      bif Nat.blt (Int.toNat (IntKind.wrap .i64 (i - (IntKind.wrap .i64 (Int.tdiv n (64 : Int)))))) 4 then
        bif Nat.blt (Int.toNat (IntKind.wrap .i64 (i - (IntKind.wrap .i64 (Int.tdiv n (64 : Int)))))) 4 then
          bif decide ((Int.tmod n (64 : Int)) < 0) then
            none
          else
            bif decide (0 ≤ i) then
              bif Nat.blt (Int.toNat i) 4 then
                bif Nat.blt (Int.toNat i) 4 then
                  bif inU64 (shlI .u64 (limb x (Int.toNat (IntKind.wrap .i64 (i - (IntKind.wrap .i64 (Int.tdiv n (64 : Int))))))) (Int.tmod n (64 : Int))) then
                    bif (decide (i > (IntKind.wrap .i64 (Int.tdiv n (64 : Int))))) then
                      bif (decide ((Int.tmod n (64 : Int)) > (0 : Int))) then
                        bif decide (0 ≤ i) then
                          bif Nat.blt (Int.toNat i) 4 then
                            bif Nat.blt (Int.toNat i) 4 then
                              bif decide (0 ≤ (IntKind.wrap .i64 ((IntKind.wrap .i64 (i - (IntKind.wrap .i64 (Int.tdiv n (64 : Int))))) - (1 : Int)))) then
                                bif Nat.blt (Int.toNat (IntKind.wrap .i64 ((IntKind.wrap .i64 (i - (IntKind.wrap .i64 (Int.tdiv n (64 : Int))))) - (1 : Int)))) 4 then
                                  bif Nat.blt (Int.toNat (IntKind.wrap .i64 ((IntKind.wrap .i64 (i - (IntKind.wrap .i64 (Int.tdiv n (64 : Int))))) - (1 : Int)))) 4 then
                                    bif decide ((IntKind.wrap .i64 ((64 : Int) - (Int.tmod n (64 : Int)))) < 0) then
                                      none
                                    else
                                      bif decide (0 ≤ i) then
                                        bif Nat.blt (Int.toNat i) 4 then
                                          bif Nat.blt (Int.toNat i) 4 then
                                            bif inU64 (orI .u64 (limb (setLimb z (Int.toNat i) (shlI .u64 (limb x (Int.toNat (IntKind.wrap .i64 (i - (IntKind.wrap .i64 (Int.tdiv n (64 : Int))))))) (Int.tmod n (64 : Int)))) (Int.toNat i)) (shrI .u64 (limb x (Int.toNat (IntKind.wrap .i64 ((IntKind.wrap .i64 (i - (IntKind.wrap .i64 (Int.tdiv n (64 : Int))))) - (1 : Int))))) (IntKind.wrap .i64 ((64 : Int) - (Int.tmod n (64 : Int)))))) then
                                              some (.inl (n, (IntKind.wrap .i64 (i + (1 : Int))), x, b4, (setLimb (setLimb z (Int.toNat i) (shlI .u64 (limb x (Int.toNat (IntKind.wrap .i64 (i - (IntKind.wrap .i64 (Int.tdiv n (64 : Int))))))) (Int.tmod n (64 : Int)))) (Int.toNat i) (orI .u64 (limb (setLimb z (Int.toNat i) (shlI .u64 (limb x (Int.toNat (IntKind.wrap .i64 (i - (IntKind.wrap .i64 (Int.tdiv n (64 : Int))))))) (Int.tmod n (64 : Int)))) (Int.toNat i)) (shrI .u64 (limb x (Int.toNat (IntKind.wrap .i64 ((IntKind.wrap .i64 (i - (IntKind.wrap .i64 (Int.tdiv n (64 : Int))))) - (1 : Int))))) (IntKind.wrap .i64 ((64 : Int) - (Int.tmod n (64 : Int)))))))))
                                            else none
                                          else none
                                        else none
                                      else none
                                  else none
                                else none
                              else none
                            else none
                          else none
                        else none
                      else
                        some (.inl (n, (IntKind.wrap .i64 (i + (1 : Int))), x, b4, (setLimb z (Int.toNat i) (shlI .u64 (limb x (Int.toNat (IntKind.wrap .i64 (i - (IntKind.wrap .i64 (Int.tdiv n (64 : Int))))))) (Int.tmod n (64 : Int))))))
                    else
                      some (.inl (n, (IntKind.wrap .i64 (i + (1 : Int))), x, b4, (setLimb z (Int.toNat i) (shlI .u64 (limb x (Int.toNat (IntKind.wrap .i64 (i - (IntKind.wrap .i64 (Int.tdiv n (64 : Int))))))) (Int.tmod n (64 : Int))))))
                  else none
                else none
              else none
            else none
        else none
      else none
    else none
  else
    some (.inr (b4, z))

noncomputable def u256ShlL0 (n : Int) (i : Int) (x : Nat) (b4 : Nat) (z : Nat) : Option (Nat × Nat) := hide (iter (fun p : Int × Int × Nat × Nat × Nat => u256ShlL0R p.1 p.2.1 p.2.2.1 p.2.2.2.1 p.2.2.2.2) (1000) (n, i, x, b4, z))

theorem u256ShlL0_eq (n : Int) (i : Int) (x : Nat) (b4 : Nat) (z : Nat) : u256ShlL0 n i x b4 z = iter (fun p : Int × Int × Nat × Nat × Nat => u256ShlL0R p.1 p.2.1 p.2.2.1 p.2.2.2.1 p.2.2.2.2) (1000) (n, i, x, b4, z) := hide_eq _

noncomputable def u256ShlB (x : Nat) (n : Int) : Option (Nat) :=
  bif (decide (n > (255 : Int))) then
    some 0
  else
    bif (decide (n < (-255 : Int))) then
      some 0
    else
      bif (decide (n < (0 : Int))) then
        none
      else
        (u256ShlL0 n (IntKind.wrap .i64 (Int.tdiv n (64 : Int))) x 0 0).bind fun q1 =>
        some q1.2

noncomputable def u256Shl (x : Nat) (n : Int) : Option (Nat) := hide (u256ShlB x n)

theorem u256Shl_eq (x : Nat) (n : Int) : u256Shl x n = u256ShlB x n := hide_eq _

noncomputable def u256ShlE : Entry := mkE [.u256, .int .i64] [.u256] fun p => u256Shl p.1 p.2

noncomputable def u256ShrL0R (n : Int) (i : Int) (x : Nat) (b4 : Nat) (z : Nat) : Option ((Int × Int × Nat × Nat × Nat) ⊕ (Nat × Nat)) :=
  bif (decide (i < (IntKind.wrap .i64 ((4 : Int) - (IntKind.wrap .i64 (Int.tdiv n (64 : Int))))))) then
    bif decide (0 ≤ (IntKind.wrap .i64 (i + (IntKind.wrap .i64 (Int.tdiv n (64 : Int)))))) then
      bif Nat.blt (Int.toNat (IntKind.wrap .i64 (i + (IntKind.wrap .i64 (Int.tdiv n (64 : Int)))))) 4 then
        bif Nat.blt (Int.toNat (IntKind.wrap .i64 (i + (IntKind.wrap .i64 (Int.tdiv n (64 : Int)))))) 4 then
          bif decide ((Int.tmod n (64 : Int)) < 0) then
            none
          else
            bif decide (0 ≤ i) then
              bif Nat.blt (Int.toNat i) 4 then
                bif Nat.blt (Int.toNat i) 4 then
                  bif inU64 (shrI .u64 (limb x (Int.toNat (IntKind.wrap .i64 (i + (IntKind.wrap .i64 (Int.tdiv n (64 : Int))))))) (Int.tmod n (64 : Int))) then
                    bif (decide ((IntKind.wrap .i64 (i + (IntKind.wrap .i64 (Int.tdiv n (64 : Int))))) < (3 : Int))) then
                      bif (decide ((Int.tmod n (64 : Int)) > (0 : Int))) then
                        bif decide (0 ≤ i) then
                          bif Nat.blt (Int.toNat i) 4 then
                            bif Nat.blt (Int.toNat i) 4 then
                              bif decide (0 ≤ (IntKind.wrap .i64 ((IntKind.wrap .i64 (i + (IntKind.wrap .i64 (Int.tdiv n (64 : Int))))) + (1 : Int)))) then
                                bif Nat.blt (Int.toNat (IntKind.wrap .i64 ((IntKind.wrap .i64 (i + (IntKind.wrap .i64 (Int.tdiv n (64 : Int))))) + (1 : Int)))) 4 then
                                  bif Nat.blt (Int.toNat (IntKind.wrap .i64 ((IntKind.wrap .i64 (i + (IntKind.wrap .i64 (Int.tdiv n (64 : Int))))) + (1 : Int)))) 4 then
                                    bif decide ((IntKind.wrap .i64 ((64 : Int) - (Int.tmod n (64 : Int)))) < 0) then
                                      none
                                    else
                                      bif decide (0 ≤ i) then
                                        bif Nat.blt (Int.toNat i) 4 then
                                          bif Nat.blt (Int.toNat i) 4 then
                                            bif inU64 (orI .u64 (limb (setLimb z (Int.toNat i) (shrI .u64 (limb x (Int.toNat (IntKind.wrap .i64 (i + (IntKind.wrap .i64 (Int.tdiv n (64 : Int))))))) (Int.tmod n (64 : Int)))) (Int.toNat i)) (shlI .u64 (limb x (Int.toNat (IntKind.wrap .i64 ((IntKind.wrap .i64 (i + (IntKind.wrap .i64 (Int.tdiv n (64 : Int))))) + (1 : Int))))) (IntKind.wrap .i64 ((64 : Int) - (Int.tmod n (64 : Int)))))) then
                                              some (.inl (n, (IntKind.wrap .i64 (i + (1 : Int))), x, b4, (setLimb (setLimb z (Int.toNat i) (shrI .u64 (limb x (Int.toNat (IntKind.wrap .i64 (i + (IntKind.wrap .i64 (Int.tdiv n (64 : Int))))))) (Int.tmod n (64 : Int)))) (Int.toNat i) (orI .u64 (limb (setLimb z (Int.toNat i) (shrI .u64 (limb x (Int.toNat (IntKind.wrap .i64 (i + (IntKind.wrap .i64 (Int.tdiv n (64 : Int))))))) (Int.tmod n (64 : Int)))) (Int.toNat i)) (shlI .u64 (limb x (Int.toNat (IntKind.wrap .i64 ((IntKind.wrap .i64 (i + (IntKind.wrap .i64 (Int.tdiv n (64 : Int))))) + (1 : Int))))) (IntKind.wrap .i64 ((64 : Int) - (Int.tmod n (64 : Int)))))))))
                                            else none
                                          else none
                                        else none
                                      else none
                                  else none
                                else none
                              else none
                            else none
                          else none
                        else none
                      else
                        some (.inl (n, (IntKind.wrap .i64 (i + (1 : Int))), x, b4, (setLimb z (Int.toNat i) (shrI .u64 (limb x (Int.toNat (IntKind.wrap .i64 (i + (IntKind.wrap .i64 (Int.tdiv n (64 : Int))))))) (Int.tmod n (64 : Int))))))
                    else
                      some (.inl (n, (IntKind.wrap .i64 (i + (1 : Int))), x, b4, (setLimb z (Int.toNat i) (shrI .u64 (limb x (Int.toNat (IntKind.wrap .i64 (i + (IntKind.wrap .i64 (Int.tdiv n (64 : Int))))))) (Int.tmod n (64 : Int))))))
                  else none
                else none
              else none
            else none
        else none
      else none
    else none
  else
    some (.inr (b4, z))

noncomputable def u256ShrL0 (n : Int) (i : Int) (x : Nat) (b4 : Nat) (z : Nat) : Option (Nat × Nat) := hide (iter (fun p : Int × Int × Nat × Nat × Nat => u256ShrL0R p.1 p.2.1 p.2.2.1 p.2.2.2.1 p.2.2.2.2) (1000) (n, i, x, b4, z))

theorem u256ShrL0_eq (n : Int) (i : Int) (x : Nat) (b4 : Nat) (z : Nat) : u256ShrL0 n i x b4 z = iter (fun p : Int × Int × Nat × Nat × Nat => u256ShrL0R p.1 p.2.1 p.2.2.1 p.2.2.2.1 p.2.2.2.2) (1000) (n, i, x, b4, z) := hide_eq _

noncomputable def u256ShrB (x : Nat) (n : Int) : Option (Nat) :=
  bif (decide (n > (255 : Int))) then
    some 0
  else
    bif (decide (n < (-255 : Int))) then
      some 0
    else
      bif (decide (n < (0 : Int))) then
        (u256Shl x (IntKind.wrap .i64 (0 - n))).bind fun r1 =>
        some r1
      else
        (u256ShrL0 n (0 : Int) x 0 0).bind fun q2 =>
        some q2.2

noncomputable def u256Shr (x : Nat) (n : Int) : Option (Nat) := hide (u256ShrB x n)

theorem u256Shr_eq (x : Nat) (n : Int) : u256Shr x n = u256ShrB x n := hide_eq _

noncomputable def u256ShrE : Entry := mkE [.u256, .int .i64] [.u256] fun p => u256Shr p.1 p.2

noncomputable def ecdsaILowB (s : Nat) : Option (Bool) :=
  (ecdsaIOrder).bind fun r1 =>
  (u256Shr r1 (1 : Int)).bind fun r2 =>
  (u256Cmp s r2).bind fun r3 =>
  some (decide (r3 ≤ (0 : Int)))

noncomputable def ecdsaILow (s : Nat) : Option (Bool) := hide (ecdsaILowB s)

theorem ecdsaILow_eq (s : Nat) : ecdsaILow s = ecdsaILowB s := hide_eq _

noncomputable def ecdsaILowE : Entry := mkE [.u256] [.bool] fun p => ecdsaILow p

noncomputable def ecdsaCheckB (s : Nat × Nat × Bool) : Option (Int) :=
  (ecdsaIFit s.1).bind fun r1 =>
  bif (!r1) then
    some (61 : Int)
  else
    (ecdsaIFit s.2.1).bind fun r2 =>
    bif (!r2) then
      some (62 : Int)
    else
      (ecdsaILow s.2.1).bind fun r3 =>
      bif (!r3) then
        some (63 : Int)
      else
        some (0 : Int)

noncomputable def ecdsaCheck (s : Nat × Nat × Bool) : Option (Int) := hide (ecdsaCheckB s)

theorem ecdsaCheck_eq (s : Nat × Nat × Bool) : ecdsaCheck s = ecdsaCheckB s := hide_eq _

noncomputable def ecdsaCheckE : Entry := mkE [.st [.u256, .u256, .bool]] [.int .i64] fun p => ecdsaCheck p

noncomputable def law06INumB (e : Int) : Option (Int) :=
  some e

noncomputable def law06INum (e : Int) : Option (Int) := hide (law06INumB e)

theorem law06INum_eq (e : Int) : law06INum e = law06INumB e := hide_eq _

noncomputable def law06INumE : Entry := mkE [.int .i64] [.int .i64] fun p => law06INum p

noncomputable def ref04IGoodB (k : Int) : Option (Bool) :=
  bif (k == (0 : Int)) then
    some true
  else
    some (k == (1 : Int))

noncomputable def ref04IGood (k : Int) : Option (Bool) := hide (ref04IGoodB k)

theorem ref04IGood_eq (k : Int) : ref04IGood k = ref04IGoodB k := hide_eq _

noncomputable def ref04IGoodE : Entry := mkE [.int .i64] [.bool] fun p => ref04IGood p

noncomputable def ref04IModulusB (k : Int) : Option (Nat) :=
  bif (k == (0 : Int)) then
    some 115792089237316195423570985008687907853269984665640564039457584007908834671663
  else
    some 115792089237316195423570985008687907852837564279074904382605163141518161494337

noncomputable def ref04IModulus (k : Int) : Option (Nat) := hide (ref04IModulusB k)

theorem ref04IModulus_eq (k : Int) : ref04IModulus k = ref04IModulusB k := hide_eq _

noncomputable def ref04IModulusE : Entry := mkE [.int .i64] [.u256] fun p => ref04IModulus p

noncomputable def ref04ModulusB (k : Int) : Option (Nat × Int) :=
  (ref04IGood k).bind fun r1 =>
  bif (!r1) then
    some (0, (1 : Int))
  else
    (ref04IModulus k).bind fun r2 =>
    some (r2, (0 : Int))

noncomputable def ref04Modulus (k : Int) : Option (Nat × Int) := hide (ref04ModulusB k)

theorem ref04Modulus_eq (k : Int) : ref04Modulus k = ref04ModulusB k := hide_eq _

noncomputable def ref04ModulusE : Entry := mkE [.int .i64] [.u256, .int .i64] fun p => ref04Modulus p

noncomputable def ref06IOrderB  : Option (Nat) :=
  (ref04Modulus (1 : Int)).bind fun r1 =>
  some r1.1

noncomputable def ref06IOrder  : Option (Nat) := hide (ref06IOrderB )

theorem ref06IOrder_eq  : ref06IOrder  = ref06IOrderB  := hide_eq _

noncomputable def ref06IOrderE : Entry := mkE [] [.u256] fun _ => ref06IOrder

noncomputable def ref01CmpL0R (i : Int) (x : Nat) (y : Nat) : Option ((Int × Nat × Nat) ⊕ (Int ⊕ Unit)) :=
  bif (decide (i ≥ (0 : Int))) then
    bif decide (0 ≤ i) then
      bif Nat.blt (Int.toNat i) 4 then
        bif Nat.blt (Int.toNat i) 4 then
          bif decide (0 ≤ i) then
            bif Nat.blt (Int.toNat i) 4 then
              bif Nat.blt (Int.toNat i) 4 then
                bif (decide ((limb x (Int.toNat i)) < (limb y (Int.toNat i)))) then
                  some (.inr (.inl (-1 : Int)))
                else
                  bif decide (0 ≤ i) then
                    bif Nat.blt (Int.toNat i) 4 then
                      bif Nat.blt (Int.toNat i) 4 then
                        bif decide (0 ≤ i) then
                          bif Nat.blt (Int.toNat i) 4 then
                            bif Nat.blt (Int.toNat i) 4 then
                              bif (decide ((limb x (Int.toNat i)) > (limb y (Int.toNat i)))) then
                                some (.inr (.inl (1 : Int)))
                              else
                                some (.inl ((IntKind.wrap .i64 (i - (1 : Int))), x, y))
                            else none
                          else none
                        else none
                      else none
                    else none
                  else none
              else none
            else none
          else none
        else none
      else none
    else none
  else
    some (.inr (.inr ()))

noncomputable def ref01CmpL0 (i : Int) (x : Nat) (y : Nat) : Option (Int ⊕ Unit) := hide (iter (fun p : Int × Nat × Nat => ref01CmpL0R p.1 p.2.1 p.2.2) (1000) (i, x, y))

theorem ref01CmpL0_eq (i : Int) (x : Nat) (y : Nat) : ref01CmpL0 i x y = iter (fun p : Int × Nat × Nat => ref01CmpL0R p.1 p.2.1 p.2.2) (1000) (i, x, y) := hide_eq _

noncomputable def ref01CmpB (x : Nat) (y : Nat) : Option (Int) :=
  (ref01CmpL0 (3 : Int) x y).bind fun q1 =>
  sumK q1 (fun q2 =>
    some q2)
    (fun q3 =>
    some (0 : Int))

noncomputable def ref01Cmp (x : Nat) (y : Nat) : Option (Int) := hide (ref01CmpB x y)

theorem ref01Cmp_eq (x : Nat) (y : Nat) : ref01Cmp x y = ref01CmpB x y := hide_eq _

noncomputable def ref01CmpE : Entry := mkE [.u256, .u256] [.int .i64] fun p => ref01Cmp p.1 p.2

noncomputable def ref06FitB (x : Nat) : Option (Bool) :=
  bif (!(u256eq x 0)) then
    (ref06IOrder).bind fun r1 =>
    (ref01Cmp x r1).bind fun r2 =>
    some (decide (r2 < (0 : Int)))
  else
    some false

noncomputable def ref06Fit (x : Nat) : Option (Bool) := hide (ref06FitB x)

theorem ref06Fit_eq (x : Nat) : ref06Fit x = ref06FitB x := hide_eq _

noncomputable def ref06FitE : Entry := mkE [.u256] [.bool] fun p => ref06Fit p

noncomputable def ref01BitB (x : Nat) (i : Int) : Option (Int) :=
  bif (decide (i < (0 : Int))) then
    some (0 : Int)
  else
    bif (decide (i > (255 : Int))) then
      some (0 : Int)
    else
      bif decide (0 ≤ (IntKind.wrap .i64 (Int.tdiv i (64 : Int)))) then
        bif Nat.blt (Int.toNat (IntKind.wrap .i64 (Int.tdiv i (64 : Int)))) 4 then
          bif Nat.blt (Int.toNat (IntKind.wrap .i64 (Int.tdiv i (64 : Int)))) 4 then
            bif decide ((IntKind.wrap .u64 (Int.tmod i (64 : Int))) < 0) then
              none
            else
              some (IntKind.wrap .i64 (Int.tmod (shrI .u64 (limb x (Int.toNat (IntKind.wrap .i64 (Int.tdiv i (64 : Int))))) (IntKind.wrap .u64 (Int.tmod i (64 : Int)))) (2 : Int)))
          else none
        else none
      else none

noncomputable def ref01Bit (x : Nat) (i : Int) : Option (Int) := hide (ref01BitB x i)

theorem ref01Bit_eq (x : Nat) (i : Int) : ref01Bit x i = ref01BitB x i := hide_eq _

noncomputable def ref01BitE : Entry := mkE [.u256, .int .i64] [.int .i64] fun p => ref01Bit p.1 p.2

noncomputable def ref01IWithB (x : Nat) (i : Int) : Option (Nat) :=
  bif decide (0 ≤ (IntKind.wrap .i64 (Int.tdiv i (64 : Int)))) then
    bif Nat.blt (Int.toNat (IntKind.wrap .i64 (Int.tdiv i (64 : Int)))) 4 then
      bif Nat.blt (Int.toNat (IntKind.wrap .i64 (Int.tdiv i (64 : Int)))) 4 then
        bif decide ((IntKind.wrap .u64 (Int.tmod i (64 : Int))) < 0) then
          none
        else
          bif decide (0 ≤ (IntKind.wrap .i64 (Int.tdiv i (64 : Int)))) then
            bif Nat.blt (Int.toNat (IntKind.wrap .i64 (Int.tdiv i (64 : Int)))) 4 then
              bif Nat.blt (Int.toNat (IntKind.wrap .i64 (Int.tdiv i (64 : Int)))) 4 then
                bif inU64 (orI .u64 (limb x (Int.toNat (IntKind.wrap .i64 (Int.tdiv i (64 : Int))))) (shlI .u64 1 (IntKind.wrap .u64 (Int.tmod i (64 : Int))))) then
                  some (setLimb x (Int.toNat (IntKind.wrap .i64 (Int.tdiv i (64 : Int)))) (orI .u64 (limb x (Int.toNat (IntKind.wrap .i64 (Int.tdiv i (64 : Int))))) (shlI .u64 1 (IntKind.wrap .u64 (Int.tmod i (64 : Int))))))
                else none
              else none
            else none
          else none
      else none
    else none
  else none

noncomputable def ref01IWith (x : Nat) (i : Int) : Option (Nat) := hide (ref01IWithB x i)

theorem ref01IWith_eq (x : Nat) (i : Int) : ref01IWith x i = ref01IWithB x i := hide_eq _

noncomputable def ref01IWithE : Entry := mkE [.u256, .int .i64] [.u256] fun p => ref01IWith p.1 p.2

noncomputable def ref01ShlL0R (n : Int) (i : Int) (x : Nat) (b4 : Nat) (y : Nat) : Option ((Int × Int × Nat × Nat × Nat) ⊕ (Nat × Nat)) :=
  bif (decide (i < (256 : Int))) then
    (ref01Bit x (IntKind.wrap .i64 (i - n))).bind fun r3 =>
    bif (r3 == (1 : Int)) then
      (ref01IWith y i).bind fun r4 =>
      some (.inl (n, (IntKind.wrap .i64 (i + (1 : Int))), x, b4, r4))
    else
      some (.inl (n, (IntKind.wrap .i64 (i + (1 : Int))), x, b4, y))
  else
    some (.inr (b4, y))

noncomputable def ref01ShlL0 (n : Int) (i : Int) (x : Nat) (b4 : Nat) (y : Nat) : Option (Nat × Nat) := hide (iter (fun p : Int × Int × Nat × Nat × Nat => ref01ShlL0R p.1 p.2.1 p.2.2.1 p.2.2.2.1 p.2.2.2.2) (1000) (n, i, x, b4, y))

theorem ref01ShlL0_eq (n : Int) (i : Int) (x : Nat) (b4 : Nat) (y : Nat) : ref01ShlL0 n i x b4 y = iter (fun p : Int × Int × Nat × Nat × Nat => ref01ShlL0R p.1 p.2.1 p.2.2.1 p.2.2.2.1 p.2.2.2.2) (1000) (n, i, x, b4, y) := hide_eq _

noncomputable def ref01ShlB (x : Nat) (n : Int) : Option (Nat) :=
  bif (decide (n < (-255 : Int))) then
    some 0
  else
    bif (decide (n > (255 : Int))) then
      some 0
    else
      (ref01ShlL0 n (0 : Int) x 0 0).bind fun q5 =>
      some q5.2

noncomputable def ref01Shl (x : Nat) (n : Int) : Option (Nat) := hide (ref01ShlB x n)

theorem ref01Shl_eq (x : Nat) (n : Int) : ref01Shl x n = ref01ShlB x n := hide_eq _

noncomputable def ref01ShlE : Entry := mkE [.u256, .int .i64] [.u256] fun p => ref01Shl p.1 p.2

noncomputable def ref01ShrB (x : Nat) (n : Int) : Option (Nat) :=
  bif (decide (n < (-255 : Int))) then
    some 0
  else
    bif (decide (n > (255 : Int))) then
      some 0
    else
      (ref01Shl x (IntKind.wrap .i64 (0 - n))).bind fun r1 =>
      some r1

noncomputable def ref01Shr (x : Nat) (n : Int) : Option (Nat) := hide (ref01ShrB x n)

theorem ref01Shr_eq (x : Nat) (n : Int) : ref01Shr x n = ref01ShrB x n := hide_eq _

noncomputable def ref01ShrE : Entry := mkE [.u256, .int .i64] [.u256] fun p => ref01Shr p.1 p.2

noncomputable def ref06LowB (s : Nat) : Option (Bool) :=
  (ref06IOrder).bind fun r1 =>
  (ref01Shr r1 (1 : Int)).bind fun r2 =>
  (ref01Cmp s r2).bind fun r3 =>
  some (decide (r3 ≤ (0 : Int)))

noncomputable def ref06Low (s : Nat) : Option (Bool) := hide (ref06LowB s)

theorem ref06Low_eq (s : Nat) : ref06Low s = ref06LowB s := hide_eq _

noncomputable def ref06LowE : Entry := mkE [.u256] [.bool] fun p => ref06Low p

noncomputable def ref06CheckB (s : Nat × Nat × Bool) : Option (Int) :=
  (ref06Fit s.1).bind fun r1 =>
  bif (!r1) then
    some (61 : Int)
  else
    (ref06Fit s.2.1).bind fun r2 =>
    bif (!r2) then
      some (62 : Int)
    else
      (ref06Low s.2.1).bind fun r3 =>
      bif (!r3) then
        some (63 : Int)
      else
        some (0 : Int)

noncomputable def ref06Check (s : Nat × Nat × Bool) : Option (Int) := hide (ref06CheckB s)

theorem ref06Check_eq (s : Nat × Nat × Bool) : ref06Check s = ref06CheckB s := hide_eq _

noncomputable def ref06CheckE : Entry := mkE [.st [.u256, .u256, .bool]] [.int .i64] fun p => ref06Check p

noncomputable def law06EcdsaChecksB (s : Nat × Nat × Bool) : Option (Bool) :=
  (ecdsaCheck s).bind fun r1 =>
  (law06INum r1).bind fun r2 =>
  (ref06Check s).bind fun r3 =>
  some (r2 == r3)

noncomputable def law06EcdsaChecks (s : Nat × Nat × Bool) : Option (Bool) := hide (law06EcdsaChecksB s)

theorem law06EcdsaChecks_eq (s : Nat × Nat × Bool) : law06EcdsaChecks s = law06EcdsaChecksB s := hide_eq _

noncomputable def law06EcdsaChecksE : Entry := mkE [.st [.u256, .u256, .bool]] [.bool] fun p => law06EcdsaChecks p

end Go.Sy
