/- Typed functions, printed by a program out of the code: what each function of the code computes. -/

import Derived.Test.YtfappeeggccicaaDoorSyVC3

set_option linter.unusedVariables false

namespace Go.Sy

open Go

noncomputable def ecdsaINumberB (digest : List Int) : Option (Nat) :=
  (u256Get (List.take 32 (List.drop 0 digest))).bind fun r1 =>
  (fieldReduce (1 : Int) 0 r1.1).bind fun r2 =>
  some r2.1

noncomputable def ecdsaINumber (digest : List Int) : Option (Nat) := hide (ecdsaINumberB digest)

theorem ecdsaINumber_eq (digest : List Int) : ecdsaINumber digest = ecdsaINumberB digest := hide_eq _

noncomputable def ecdsaSignWithB (key : Nat) (nonce : Nat) (digest : List Int) : Option ((Nat × Nat × Bool) × Int) :=
  (ecdsaIFit key).bind fun r1 =>
  bif (!r1) then
    some ((0, 0, false), (60 : Int))
  else
    (ecdsaIFit nonce).bind fun r2 =>
    bif (!r2) then
      some ((0, 0, false), (60 : Int))
    else
      (curveMulG nonce).bind fun r3 =>
      (ecdsaIOrder).bind fun r4 =>
      (u256Cmp r3.1 r4).bind fun r5 =>
      bif (decide (r5 ≥ (0 : Int))) then
        some ((0, 0, false), (64 : Int))
      else
        (fieldMul (1 : Int) r3.1 key).bind fun r6 =>
        (ecdsaINumber digest).bind fun r7 =>
        (fieldAdd (1 : Int) r7 r6.1).bind fun r8 =>
        (fieldInverse (1 : Int) nonce).bind fun r9 =>
        (fieldMul (1 : Int) r8.1 r9.1).bind fun r10 =>
        bif (u256eq r3.1 0) then
          some ((0, 0, false), (65 : Int))
        else
          bif (u256eq r10.1 0) then
            some ((0, 0, false), (65 : Int))
          else
            (u256Bit r3.2.1 (0 : Int)).bind fun r11 =>
            (ecdsaILow r10.1).bind fun r12 =>
            bif (!r12) then
              (fieldNeg (1 : Int) r10.1).bind fun r13 =>
              some ((r3.1, r13.1, (!(r11 == (1 : Int)))), (0 : Int))
            else
              some ((r3.1, r10.1, (r11 == (1 : Int))), (0 : Int))

noncomputable def ecdsaSignWith (key : Nat) (nonce : Nat) (digest : List Int) : Option ((Nat × Nat × Bool) × Int) := hide (ecdsaSignWithB key nonce digest)

theorem ecdsaSignWith_eq (key : Nat) (nonce : Nat) (digest : List Int) : ecdsaSignWith key nonce digest = ecdsaSignWithB key nonce digest := hide_eq _

noncomputable def ecdsaRecoverB (digest : List Int) (s : Nat × Nat × Bool) : Option ((Nat × Nat × Bool) × Int) :=
  (ecdsaCheck s).bind fun r1 =>
  bif (r1 != (0 : Int)) then
    some ((0, 0, false), r1)
  else
    (curveLift s.1 s.2.2).bind fun r2 =>
    bif (r2.2 != (0 : Int)) then
      some ((0, 0, false), (64 : Int))
    else
      (fieldInverse (1 : Int) s.1).bind fun r3 =>
      (ecdsaINumber digest).bind fun r4 =>
      (fieldNeg (1 : Int) r4).bind fun r5 =>
      (fieldMul (1 : Int) r5.1 r3.1).bind fun r6 =>
      (fieldMul (1 : Int) s.2.1 r3.1).bind fun r7 =>
      (curveMulAdd r6.1 r7.1 r2.1).bind fun r8 =>
      bif (r8.2 != (0 : Int)) then
        some ((0, 0, false), r8.2)
      else
        bif r8.1.2.2 then
          some ((0, 0, false), (65 : Int))
        else
          some (r8.1, (0 : Int))

noncomputable def ecdsaRecover (digest : List Int) (s : Nat × Nat × Bool) : Option ((Nat × Nat × Bool) × Int) := hide (ecdsaRecoverB digest s)

theorem ecdsaRecover_eq (digest : List Int) (s : Nat × Nat × Bool) : ecdsaRecover digest s = ecdsaRecoverB digest s := hide_eq _

noncomputable def law06IFitB (x : Nat) : Option (Bool) :=
  (fieldModulus (1 : Int)).bind fun r1 =>
  bif (r1.2 == (0 : Int)) then
    bif (!(u256eq x 0)) then
      (u256Cmp x r1.1).bind fun r2 =>
      some (decide (r2 < (0 : Int)))
    else
      some false
  else
    some false

noncomputable def law06IFit (x : Nat) : Option (Bool) := hide (law06IFitB x)

theorem law06IFit_eq (x : Nat) : law06IFit x = law06IFitB x := hide_eq _

end Go.Sy
