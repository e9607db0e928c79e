/- Typed functions, printed by a program out of the code: what each function of the code computes. -/
import Derived.Test.YthhijclndgipaaaDoorSyVC2
set_option linter.unusedVariables false
namespace Go.Sy
open Go

noncomputable def ecdsaINumberB (digest : List Int) : Option (Nat) :=
  (u256Get (List.take 32 (List.drop 0 digest))).bind fun r1 =>
  (fieldReduce (1 : Int) 0 r1.1).bind fun r2 =>
  some r2.1

noncomputable def ecdsaINumber (digest : List Int) : Option (Nat) := hide (ecdsaINumberB digest)

theorem ecdsaINumber_eq (digest : List Int) : ecdsaINumber digest = ecdsaINumberB digest := hide_eq _

noncomputable def ecdsaSignWithB (key : Nat) (nonce : Nat) (digest : List Int) : Option ((Nat × Nat × Bool) × Int) :=
  (ecdsaIFit key).bind fun r1 =>
  bif (!r1) then
    some ((0, 0, false), (60 : Int))
  else
    (ecdsaIFit nonce).bind fun r2 =>
    bif (!r2) then
      some ((0, 0, false), (60 : Int))
    else
      (curveMulG nonce).bind fun r3 =>
      (ecdsaIOrder).bind fun r4 =>
      (u256Cmp r3.1 r4).bind fun r5 =>
      bif (decide (r5 ≥ (0 : Int))) then
        some ((0, 0, false), (64 : Int))
      else
        (fieldMul (1 : Int) r3.1 key).bind fun r6 =>
        (ecdsaINumber digest).bind fun r7 =>
        (fieldAdd (1 : Int) r7 r6.1).bind fun r8 =>
        (fieldInverse (1 : Int) nonce).bind fun r9 =>
        (fieldMul (1 : Int) r8.1 r9.1).bind fun r10 =>
        bif (u256eq r3.1 0) then
          some ((0, 0, false), (65 : Int))
        else
          bif (u256eq r10.1 0) then
            some ((0, 0, false), (65 : Int))
          else
            (u256Bit r3.2.1 (0 : Int)).bind fun r11 =>
            (ecdsaILow r10.1).bind fun r12 =>
            bif (!r12) then
              (fieldNeg (1 : Int) r10.1).bind fun r13 =>
              some ((r3.1, r13.1, (!(r11 == (1 : Int)))), (0 : Int))
            else
              some ((r3.1, r10.1, (r11 == (1 : Int))), (0 : Int))

noncomputable def ecdsaSignWith (key : Nat) (nonce : Nat) (digest : List Int) : Option ((Nat × Nat × Bool) × Int) := hide (ecdsaSignWithB key nonce digest)

theorem ecdsaSignWith_eq (key : Nat) (nonce : Nat) (digest : List Int) : ecdsaSignWith key nonce digest = ecdsaSignWithB key nonce digest := hide_eq _

noncomputable def law06IFitB (x : Nat) : Option (Bool) :=
  (fieldModulus (1 : Int)).bind fun r1 =>
  bif (r1.2 == (0 : Int)) then
    bif (!(u256eq x 0)) then
      (u256Cmp x r1.1).bind fun r2 =>
      some (decide (r2 < (0 : Int)))
    else
      some false
  else
    some false

noncomputable def law06IFit (x : Nat) : Option (Bool) := hide (law06IFitB x)

theorem law06IFit_eq (x : Nat) : law06IFit x = law06IFitB x := hide_eq _

noncomputable def law06IPlusB (x : Nat) (y : Nat) : Option (Nat) :=
  (fieldAdd (1 : Int) x y).bind fun r1 =>
  some r1.1

noncomputable def law06IPlus (x : Nat) (y : Nat) : Option (Nat) := hide (law06IPlusB x y)

theorem law06IPlus_eq (x : Nat) (y : Nat) : law06IPlus x y = law06IPlusB x y := hide_eq _

noncomputable def law06INumberB (digest : List Int) : Option (Nat) :=
  (u256Get (List.take 32 (List.drop 0 digest))).bind fun r1 =>
  (law06IPlus r1.1 0).bind fun r2 =>
  some r2

noncomputable def law06INumber (digest : List Int) : Option (Nat) := hide (law06INumberB digest)

theorem law06INumber_eq (digest : List Int) : law06INumber digest = law06INumberB digest := hide_eq _

noncomputable def law06ITimesB (x : Nat) (y : Nat) : Option (Nat) :=
  (fieldMul (1 : Int) x y).bind fun r1 =>
  some r1.1

noncomputable def law06ITimes (x : Nat) (y : Nat) : Option (Nat) := hide (law06ITimesB x y)

theorem law06ITimes_eq (x : Nat) (y : Nat) : law06ITimes x y = law06ITimesB x y := hide_eq _

noncomputable def law06INegB (x : Nat) : Option (Nat) :=
  (fieldNeg (1 : Int) x).bind fun r1 =>
  some r1.1

noncomputable def law06INeg (x : Nat) : Option (Nat) := hide (law06INegB x)

theorem law06INeg_eq (x : Nat) : law06INeg x = law06INegB x := hide_eq _

noncomputable def law06EcdsaTextbookB (key : Nat) (nonce : Nat) (digest : List Int) : Option (Bool) :=
  (ecdsaSignWith key nonce digest).bind fun r1 =>
  (law06IFit key).bind fun r2 =>
  bif (!r2) then
    bif (r1.2 == (60 : Int)) then
      some ((u256eq r1.1.1 0) && ((u256eq r1.1.2.1 0) && (r1.1.2.2 == false)))
    else
      some false
  else
    (law06IFit nonce).bind fun r3 =>
    bif (!r3) then
      bif (r1.2 == (60 : Int)) then
        some ((u256eq r1.1.1 0) && ((u256eq r1.1.2.1 0) && (r1.1.2.2 == false)))
      else
        some false
    else
      (curveMulG nonce).bind fun r4 =>
      (law06INumber digest).bind fun r5 =>
      (law06ITimes r4.1 key).bind fun r6 =>
      (law06IPlus r5 r6).bind fun r7 =>
      (law06IFit r4.1).bind fun r8 =>
      bif (!r8) then
        bif (r1.2 == (64 : Int)) then
          some ((u256eq r1.1.1 0) && ((u256eq r1.1.2.1 0) && (r1.1.2.2 == false)))
        else
          bif (r1.2 == (65 : Int)) then
            some ((u256eq r1.1.1 0) && ((u256eq r1.1.2.1 0) && (r1.1.2.2 == false)))
          else
            some false
      else
        bif (u256eq r7 0) then
          bif (r1.2 == (65 : Int)) then
            some ((u256eq r1.1.1 0) && ((u256eq r1.1.2.1 0) && (r1.1.2.2 == false)))
          else
            some false
        else
          bif (r1.2 != (0 : Int)) then
            some false
          else
            bif (!(u256eq r1.1.1 r4.1)) then
              some false
            else
              (ecdsaCheck r1.1).bind fun r9 =>
              bif (r9 != (0 : Int)) then
                some false
              else
                (law06ITimes r1.1.2.1 nonce).bind fun r10 =>
                bif (u256eq r10 r7) then
                  some (r1.1.2.2 == ((Int.tmod (limb r4.2.1 0) (2 : Int)) == (1 : Int)))
                else
                  (law06ITimes r1.1.2.1 nonce).bind fun r11 =>
                  (law06INeg r7).bind fun r12 =>
                  bif (u256eq r11 r12) then
                    some (r1.1.2.2 == (!((Int.tmod (limb r4.2.1 0) (2 : Int)) == (1 : Int))))
                  else
                    some false

noncomputable def law06EcdsaTextbook (key : Nat) (nonce : Nat) (digest : List Int) : Option (Bool) := hide (law06EcdsaTextbookB key nonce digest)

theorem law06EcdsaTextbook_eq (key : Nat) (nonce : Nat) (digest : List Int) : law06EcdsaTextbook key nonce digest = law06EcdsaTextbookB key nonce digest := hide_eq _

noncomputable def law06EcdsaTurnedB (key : Nat) (nonce : Nat) (digest : List Int) : Option (Bool) :=
  (ecdsaSignWith key nonce digest).bind fun r1 =>
  (law06IFit key).bind fun r2 =>
  bif (!r2) then
    some (r1.2 == (60 : Int))
  else
    (law06IFit nonce).bind fun r3 =>
    bif (!r3) then
      some (r1.2 == (60 : Int))
    else
      (law06INeg nonce).bind fun r4 =>
      (ecdsaSignWith key r4 digest).bind fun r5 =>
      bif (r1.2 != r5.2) then
        some false
      else
        bif (!((u256eq r1.1.1 r5.1.1) && ((u256eq r1.1.2.1 r5.1.2.1) && (r1.1.2.2 == r5.1.2.2)))) then
          some false
        else
          bif (r1.2 != (0 : Int)) then
            bif (r1.2 == (64 : Int)) then
              some true
            else
              some (r1.2 == (65 : Int))
          else
            (fieldModulus (1 : Int)).bind fun r6 =>
            (law06INeg r1.1.2.1).bind fun r7 =>
            (ecdsaCheck (r1.1.1, r7, r1.1.2.2)).bind fun r8 =>
            bif (r8 == (63 : Int)) then
              (ecdsaCheck (0, r1.1.2.1, r1.1.2.2)).bind fun r9 =>
              bif (r9 == (61 : Int)) then
                (ecdsaCheck (r1.1.1, r6.1, r1.1.2.2)).bind fun r10 =>
                some (r10 == (62 : Int))
              else
                some false
            else
              some false

noncomputable def law06EcdsaTurned (key : Nat) (nonce : Nat) (digest : List Int) : Option (Bool) := hide (law06EcdsaTurnedB key nonce digest)

theorem law06EcdsaTurned_eq (key : Nat) (nonce : Nat) (digest : List Int) : law06EcdsaTurned key nonce digest = law06EcdsaTurnedB key nonce digest := hide_eq _

noncomputable def ecdsaRecoverB (digest : List Int) (s : Nat × Nat × Bool) : Option ((Nat × Nat × Bool) × Int) :=
  (ecdsaCheck s).bind fun r1 =>
  bif (r1 != (0 : Int)) then
    some ((0, 0, false), r1)
  else
    (curveLift s.1 s.2.2).bind fun r2 =>
    bif (r2.2 != (0 : Int)) then
      some ((0, 0, false), (64 : Int))
    else
      (fieldInverse (1 : Int) s.1).bind fun r3 =>
      (ecdsaINumber digest).bind fun r4 =>
      (fieldNeg (1 : Int) r4).bind fun r5 =>
      (fieldMul (1 : Int) r5.1 r3.1).bind fun r6 =>
      (fieldMul (1 : Int) s.2.1 r3.1).bind fun r7 =>
      (curveMulAdd r6.1 r7.1 r2.1).bind fun r8 =>
      bif (r8.2 != (0 : Int)) then
        some ((0, 0, false), r8.2)
      else
        bif r8.1.2.2 then
          some ((0, 0, false), (65 : Int))
        else
          some (r8.1, (0 : Int))

noncomputable def ecdsaRecover (digest : List Int) (s : Nat × Nat × Bool) : Option ((Nat × Nat × Bool) × Int) := hide (ecdsaRecoverB digest s)

theorem ecdsaRecover_eq (digest : List Int) (s : Nat × Nat × Bool) : ecdsaRecover digest s = ecdsaRecoverB digest s := hide_eq _

noncomputable def ecdsaVerifyB (pub : Nat × Nat × Bool) (digest : List Int) (s : Nat × Nat × Bool) : Option (Bool × Int) :=
  (curveOn pub).bind fun r1 =>
  bif (!r1) then
    some (false, (50 : Int))
  else
    bif pub.2.2 then
      some (false, (50 : Int))
    else
      (ecdsaCheck s).bind fun r2 =>
      bif (r2 != (0 : Int)) then
        some (false, r2)
      else
        (fieldInverse (1 : Int) s.2.1).bind fun r3 =>
        (ecdsaINumber digest).bind fun r4 =>
        (fieldMul (1 : Int) r4 r3.1).bind fun r5 =>
        (fieldMul (1 : Int) s.1 r3.1).bind fun r6 =>
        (curveMulAdd r5.1 r6.1 pub).bind fun r7 =>
        bif (r7.2 != (0 : Int)) then
          some (false, r7.2)
        else
          bif r7.1.2.2 then
            some (false, r7.2)
          else
            (fieldReduce (1 : Int) 0 r7.1.1).bind fun r8 =>
            some ((u256eq r8.1 s.1), (0 : Int))

noncomputable def ecdsaVerify (pub : Nat × Nat × Bool) (digest : List Int) (s : Nat × Nat × Bool) : Option (Bool × Int) := hide (ecdsaVerifyB pub digest s)

theorem ecdsaVerify_eq (pub : Nat × Nat × Bool) (digest : List Int) (s : Nat × Nat × Bool) : ecdsaVerify pub digest s = ecdsaVerifyB pub digest s := hide_eq _

noncomputable def law06EcdsaRecoveredB (digest : List Int) (s : Nat × Nat × Bool) : Option (Bool) :=
  (ecdsaRecover digest s).bind fun r1 =>
  (ecdsaCheck s).bind fun r2 =>
  bif (r2 != (0 : Int)) then
    bif (r1.2 == r2) then
      some ((u256eq r1.1.1 0) && ((u256eq r1.1.2.1 0) && (r1.1.2.2 == false)))
    else
      some false
  else
    (curveLift s.1 s.2.2).bind fun r3 =>
    bif (r3.2 != (0 : Int)) then
      bif (r1.2 == (64 : Int)) then
        some ((u256eq r1.1.1 0) && ((u256eq r1.1.2.1 0) && (r1.1.2.2 == false)))
      else
        some false
    else
      (curveMul s.2.1 r3.1).bind fun r4 =>
      (law06INumber digest).bind fun r5 =>
      (curveMulAdd r5 s.1 r1.1).bind fun r6 =>
      bif (r1.2 == (65 : Int)) then
        bif (r4.2 == (0 : Int)) then
          (law06INumber digest).bind fun r7 =>
          (curveMulG r7).bind fun r8 =>
          bif ((u256eq r4.1.1 r8.1) && ((u256eq r4.1.2.1 r8.2.1) && (r4.1.2.2 == r8.2.2))) then
            some ((u256eq r1.1.1 0) && ((u256eq r1.1.2.1 0) && (r1.1.2.2 == false)))
          else
            some false
        else
          some false
      else
        bif (r1.2 != (0 : Int)) then
          some false
        else
          bif (r4.2 != (0 : Int)) then
            some false
          else
            bif (r6.2 != (0 : Int)) then
              some false
            else
              bif (!((u256eq r6.1.1 r4.1.1) && ((u256eq r6.1.2.1 r4.1.2.1) && (r6.1.2.2 == r4.1.2.2)))) then
                some false
              else
                bif r1.1.2.2 then
                  some false
                else
                  (ecdsaVerify r1.1 digest s).bind fun r9 =>
                  (ecdsaRecover digest (s.1, s.2.1, (!s.2.2))).bind fun r10 =>
                  bif r9.1 then
                    bif (r9.2 == (0 : Int)) then
                      bif (r10.2 == (65 : Int)) then
                        some true
                      else
                        bif (r10.2 == (0 : Int)) then
                          some (!((u256eq r10.1.1 r1.1.1) && ((u256eq r10.1.2.1 r1.1.2.1) && (r10.1.2.2 == r1.1.2.2))))
                        else
                          some false
                    else
                      some false
                  else
                    some false

noncomputable def law06EcdsaRecovered (digest : List Int) (s : Nat × Nat × Bool) : Option (Bool) := hide (law06EcdsaRecoveredB digest s)

theorem law06EcdsaRecovered_eq (digest : List Int) (s : Nat × Nat × Bool) : law06EcdsaRecovered digest s = law06EcdsaRecoveredB digest s := hide_eq _

end Go.Sy
