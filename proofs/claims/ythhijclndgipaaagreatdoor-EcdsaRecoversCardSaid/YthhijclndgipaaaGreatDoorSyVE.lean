/- Typed functions, printed by a program out of the code: what each function of the code computes. -/
import Derived.Test.YthhijclndgipaaaGreatDoorSyVC2
set_option linter.unusedVariables false
namespace Go.Sy
open Go

noncomputable def ecdsaINumberB (digest : List Int) : Option (Nat) :=
  (u256Get (List.take 32 (List.drop 0 digest))).bind fun r1 =>
  (fieldReduce (1 : Int) 0 r1.1).bind fun r2 =>
  some r2.1

noncomputable def ecdsaINumber (digest : List Int) : Option (Nat) := hide (ecdsaINumberB digest)

theorem ecdsaINumber_eq (digest : List Int) : ecdsaINumber digest = ecdsaINumberB digest := hide_eq _

noncomputable def ecdsaSignWithB (key : Nat) (nonce : Nat) (digest : List Int) : Option ((Nat × Nat × Bool) × Int) :=
  (ecdsaIFit key).bind fun r1 =>
  bif (!r1) then
    some ((0, 0, false), (60 : Int))
  else
    (ecdsaIFit nonce).bind fun r2 =>
    bif (!r2) then
      some ((0, 0, false), (60 : Int))
    else
      (curveMulG nonce).bind fun r3 =>
      (ecdsaIOrder).bind fun r4 =>
      (u256Cmp r3.1 r4).bind fun r5 =>
      bif (decide (r5 ≥ (0 : Int))) then
        some ((0, 0, false), (64 : Int))
      else
        (fieldMul (1 : Int) r3.1 key).bind fun r6 =>
        (ecdsaINumber digest).bind fun r7 =>
        (fieldAdd (1 : Int) r7 r6.1).bind fun r8 =>
        (fieldInverse (1 : Int) nonce).bind fun r9 =>
        (fieldMul (1 : Int) r8.1 r9.1).bind fun r10 =>
        bif (u256eq r3.1 0) then
          some ((0, 0, false), (65 : Int))
        else
          bif (u256eq r10.1 0) then
            some ((0, 0, false), (65 : Int))
          else
            (u256Bit r3.2.1 (0 : Int)).bind fun r11 =>
            (ecdsaILow r10.1).bind fun r12 =>
            bif (!r12) then
              (fieldNeg (1 : Int) r10.1).bind fun r13 =>
              some ((r3.1, r13.1, (!(r11 == (1 : Int)))), (0 : Int))
            else
              some ((r3.1, r10.1, (r11 == (1 : Int))), (0 : Int))

noncomputable def ecdsaSignWith (key : Nat) (nonce : Nat) (digest : List Int) : Option ((Nat × Nat × Bool) × Int) := hide (ecdsaSignWithB key nonce digest)

theorem ecdsaSignWith_eq (key : Nat) (nonce : Nat) (digest : List Int) : ecdsaSignWith key nonce digest = ecdsaSignWithB key nonce digest := hide_eq _

noncomputable def ref06NumberB (digest : List Int) : Option (Nat) :=
  (ref01Get (List.take 32 (List.drop 0 digest))).bind fun r1 =>
  (ref04Reduce (1 : Int) 0 r1.1).bind fun r2 =>
  some r2.1

noncomputable def ref06Number (digest : List Int) : Option (Nat) := hide (ref06NumberB digest)

theorem ref06Number_eq (digest : List Int) : ref06Number digest = ref06NumberB digest := hide_eq _

noncomputable def ref06ITimesB (x : Nat) (y : Nat) : Option (Nat) :=
  (ref04Mul (1 : Int) x y).bind fun r1 =>
  some r1.1

noncomputable def ref06ITimes (x : Nat) (y : Nat) : Option (Nat) := hide (ref06ITimesB x y)

theorem ref06ITimes_eq (x : Nat) (y : Nat) : ref06ITimes x y = ref06ITimesB x y := hide_eq _

noncomputable def ref06IPlusB (x : Nat) (y : Nat) : Option (Nat) :=
  (ref04Add (1 : Int) x y).bind fun r1 =>
  some r1.1

noncomputable def ref06IPlus (x : Nat) (y : Nat) : Option (Nat) := hide (ref06IPlusB x y)

theorem ref06IPlus_eq (x : Nat) (y : Nat) : ref06IPlus x y = ref06IPlusB x y := hide_eq _

noncomputable def ref06IInverseB (x : Nat) : Option (Nat) :=
  (ref04Inverse (1 : Int) x).bind fun r1 =>
  some r1.1

noncomputable def ref06IInverse (x : Nat) : Option (Nat) := hide (ref06IInverseB x)

theorem ref06IInverse_eq (x : Nat) : ref06IInverse x = ref06IInverseB x := hide_eq _

noncomputable def ref06IOddB (x : Nat) : Option (Bool) :=
  some ((Int.tmod (limb x 0) (2 : Int)) == (1 : Int))

noncomputable def ref06IOdd (x : Nat) : Option (Bool) := hide (ref06IOddB x)

theorem ref06IOdd_eq (x : Nat) : ref06IOdd x = ref06IOddB x := hide_eq _

noncomputable def ref06TextbookB (key : Nat) (nonce : Nat) (digest : List Int) : Option ((Nat × Nat × Bool) × Int) :=
  (ref06Fit key).bind fun r1 =>
  (ref06Fit nonce).bind fun r2 =>
  bif (!r1) then
    some ((0, 0, false), (60 : Int))
  else
    bif (!r2) then
      some ((0, 0, false), (60 : Int))
    else
      (ref05MulG nonce).bind fun r3 =>
      (ref06IOrder).bind fun r4 =>
      (ref01Cmp r3.1 r4).bind fun r5 =>
      bif (decide (r5 ≥ (0 : Int))) then
        some ((0, 0, false), (64 : Int))
      else
        (ref06Number digest).bind fun r6 =>
        (ref06ITimes r3.1 key).bind fun r7 =>
        (ref06IPlus r6 r7).bind fun r8 =>
        (ref06IInverse nonce).bind fun r9 =>
        (ref06ITimes r8 r9).bind fun r10 =>
        bif (u256eq r3.1 0) then
          some ((0, 0, false), (65 : Int))
        else
          bif (u256eq r10 0) then
            some ((0, 0, false), (65 : Int))
          else
            (ref06IOdd r3.2.1).bind fun r11 =>
            some ((r3.1, r10, r11), (0 : Int))

noncomputable def ref06Textbook (key : Nat) (nonce : Nat) (digest : List Int) : Option ((Nat × Nat × Bool) × Int) := hide (ref06TextbookB key nonce digest)

theorem ref06Textbook_eq (key : Nat) (nonce : Nat) (digest : List Int) : ref06Textbook key nonce digest = ref06TextbookB key nonce digest := hide_eq _

noncomputable def ref06SignWithB (key : Nat) (nonce : Nat) (digest : List Int) : Option ((Nat × Nat × Bool) × Int) :=
  (ref06Textbook key nonce digest).bind fun r1 =>
  bif (r1.2 != (0 : Int)) then
    some ((0, 0, false), r1.2)
  else
    (ref06Low r1.1.2.1).bind fun r2 =>
    bif (!r2) then
      (ref06IOrder).bind fun r3 =>
      (ref01Sub r3 r1.1.2.1).bind fun r4 =>
      some ((r1.1.1, r4.1, (!r1.1.2.2)), (0 : Int))
    else
      some (r1.1, (0 : Int))

noncomputable def ref06SignWith (key : Nat) (nonce : Nat) (digest : List Int) : Option ((Nat × Nat × Bool) × Int) := hide (ref06SignWithB key nonce digest)

theorem ref06SignWith_eq (key : Nat) (nonce : Nat) (digest : List Int) : ref06SignWith key nonce digest = ref06SignWithB key nonce digest := hide_eq _

noncomputable def law06INumB (e : Int) : Option (Int) :=
  some e

noncomputable def law06INum (e : Int) : Option (Int) := hide (law06INumB e)

theorem law06INum_eq (e : Int) : law06INum e = law06INumB e := hide_eq _

noncomputable def law06EcdsaSignsWithB (key : Nat) (nonce : Nat) (digest : List Int) : Option (Bool) :=
  (ecdsaSignWith key nonce digest).bind fun r1 =>
  (ref06SignWith key nonce digest).bind fun r2 =>
  bif ((u256eq r1.1.1 r2.1.1) && ((u256eq r1.1.2.1 r2.1.2.1) && (r1.1.2.2 == r2.1.2.2))) then
    (law06INum r1.2).bind fun r3 =>
    some (r3 == r2.2)
  else
    some false

noncomputable def law06EcdsaSignsWith (key : Nat) (nonce : Nat) (digest : List Int) : Option (Bool) := hide (law06EcdsaSignsWithB key nonce digest)

theorem law06EcdsaSignsWith_eq (key : Nat) (nonce : Nat) (digest : List Int) : law06EcdsaSignsWith key nonce digest = law06EcdsaSignsWithB key nonce digest := hide_eq _

noncomputable def ecdsaVerifyB (pub : Nat × Nat × Bool) (digest : List Int) (s : Nat × Nat × Bool) : Option (Bool × Int) :=
  (curveOn pub).bind fun r1 =>
  bif (!r1) then
    some (false, (50 : Int))
  else
    bif pub.2.2 then
      some (false, (50 : Int))
    else
      (ecdsaCheck s).bind fun r2 =>
      bif (r2 != (0 : Int)) then
        some (false, r2)
      else
        (fieldInverse (1 : Int) s.2.1).bind fun r3 =>
        (ecdsaINumber digest).bind fun r4 =>
        (fieldMul (1 : Int) r4 r3.1).bind fun r5 =>
        (fieldMul (1 : Int) s.1 r3.1).bind fun r6 =>
        (curveMulAdd r5.1 r6.1 pub).bind fun r7 =>
        bif (r7.2 != (0 : Int)) then
          some (false, r7.2)
        else
          bif r7.1.2.2 then
            some (false, r7.2)
          else
            (fieldReduce (1 : Int) 0 r7.1.1).bind fun r8 =>
            some ((u256eq r8.1 s.1), (0 : Int))

noncomputable def ecdsaVerify (pub : Nat × Nat × Bool) (digest : List Int) (s : Nat × Nat × Bool) : Option (Bool × Int) := hide (ecdsaVerifyB pub digest s)

theorem ecdsaVerify_eq (pub : Nat × Nat × Bool) (digest : List Int) (s : Nat × Nat × Bool) : ecdsaVerify pub digest s = ecdsaVerifyB pub digest s := hide_eq _

noncomputable def ref06VerifyB (pub : Nat × Nat × Bool) (digest : List Int) (s : Nat × Nat × Bool) : Option (Bool × Int) :=
  (ref05On pub).bind fun r1 =>
  bif (!r1) then
    some (false, (50 : Int))
  else
    bif pub.2.2 then
      some (false, (50 : Int))
    else
      (ref06Check s).bind fun r2 =>
      bif (r2 != (0 : Int)) then
        some (false, r2)
      else
        (ref06IInverse s.2.1).bind fun r3 =>
        (ref06Number digest).bind fun r4 =>
        (ref06ITimes r4 r3).bind fun r5 =>
        (ref06ITimes s.1 r3).bind fun r6 =>
        (ref05MulAdd r5 r6 pub).bind fun r7 =>
        bif r7.1.2.2 then
          some (false, (0 : Int))
        else
          (ref04Reduce (1 : Int) 0 r7.1.1).bind fun r8 =>
          some ((u256eq r8.1 s.1), (0 : Int))

noncomputable def ref06Verify (pub : Nat × Nat × Bool) (digest : List Int) (s : Nat × Nat × Bool) : Option (Bool × Int) := hide (ref06VerifyB pub digest s)

theorem ref06Verify_eq (pub : Nat × Nat × Bool) (digest : List Int) (s : Nat × Nat × Bool) : ref06Verify pub digest s = ref06VerifyB pub digest s := hide_eq _

noncomputable def law06EcdsaVerifiesB (pub : Nat × Nat × Bool) (digest : List Int) (s : Nat × Nat × Bool) : Option (Bool) :=
  (ecdsaVerify pub digest s).bind fun r1 =>
  (ref06Verify pub digest s).bind fun r2 =>
  bif (r1.1 == r2.1) then
    (law06INum r1.2).bind fun r3 =>
    some (r3 == r2.2)
  else
    some false

noncomputable def law06EcdsaVerifies (pub : Nat × Nat × Bool) (digest : List Int) (s : Nat × Nat × Bool) : Option (Bool) := hide (law06EcdsaVerifiesB pub digest s)

theorem law06EcdsaVerifies_eq (pub : Nat × Nat × Bool) (digest : List Int) (s : Nat × Nat × Bool) : law06EcdsaVerifies pub digest s = law06EcdsaVerifiesB pub digest s := hide_eq _

noncomputable def ecdsaRecoverB (digest : List Int) (s : Nat × Nat × Bool) : Option ((Nat × Nat × Bool) × Int) :=
  (ecdsaCheck s).bind fun r1 =>
  bif (r1 != (0 : Int)) then
    some ((0, 0, false), r1)
  else
    (curveLift s.1 s.2.2).bind fun r2 =>
    bif (r2.2 != (0 : Int)) then
      some ((0, 0, false), (64 : Int))
    else
      (fieldInverse (1 : Int) s.1).bind fun r3 =>
      (ecdsaINumber digest).bind fun r4 =>
      (fieldNeg (1 : Int) r4).bind fun r5 =>
      (fieldMul (1 : Int) r5.1 r3.1).bind fun r6 =>
      (fieldMul (1 : Int) s.2.1 r3.1).bind fun r7 =>
      (curveMulAdd r6.1 r7.1 r2.1).bind fun r8 =>
      bif (r8.2 != (0 : Int)) then
        some ((0, 0, false), r8.2)
      else
        bif r8.1.2.2 then
          some ((0, 0, false), (65 : Int))
        else
          some (r8.1, (0 : Int))

noncomputable def ecdsaRecover (digest : List Int) (s : Nat × Nat × Bool) : Option ((Nat × Nat × Bool) × Int) := hide (ecdsaRecoverB digest s)

theorem ecdsaRecover_eq (digest : List Int) (s : Nat × Nat × Bool) : ecdsaRecover digest s = ecdsaRecoverB digest s := hide_eq _

noncomputable def ref06RecoverB (digest : List Int) (s : Nat × Nat × Bool) : Option ((Nat × Nat × Bool) × Int) :=
  (ref06Check s).bind fun r1 =>
  bif (r1 != (0 : Int)) then
    some ((0, 0, false), r1)
  else
    (ref05Lift s.1 s.2.2).bind fun r2 =>
    bif (r2.2 != (0 : Int)) then
      some ((0, 0, false), (64 : Int))
    else
      (ref06IInverse s.1).bind fun r3 =>
      (ref06Number digest).bind fun r4 =>
      (ref06ITimes r4 r3).bind fun r5 =>
      (ref04Neg (1 : Int) r5).bind fun r6 =>
      (ref06ITimes s.2.1 r3).bind fun r7 =>
      (ref05MulAdd r6.1 r7 r2.1).bind fun r8 =>
      bif r8.1.2.2 then
        some ((0, 0, false), (65 : Int))
      else
        some (r8.1, (0 : Int))

noncomputable def ref06Recover (digest : List Int) (s : Nat × Nat × Bool) : Option ((Nat × Nat × Bool) × Int) := hide (ref06RecoverB digest s)

theorem ref06Recover_eq (digest : List Int) (s : Nat × Nat × Bool) : ref06Recover digest s = ref06RecoverB digest s := hide_eq _

noncomputable def law06EcdsaRecoversB (digest : List Int) (s : Nat × Nat × Bool) : Option (Bool) :=
  (ecdsaRecover digest s).bind fun r1 =>
  (ref06Recover digest s).bind fun r2 =>
  bif ((u256eq r1.1.1 r2.1.1) && ((u256eq r1.1.2.1 r2.1.2.1) && (r1.1.2.2 == r2.1.2.2))) then
    (law06INum r1.2).bind fun r3 =>
    some (r3 == r2.2)
  else
    some false

noncomputable def law06EcdsaRecovers (digest : List Int) (s : Nat × Nat × Bool) : Option (Bool) := hide (law06EcdsaRecoversB digest s)

theorem law06EcdsaRecovers_eq (digest : List Int) (s : Nat × Nat × Bool) : law06EcdsaRecovers digest s = law06EcdsaRecoversB digest s := hide_eq _

end Go.Sy
