/- Typed functions, printed by a program out of the code: what each function of the code computes. -/
import Derived.Test.YtfappeeggccicaaGreatDoorSyVC3
set_option linter.unusedVariables false
noncomputable section
namespace Go.Sy
open Go
def ecdsaINumberB (digest : List Int) : Option (Nat) :=
 (u256Get (List.take 32 (List.drop 0 digest))).bind fun r1 =>
 (fieldReduce (1 : Int) 0 r1.1).bind fun r2 =>
 some r2.1
def ecdsaINumber (digest : List Int) : Option (Nat) := hide (ecdsaINumberB digest)
theorem ecdsaINumber_eq (digest : List Int) : ecdsaINumber digest = ecdsaINumberB digest := hide_eq _
def ecdsaSignWithB (key : Nat) (nonce : Nat) (digest : List Int) : Option ((Nat × Nat × Bool) × Int) :=
 (ecdsaIFit key).bind fun r1 =>
 bif (!r1) then
  some ((0, 0, false), (60 : Int))
 else
  (ecdsaIFit nonce).bind fun r2 =>
  bif (!r2) then
   some ((0, 0, false), (60 : Int))
  else
   (curveMulG nonce).bind fun r3 =>
   (ecdsaIOrder).bind fun r4 =>
   (u256Cmp r3.1 r4).bind fun r5 =>
   bif (decide (r5 ≥ (0 : Int))) then
    some ((0, 0, false), (64 : Int))
   else
    (fieldMul (1 : Int) r3.1 key).bind fun r6 =>
    (ecdsaINumber digest).bind fun r7 =>
    (fieldAdd (1 : Int) r7 r6.1).bind fun r8 =>
    (fieldInverse (1 : Int) nonce).bind fun r9 =>
    (fieldMul (1 : Int) r8.1 r9.1).bind fun r10 =>
    bif (u256eq r3.1 0) then
     some ((0, 0, false), (65 : Int))
    else
     bif (u256eq r10.1 0) then
      some ((0, 0, false), (65 : Int))
     else
      (u256Bit r3.2.1 (0 : Int)).bind fun r11 =>
      (ecdsaILow r10.1).bind fun r12 =>
      bif (!r12) then
       (fieldNeg (1 : Int) r10.1).bind fun r13 =>
       some ((r3.1, r13.1, (!(r11 == (1 : Int)))), (0 : Int))
      else
       some ((r3.1, r10.1, (r11 == (1 : Int))), (0 : Int))
def ecdsaSignWith (key : Nat) (nonce : Nat) (digest : List Int) : Option ((Nat × Nat × Bool) × Int) := hide (ecdsaSignWithB key nonce digest)
theorem ecdsaSignWith_eq (key : Nat) (nonce : Nat) (digest : List Int) : ecdsaSignWith key nonce digest = ecdsaSignWithB key nonce digest := hide_eq _
def ref06NumberB (digest : List Int) : Option (Nat) :=
 (ref01Get (List.take 32 (List.drop 0 digest))).bind fun r1 =>
 (ref04Reduce (1 : Int) 0 r1.1).bind fun r2 =>
 some r2.1
def ref06Number (digest : List Int) : Option (Nat) := hide (ref06NumberB digest)
theorem ref06Number_eq (digest : List Int) : ref06Number digest = ref06NumberB digest := hide_eq _
def ref06ITimesB (x : Nat) (y : Nat) : Option (Nat) :=
 (ref04Mul (1 : Int) x y).bind fun r1 =>
 some r1.1
def ref06ITimes (x : Nat) (y : Nat) : Option (Nat) := hide (ref06ITimesB x y)
theorem ref06ITimes_eq (x : Nat) (y : Nat) : ref06ITimes x y = ref06ITimesB x y := hide_eq _
def ref06IPlusB (x : Nat) (y : Nat) : Option (Nat) :=
 (ref04Add (1 : Int) x y).bind fun r1 =>
 some r1.1
def ref06IPlus (x : Nat) (y : Nat) : Option (Nat) := hide (ref06IPlusB x y)
theorem ref06IPlus_eq (x : Nat) (y : Nat) : ref06IPlus x y = ref06IPlusB x y := hide_eq _
def ref06IInverseB (x : Nat) : Option (Nat) :=
 (ref04Inverse (1 : Int) x).bind fun r1 =>
 some r1.1
def ref06IInverse (x : Nat) : Option (Nat) := hide (ref06IInverseB x)
theorem ref06IInverse_eq (x : Nat) : ref06IInverse x = ref06IInverseB x := hide_eq _
def ref06IOddB (x : Nat) : Option (Bool) :=
 some ((Int.tmod (limb x 0) (2 : Int)) == (1 : Int))
def ref06IOdd (x : Nat) : Option (Bool) := hide (ref06IOddB x)
theorem ref06IOdd_eq (x : Nat) : ref06IOdd x = ref06IOddB x := hide_eq _
def ref06TextbookB (key : Nat) (nonce : Nat) (digest : List Int) : Option ((Nat × Nat × Bool) × Int) :=
 (ref06Fit key).bind fun r1 =>
 (ref06Fit nonce).bind fun r2 =>
 bif (!r1) then
  some ((0, 0, false), (60 : Int))
 else
  bif (!r2) then
   some ((0, 0, false), (60 : Int))
  else
   (ref05MulG nonce).bind fun r3 =>
   (ref06IOrder).bind fun r4 =>
   (ref01Cmp r3.1 r4).bind fun r5 =>
   bif (decide (r5 ≥ (0 : Int))) then
    some ((0, 0, false), (64 : Int))
   else
    (ref06Number digest).bind fun r6 =>
    (ref06ITimes r3.1 key).bind fun r7 =>
    (ref06IPlus r6 r7).bind fun r8 =>
    (ref06IInverse nonce).bind fun r9 =>
    (ref06ITimes r8 r9).bind fun r10 =>
    bif (u256eq r3.1 0) then
     some ((0, 0, false), (65 : Int))
    else
     bif (u256eq r10 0) then
      some ((0, 0, false), (65 : Int))
     else
      (ref06IOdd r3.2.1).bind fun r11 =>
      some ((r3.1, r10, r11), (0 : Int))
def ref06Textbook (key : Nat) (nonce : Nat) (digest : List Int) : Option ((Nat × Nat × Bool) × Int) := hide (ref06TextbookB key nonce digest)
theorem ref06Textbook_eq (key : Nat) (nonce : Nat) (digest : List Int) : ref06Textbook key nonce digest = ref06TextbookB key nonce digest := hide_eq _
def ref06SignWithB (key : Nat) (nonce : Nat) (digest : List Int) : Option ((Nat × Nat × Bool) × Int) :=
 (ref06Textbook key nonce digest).bind fun r1 =>
 bif (r1.2 != (0 : Int)) then
  some ((0, 0, false), r1.2)
 else
  (ref06Low r1.1.2.1).bind fun r2 =>
  bif (!r2) then
   (ref06IOrder).bind fun r3 =>
   (ref01Sub r3 r1.1.2.1).bind fun r4 =>
   some ((r1.1.1, r4.1, (!r1.1.2.2)), (0 : Int))
  else
   some (r1.1, (0 : Int))
def ref06SignWith (key : Nat) (nonce : Nat) (digest : List Int) : Option ((Nat × Nat × Bool) × Int) := hide (ref06SignWithB key nonce digest)
theorem ref06SignWith_eq (key : Nat) (nonce : Nat) (digest : List Int) : ref06SignWith key nonce digest = ref06SignWithB key nonce digest := hide_eq _
end Go.Sy
