/- Typed functions, printed by a program out of the code: what each function of the code computes. -/
import Derived.Test.YthhijclndgipaaaDoorSyVE
set_option linter.unusedVariables false
namespace Go.Sy
open Go

noncomputable def ecdsaPackB (s : Nat × Nat × Bool) : Option (Int × List Int) :=
  (ecdsaCheck s).bind fun r1 =>
  bif (r1 != (0 : Int)) then
    some (r1, ([] : List Int))
  else
    (u256Put s.1).bind fun r2 =>
    (u256Put s.2.1).bind fun r3 =>
    bif s.2.2 then
      bif roomB 1 (32 + (List.take 32 (List.drop 0 (r3.set 0 (orI .u8 (r3.getD 0 (0 : Int)) (128 : Int))))).length) then
        some ((0 : Int), ((List.take 32 (List.drop 0 r2)) ++ (List.take 32 (List.drop 0 (r3.set 0 (orI .u8 (r3.getD 0 (0 : Int)) (128 : Int)))))))
      else none
    else
      bif roomB 1 (32 + (List.take 32 (List.drop 0 r3)).length) then
        some ((0 : Int), ((List.take 32 (List.drop 0 r2)) ++ (List.take 32 (List.drop 0 r3))))
      else none

noncomputable def ecdsaPack (s : Nat × Nat × Bool) : Option (Int × List Int) := hide (ecdsaPackB s)

theorem ecdsaPack_eq (s : Nat × Nat × Bool) : ecdsaPack s = ecdsaPackB s := hide_eq _

noncomputable def ecdsaUnpackB (data : List Int) : Option ((Nat × Nat × Bool) × Int) :=
  bif (((data.length : Nat) : Int) != (64 : Int)) then
    some ((0, 0, false), (66 : Int))
  else
    bif Nat.ble 32 data.length then
      bif Nat.ble 32 data.length then
        (u256Get (List.take 32 (List.drop 0 data))).bind fun r1 =>
        (u256Get (List.take 32 (List.drop 0 ((spliceL (List.replicate 32 (0 : Int)) 0 (List.take 32 (List.take (data.length - 32) (List.drop 32 data)))).set 0 (andNotI .u8 ((spliceL (List.replicate 32 (0 : Int)) 0 (List.take 32 (List.take (data.length - 32) (List.drop 32 data)))).getD 0 (0 : Int)) (128 : Int)))))).bind fun r2 =>
        (ecdsaCheck (r1.1, r2.1, ((andI .u8 ((spliceL (List.replicate 32 (0 : Int)) 0 (List.take 32 (List.take (data.length - 32) (List.drop 32 data)))).getD 0 (0 : Int)) (128 : Int)) != (0 : Int)))).bind fun r3 =>
        bif (r3 != (0 : Int)) then
          some ((0, 0, false), r3)
        else
          some ((r1.1, r2.1, ((andI .u8 ((spliceL (List.replicate 32 (0 : Int)) 0 (List.take 32 (List.take (data.length - 32) (List.drop 32 data)))).getD 0 (0 : Int)) (128 : Int)) != (0 : Int))), (0 : Int))
      else none
    else none

noncomputable def ecdsaUnpack (data : List Int) : Option ((Nat × Nat × Bool) × Int) := hide (ecdsaUnpackB data)

theorem ecdsaUnpack_eq (data : List Int) : ecdsaUnpack data = ecdsaUnpackB data := hide_eq _

noncomputable def law06EcdsaWhoseB (key : Nat) (nonce : Nat) (digest : List Int) : Option (Bool) :=
  (ecdsaSignWith key nonce digest).bind fun r1 =>
  bif (r1.2 != (0 : Int)) then
    (law06IFit key).bind fun r2 =>
    bif (!r2) then
      some true
    else
      (law06IFit nonce).bind fun r3 =>
      bif (!r3) then
        some true
      else
        bif (r1.2 == (64 : Int)) then
          some true
        else
          some (r1.2 == (65 : Int))
  else
    (curveMulG key).bind fun r4 =>
    (ecdsaVerify r4 digest r1.1).bind fun r5 =>
    (ecdsaRecover digest r1.1).bind fun r6 =>
    bif (!r5.1) then
      some false
    else
      bif (r5.2 != (0 : Int)) then
        some false
      else
        bif (r6.2 != (0 : Int)) then
          some false
        else
          bif (!((u256eq r6.1.1 r4.1) && ((u256eq r6.1.2.1 r4.2.1) && (r6.1.2.2 == r4.2.2)))) then
            some false
          else
            bif r4.2.2 then
              some false
            else
              (ecdsaPack r1.1).bind fun r7 =>
              (ecdsaUnpack r7.2).bind fun r8 =>
              bif (r7.1 == (0 : Int)) then
                bif (r8.2 == (0 : Int)) then
                  bif (((r7.2.length : Nat) : Int) == (64 : Int)) then
                    some ((u256eq r8.1.1 r1.1.1) && ((u256eq r8.1.2.1 r1.1.2.1) && (r8.1.2.2 == r1.1.2.2)))
                  else
                    some false
                else
                  some false
              else
                some false

noncomputable def law06EcdsaWhose (key : Nat) (nonce : Nat) (digest : List Int) : Option (Bool) := hide (law06EcdsaWhoseB key nonce digest)

theorem law06EcdsaWhose_eq (key : Nat) (nonce : Nat) (digest : List Int) : law06EcdsaWhose key nonce digest = law06EcdsaWhoseB key nonce digest := hide_eq _

end Go.Sy
