/- Typed functions, printed by a program out of the code: what each function of the code computes. -/
import Derived.Test.YtfappeeggccicaaDoorSyVE
set_option linter.unusedVariables false
noncomputable section
namespace Go.Sy
open Go
def ecdsaPackB (s : Nat × Nat × Bool) : Option (Int × List Int) :=
 (ecdsaCheck s).bind fun r1 =>
 bif (r1 != (0 : Int)) then
  some (r1, ([] : List Int))
 else
  (u256Put s.1).bind fun r2 =>
  (u256Put s.2.1).bind fun r3 =>
  bif s.2.2 then
   bif roomB 1 (32 + (List.take 32 (List.drop 0 (r3.set 0 (orI .u8 (r3.getD 0 (0 : Int)) (128 : Int))))).length) then
    some ((0 : Int), ((List.take 32 (List.drop 0 r2)) ++ (List.take 32 (List.drop 0 (r3.set 0 (orI .u8 (r3.getD 0 (0 : Int)) (128 : Int)))))))
   else none
  else
   bif roomB 1 (32 + (List.take 32 (List.drop 0 r3)).length) then
    some ((0 : Int), ((List.take 32 (List.drop 0 r2)) ++ (List.take 32 (List.drop 0 r3))))
   else none
def ecdsaPack (s : Nat × Nat × Bool) : Option (Int × List Int) := hide (ecdsaPackB s)
theorem ecdsaPack_eq (s : Nat × Nat × Bool) : ecdsaPack s = ecdsaPackB s := hide_eq _
def ecdsaUnpackB (data : List Int) : Option ((Nat × Nat × Bool) × Int) :=
 bif (((data.length : Nat) : Int) != (64 : Int)) then
  some ((0, 0, false), (66 : Int))
 else
  bif Nat.ble 32 data.length then
   bif Nat.ble 32 data.length then
    (u256Get (List.take 32 (List.drop 0 data))).bind fun r1 =>
    (u256Get (List.take 32 (List.drop 0 ((spliceL (List.replicate 32 (0 : Int)) 0 (List.take 32 (List.take (data.length - 32) (List.drop 32 data)))).set 0 (andNotI .u8 ((spliceL (List.replicate 32 (0 : Int)) 0 (List.take 32 (List.take (data.length - 32) (List.drop 32 data)))).getD 0 (0 : Int)) (128 : Int)))))).bind fun r2 =>
    (ecdsaCheck (r1.1, r2.1, ((andI .u8 ((spliceL (List.replicate 32 (0 : Int)) 0 (List.take 32 (List.take (data.length - 32) (List.drop 32 data)))).getD 0 (0 : Int)) (128 : Int)) != (0 : Int)))).bind fun r3 =>
    bif (r3 != (0 : Int)) then
     some ((0, 0, false), r3)
    else
     some ((r1.1, r2.1, ((andI .u8 ((spliceL (List.replicate 32 (0 : Int)) 0 (List.take 32 (List.take (data.length - 32) (List.drop 32 data)))).getD 0 (0 : Int)) (128 : Int)) != (0 : Int))), (0 : Int))
   else none
  else none
def ecdsaUnpack (data : List Int) : Option ((Nat × Nat × Bool) × Int) := hide (ecdsaUnpackB data)
theorem ecdsaUnpack_eq (data : List Int) : ecdsaUnpack data = ecdsaUnpackB data := hide_eq _
def law06ICopiedL0R (a : List Int) (i : Int) (b19 : List Int) : Option ((List Int × Int × List Int) ⊕ (List Int)) :=
 bif (decide (i < ((a.length : Nat) : Int))) then
  bif decide (0 ≤ i) then
   bif Nat.blt (Int.toNat i) a.length then
    bif roomB 1 (b19.length + [(a.getD (Int.toNat i) (0 : Int))].length) then
     some (.inl (a, (IntKind.wrap .i64 (i + (1 : Int))), (b19 ++ [(a.getD (Int.toNat i) (0 : Int))])))
    else none
   else none
  else none
 else
  some (.inr b19)
def law06ICopiedL0 (a : List Int) (i : Int) (b19 : List Int) : Option (List Int) := hide (iter (fun p : List Int × Int × List Int => law06ICopiedL0R p.1 p.2.1 p.2.2) (bigFuel) (a, i, b19))
theorem law06ICopiedL0_eq (a : List Int) (i : Int) (b19 : List Int) : law06ICopiedL0 a i b19 = iter (fun p : List Int × Int × List Int => law06ICopiedL0R p.1 p.2.1 p.2.2) (bigFuel) (a, i, b19) := hide_eq _
def law06ICopiedB (a : List Int) : Option (List Int) :=
 (law06ICopiedL0 a (0 : Int) ([] : List Int)).bind fun q1 =>
 some q1
def law06ICopied (a : List Int) : Option (List Int) := hide (law06ICopiedB a)
theorem law06ICopied_eq (a : List Int) : law06ICopied a = law06ICopiedB a := hide_eq _
def law06ISameL0R (a : List Int) (b : List Int) (i : Int) : Option ((List Int × List Int × Int) ⊕ (Unit ⊕ Unit)) :=
 bif (decide (i < ((a.length : Nat) : Int))) then
  bif decide (0 ≤ i) then
   bif Nat.blt (Int.toNat i) a.length then
    bif decide (0 ≤ i) then
     bif Nat.blt (Int.toNat i) b.length then
      bif ((a.getD (Int.toNat i) (0 : Int)) != (b.getD (Int.toNat i) (0 : Int))) then
       some (.inr (.inl ()))
      else
       some (.inl (a, b, (IntKind.wrap .i64 (i + (1 : Int)))))
     else none
    else none
   else none
  else none
 else
  some (.inr (.inr ()))
def law06ISameL0 (a : List Int) (b : List Int) (i : Int) : Option (Unit ⊕ Unit) := hide (iter (fun p : List Int × List Int × Int => law06ISameL0R p.1 p.2.1 p.2.2) (bigFuel) (a, b, i))
theorem law06ISameL0_eq (a : List Int) (b : List Int) (i : Int) : law06ISameL0 a b i = iter (fun p : List Int × List Int × Int => law06ISameL0R p.1 p.2.1 p.2.2) (bigFuel) (a, b, i) := hide_eq _
def law06ISameB (a : List Int) (b : List Int) : Option (Bool) :=
 bif (((a.length : Nat) : Int) != ((b.length : Nat) : Int)) then
  some false
 else
  (law06ISameL0 a b (0 : Int)).bind fun q1 =>
  sumK q1 (fun q2 =>
   some false)
   (fun q3 =>
   some true)
def law06ISame (a : List Int) (b : List Int) : Option (Bool) := hide (law06ISameB a b)
theorem law06ISame_eq (a : List Int) (b : List Int) : law06ISame a b = law06ISameB a b := hide_eq _
end Go.Sy
