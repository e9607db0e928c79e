/- Typed functions, printed by a program out of the code: what each function of the code computes. -/
import Derived.Test.YtfappeeggccicaaDoorSyVE3
set_option linter.unusedVariables false
noncomputable section
namespace Go.Sy
open Go
def law06IApartL1R (k : Int) (l : Unit × Unit) (lB1 : List Int) (b2 : List Int) : Option ((Int × (Unit × Unit) × List Int × List Int) ⊕ ((Unit × Unit) × List Int × List Int)) :=
 bif (decide (k < ((lB1.length : Nat) : Int))) then
  bif decide (0 ≤ k) then
   bif Nat.blt (Int.toNat k) lB1.length then
    bif Nat.blt (Int.toNat k) lB1.length then
     some (.inl ((IntKind.wrap .i64 (k + (1 : Int))), ((), ()), (lB1.set (Int.toNat k) (0 : Int)), b2))
    else none
   else none
  else none
 else
  some (.inr (((), ()), lB1, b2))
def law06IApartL1 (k : Int) (l : Unit × Unit) (lB1 : List Int) (b2 : List Int) : Option ((Unit × Unit) × List Int × List Int) := hide (iter (fun p : Int × (Unit × Unit) × List Int × List Int => law06IApartL1R p.1 p.2.1 p.2.2.1 p.2.2.2) (bigFuel) (k, l, lB1, b2))
theorem law06IApartL1_eq (k : Int) (l : Unit × Unit) (lB1 : List Int) (b2 : List Int) : law06IApartL1 k l lB1 b2 = iter (fun p : Int × (Unit × Unit) × List Int × List Int => law06IApartL1R p.1 p.2.1 p.2.2.1 p.2.2.2) (bigFuel) (k, l, lB1, b2) := hide_eq _
def law06IApartL1v1R (k : Int) (l : Unit × Unit) (lB1 : List Int) (b2 : List Int) : Option ((Int × (Unit × Unit) × List Int × List Int) ⊕ ((Unit × Unit) × List Int × List Int)) :=
 bif (decide (k < ((b2.length : Nat) : Int))) then
  bif decide (0 ≤ k) then
   bif Nat.blt (Int.toNat k) b2.length then
    bif Nat.blt (Int.toNat k) b2.length then
     some (.inl ((IntKind.wrap .i64 (k + (1 : Int))), ((), ()), lB1, (b2.set (Int.toNat k) (1 : Int))))
    else none
   else none
  else none
 else
  some (.inr (((), ()), lB1, b2))
def law06IApartL1v1 (k : Int) (l : Unit × Unit) (lB1 : List Int) (b2 : List Int) : Option ((Unit × Unit) × List Int × List Int) := hide (iter (fun p : Int × (Unit × Unit) × List Int × List Int => law06IApartL1v1R p.1 p.2.1 p.2.2.1 p.2.2.2) (bigFuel) (k, l, lB1, b2))
theorem law06IApartL1v1_eq (k : Int) (l : Unit × Unit) (lB1 : List Int) (b2 : List Int) : law06IApartL1v1 k l lB1 b2 = iter (fun p : Int × (Unit × Unit) × List Int × List Int => law06IApartL1v1R p.1 p.2.1 p.2.2.1 p.2.2.2) (bigFuel) (k, l, lB1, b2) := hide_eq _
def law06IApartL3R (k : Int) (l : List Int × Unit) (b2 : List Int) (b999999999999007 : List Int) : Option ((Int × (List Int × Unit) × List Int × List Int) ⊕ ((List Int × Unit) × List Int × List Int)) :=
 bif (decide (k < (70 : Int))) then
  bif roomB 1 (b999999999999007.length + [(125 : Int)].length) then
   (some (b999999999999007 ++ [(125 : Int)])).bind fun a4 =>
   some (.inl ((IntKind.wrap .i64 (k + (1 : Int))), (l.1, ()), b2, a4))
  else none
 else
  some (.inr ((l.1, ()), b2, b999999999999007))
def law06IApartL3 (k : Int) (l : List Int × Unit) (b2 : List Int) (b999999999999007 : List Int) : Option ((List Int × Unit) × List Int × List Int) := hide (iter (fun p : Int × (List Int × Unit) × List Int × List Int => law06IApartL3R p.1 p.2.1 p.2.2.1 p.2.2.2) (1000) (k, l, b2, b999999999999007))
theorem law06IApartL3_eq (k : Int) (l : List Int × Unit) (b2 : List Int) (b999999999999007 : List Int) : law06IApartL3 k l b2 b999999999999007 = iter (fun p : Int × (List Int × Unit) × List Int × List Int => law06IApartL3R p.1 p.2.1 p.2.2.1 p.2.2.2) (1000) (k, l, b2, b999999999999007) := hide_eq _
def law06IApartL3v1R (k : Int) (l : List Int × List Int) (b60 : List (List Int)) (b999999999999007 : List Int) : Option ((Int × (List Int × List Int) × List (List Int) × List Int) ⊕ ((List Int × List Int) × List (List Int) × List Int)) :=
 bif (decide (k < (70 : Int))) then
  bif roomB 1 (b999999999999007.length + [(126 : Int)].length) then
   (some (b999999999999007 ++ [(126 : Int)])).bind fun a7 =>
   some (.inl ((IntKind.wrap .i64 (k + (1 : Int))), l, b60, a7))
  else none
 else
  some (.inr (l, b60, b999999999999007))
def law06IApartL3v1 (k : Int) (l : List Int × List Int) (b60 : List (List Int)) (b999999999999007 : List Int) : Option ((List Int × List Int) × List (List Int) × List Int) := hide (iter (fun p : Int × (List Int × List Int) × List (List Int) × List Int => law06IApartL3v1R p.1 p.2.1 p.2.2.1 p.2.2.2) (1000) (k, l, b60, b999999999999007))
theorem law06IApartL3v1_eq (k : Int) (l : List Int × List Int) (b60 : List (List Int)) (b999999999999007 : List Int) : law06IApartL3v1 k l b60 b999999999999007 = iter (fun p : Int × (List Int × List Int) × List (List Int) × List Int => law06IApartL3v1R p.1 p.2.1 p.2.2.1 p.2.2.2) (1000) (k, l, b60, b999999999999007) := hide_eq _
def law06IApartL5R (n : Int) (k : Int) (l : List Int × List Int) (b1000060 : List (List Int)) : Option ((Int × Int × (List Int × List Int) × List (List Int)) ⊕ ((List Int × List Int) ⊕ ((List Int × List Int) × List (List Int)))) :=
 bif Nat.blt 0 b1000060.length then
  bif Nat.blt 0 b1000060.length then
   bif (decide (k < (((b1000060.getD 0 ([] : List Int)).length : Nat) : Int))) then
    bif (decide (k < n)) then
     bif decide (0 ≤ k) then
      bif Nat.blt (Int.toNat k) l.1.length then
       bif ((l.1.getD (Int.toNat k) (0 : Int)) != (0 : Int)) then
        some (.inr (.inl l))
       else
        bif Nat.blt 0 b1000060.length then
         bif Nat.blt 0 b1000060.length then
          bif decide (0 ≤ k) then
           bif Nat.blt (Int.toNat k) ((b1000060.getD 0 ([] : List Int)).length) then
            bif (((b1000060.getD 0 ([] : List Int)).getD (Int.toNat k) (0 : Int)) != (0 : Int)) then
             some (.inr (.inl l))
            else
             bif (decide (k ≥ n)) then
              bif Nat.blt 0 b1000060.length then
               bif Nat.blt 0 b1000060.length then
                bif decide (0 ≤ k) then
                 bif Nat.blt (Int.toNat k) ((b1000060.getD 0 ([] : List Int)).length) then
                  bif (((b1000060.getD 0 ([] : List Int)).getD (Int.toNat k) (0 : Int)) != (125 : Int)) then
                   some (.inr (.inl l))
                  else
                   some (.inl (n, (IntKind.wrap .i64 (k + (1 : Int))), l, b1000060))
                 else none
                else none
               else none
              else none
             else
              some (.inl (n, (IntKind.wrap .i64 (k + (1 : Int))), l, b1000060))
           else none
          else none
         else none
        else none
      else none
     else none
    else
     bif (decide (k ≥ n)) then
      bif Nat.blt 0 b1000060.length then
       bif Nat.blt 0 b1000060.length then
        bif decide (0 ≤ k) then
         bif Nat.blt (Int.toNat k) ((b1000060.getD 0 ([] : List Int)).length) then
          bif (((b1000060.getD 0 ([] : List Int)).getD (Int.toNat k) (0 : Int)) != (125 : Int)) then
           some (.inr (.inl l))
          else
           some (.inl (n, (IntKind.wrap .i64 (k + (1 : Int))), l, b1000060))
         else none
        else none
       else none
      else none
     else
      some (.inl (n, (IntKind.wrap .i64 (k + (1 : Int))), l, b1000060))
   else
    some (.inr (.inr (l, b1000060)))
  else none
 else none
def law06IApartL5 (n : Int) (k : Int) (l : List Int × List Int) (b1000060 : List (List Int)) : Option ((List Int × List Int) ⊕ ((List Int × List Int) × List (List Int))) := hide (iter (fun p : Int × Int × (List Int × List Int) × List (List Int) => law06IApartL5R p.1 p.2.1 p.2.2.1 p.2.2.2) (bigFuel) (n, k, l, b1000060))
theorem law06IApartL5_eq (n : Int) (k : Int) (l : List Int × List Int) (b1000060 : List (List Int)) : law06IApartL5 n k l b1000060 = iter (fun p : Int × Int × (List Int × List Int) × List (List Int) => law06IApartL5R p.1 p.2.1 p.2.2.1 p.2.2.2) (bigFuel) (n, k, l, b1000060) := hide_eq _
def law06IApartL5v1R (n : Int) (k : Int) (l : List Int × List Int) (b1000060 : List (List Int)) : Option ((Int × Int × (List Int × List Int) × List (List Int)) ⊕ ((List Int × List Int) ⊕ ((List Int × List Int) × List (List Int)))) :=
 bif Nat.blt 1 b1000060.length then
  bif Nat.blt 1 b1000060.length then
   bif (decide (k < (((b1000060.getD 1 ([] : List Int)).length : Nat) : Int))) then
    bif (decide (k < n)) then
     bif decide (0 ≤ k) then
      bif Nat.blt (Int.toNat k) l.2.length then
       bif ((l.2.getD (Int.toNat k) (0 : Int)) != (1 : Int)) then
        some (.inr (.inl l))
       else
        bif Nat.blt 1 b1000060.length then
         bif Nat.blt 1 b1000060.length then
          bif decide (0 ≤ k) then
           bif Nat.blt (Int.toNat k) ((b1000060.getD 1 ([] : List Int)).length) then
            bif (((b1000060.getD 1 ([] : List Int)).getD (Int.toNat k) (0 : Int)) != (1 : Int)) then
             some (.inr (.inl l))
            else
             bif (decide (k ≥ n)) then
              bif Nat.blt 1 b1000060.length then
               bif Nat.blt 1 b1000060.length then
                bif decide (0 ≤ k) then
                 bif Nat.blt (Int.toNat k) ((b1000060.getD 1 ([] : List Int)).length) then
                  bif (((b1000060.getD 1 ([] : List Int)).getD (Int.toNat k) (0 : Int)) != (126 : Int)) then
                   some (.inr (.inl l))
                  else
                   some (.inl (n, (IntKind.wrap .i64 (k + (1 : Int))), l, b1000060))
                 else none
                else none
               else none
              else none
             else
              some (.inl (n, (IntKind.wrap .i64 (k + (1 : Int))), l, b1000060))
           else none
          else none
         else none
        else none
      else none
     else none
    else
     bif (decide (k ≥ n)) then
      bif Nat.blt 1 b1000060.length then
       bif Nat.blt 1 b1000060.length then
        bif decide (0 ≤ k) then
         bif Nat.blt (Int.toNat k) ((b1000060.getD 1 ([] : List Int)).length) then
          bif (((b1000060.getD 1 ([] : List Int)).getD (Int.toNat k) (0 : Int)) != (126 : Int)) then
           some (.inr (.inl l))
          else
           some (.inl (n, (IntKind.wrap .i64 (k + (1 : Int))), l, b1000060))
         else none
        else none
       else none
      else none
     else
      some (.inl (n, (IntKind.wrap .i64 (k + (1 : Int))), l, b1000060))
   else
    some (.inr (.inr (l, b1000060)))
  else none
 else none
def law06IApartL5v1 (n : Int) (k : Int) (l : List Int × List Int) (b1000060 : List (List Int)) : Option ((List Int × List Int) ⊕ ((List Int × List Int) × List (List Int))) := hide (iter (fun p : Int × Int × (List Int × List Int) × List (List Int) => law06IApartL5v1R p.1 p.2.1 p.2.2.1 p.2.2.2) (bigFuel) (n, k, l, b1000060))
theorem law06IApartL5v1_eq (n : Int) (k : Int) (l : List Int × List Int) (b1000060 : List (List Int)) : law06IApartL5v1 n k l b1000060 = iter (fun p : Int × Int × (List Int × List Int) × List (List Int) => law06IApartL5v1R p.1 p.2.1 p.2.2.1 p.2.2.2) (bigFuel) (n, k, l, b1000060) := hide_eq _
def law06IApartB (b0 : Unit × Unit) (b1 : List Int) (b2 : List Int) : Option (Bool) :=
 (law06IApartL1 (0 : Int) ((), ()) b1 b2).bind fun q1 =>
 (law06IApartL1v1 (0 : Int) ((), ()) q1.2.1 q1.2.2).bind fun q2 =>
 (law06IApartL3 (0 : Int) (q2.2.1, ()) q2.2.2 q2.2.1).bind fun q5 =>
 bif roomB 24 ([q5.2.2].length) then
  (law06IApartL3v1 (0 : Int) (q5.1.1, q5.2.1) [q5.2.2] q5.2.1).bind fun q8 =>
  bif roomB 24 (q8.2.1.length + [q8.2.2].length) then
   (some (q8.2.1 ++ [q8.2.2])).bind fun a9 =>
   (law06IApartL5 ((q8.1.1.length : Nat) : Int) (0 : Int) q8.1 a9).bind fun q10 =>
   sumK q10 (fun q11 =>
    some false)
    (fun q12 =>
    (law06IApartL5v1 ((q12.1.2.length : Nat) : Int) (0 : Int) q12.1 q12.2).bind fun q13 =>
    sumK q13 (fun q14 =>
     some false)
     (fun q15 =>
     some true))
  else none
 else none
def law06IApart (b0 : Unit × Unit) (b1 : List Int) (b2 : List Int) : Option (Bool) := hide (law06IApartB b0 b1 b2)
theorem law06IApart_eq (b0 : Unit × Unit) (b1 : List Int) (b2 : List Int) : law06IApart b0 b1 b2 = law06IApartB b0 b1 b2 := hide_eq _
def law06EcdsaBytesB (data : List Int) : Option (Bool) :=
 (law06ICopied data).bind fun r1 =>
 (ecdsaUnpack r1).bind fun r2 =>
 bif (((data.length : Nat) : Int) != (64 : Int)) then
  bif (r2.2 == (66 : Int)) then
   some ((u256eq r2.1.1 0) && ((u256eq r2.1.2.1 0) && (r2.1.2.2 == false)))
  else
   some false
 else
  bif Nat.ble 63 data.length then
   (ecdsaUnpack (List.take 63 (List.drop 0 data))).bind fun r3 =>
   (law06ICopied data).bind fun r4 =>
   bif roomB 1 (r4.length + [(0 : Int)].length) then
    (ecdsaUnpack (r4 ++ [(0 : Int)])).bind fun r5 =>
    bif (r3.2 != (66 : Int)) then
     some false
    else
     bif (r5.2 != (66 : Int)) then
      some false
     else
      bif (!((u256eq r3.1.1 0) && ((u256eq r3.1.2.1 0) && (r3.1.2.2 == false)))) then
       some false
      else
       bif (!((u256eq r5.1.1 0) && ((u256eq r5.1.2.1 0) && (r5.1.2.2 == false)))) then
        some false
       else
        bif (r2.2 != (0 : Int)) then
         bif (r2.2 == (61 : Int)) then
          some ((u256eq r2.1.1 0) && ((u256eq r2.1.2.1 0) && (r2.1.2.2 == false)))
         else
          bif (r2.2 == (62 : Int)) then
           some ((u256eq r2.1.1 0) && ((u256eq r2.1.2.1 0) && (r2.1.2.2 == false)))
          else
           bif (r2.2 == (63 : Int)) then
            some ((u256eq r2.1.1 0) && ((u256eq r2.1.2.1 0) && (r2.1.2.2 == false)))
           else
            some false
        else
         (ecdsaPack r2.1).bind fun r6 =>
         (ecdsaPack r2.1).bind fun r7 =>
         bif (r6.1 != (0 : Int)) then
          some false
         else
          bif (r7.1 != (0 : Int)) then
           some false
          else
           (law06ISame r6.2 data).bind fun r8 =>
           bif (!r8) then
            some false
           else
            (law06ISame r7.2 data).bind fun r9 =>
            bif (!r9) then
             some false
            else
             (ecdsaCheck r2.1).bind fun r10 =>
             bif (r10 != (0 : Int)) then
              some false
             else
              (law06IApart ((), ()) r6.2 r7.2).bind fun r11 =>
              bif (!r11) then
               some false
              else
               (ecdsaPack r2.1).bind fun r12 =>
               bif (r12.1 == (0 : Int)) then
                (law06ISame r12.2 data).bind fun r13 =>
                some r13
               else
                some false
   else none
  else none
def law06EcdsaBytes (data : List Int) : Option (Bool) := hide (law06EcdsaBytesB data)
theorem law06EcdsaBytes_eq (data : List Int) : law06EcdsaBytes data = law06EcdsaBytesB data := hide_eq _
end Go.Sy
