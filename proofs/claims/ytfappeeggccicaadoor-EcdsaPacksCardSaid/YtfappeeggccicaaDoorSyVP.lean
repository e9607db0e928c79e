/- Typed functions, printed by a program out of the code: what each function of the code computes. -/
import Derived.Test.YtfappeeggccicaaDoorSyVE3
set_option linter.unusedVariables false
noncomputable section
namespace Go.Sy
open Go
def law06IApartL1R (k : Int) (l : Unit × Unit × Unit) (lB1 : List Int) (b2 : List Int) (i : List Int) : Option ((Int × (Unit × Unit × Unit) × List Int × List Int × List Int) ⊕ ((Unit × Unit × Unit) × List Int × List Int × List Int)) :=
 bif (decide (k < ((lB1.length : Nat) : Int))) then
  bif decide (0 ≤ k) then
   bif Nat.blt (Int.toNat k) lB1.length then
    bif Nat.blt (Int.toNat k) lB1.length then
     some (.inl ((IntKind.wrap .i64 (k + (1 : Int))), ((), (), ()), (lB1.set (Int.toNat k) (0 : Int)), b2, i))
    else none
   else none
  else none
 else
  some (.inr (((), (), ()), lB1, b2, i))
def law06IApartL1 (k : Int) (l : Unit × Unit × Unit) (lB1 : List Int) (b2 : List Int) (i : List Int) : Option ((Unit × Unit × Unit) × List Int × List Int × List Int) := hide (iter (fun p : Int × (Unit × Unit × Unit) × List Int × List Int × List Int => law06IApartL1R p.1 p.2.1 p.2.2.1 p.2.2.2.1 p.2.2.2.2) (bigFuel) (k, l, lB1, b2, i))
theorem law06IApartL1_eq (k : Int) (l : Unit × Unit × Unit) (lB1 : List Int) (b2 : List Int) (i : List Int) : law06IApartL1 k l lB1 b2 i = iter (fun p : Int × (Unit × Unit × Unit) × List Int × List Int × List Int => law06IApartL1R p.1 p.2.1 p.2.2.1 p.2.2.2.1 p.2.2.2.2) (bigFuel) (k, l, lB1, b2, i) := hide_eq _
def law06IApartL1v1R (k : Int) (l : Unit × Unit × Unit) (lB1 : List Int) (b2 : List Int) (i : List Int) : Option ((Int × (Unit × Unit × Unit) × List Int × List Int × List Int) ⊕ ((Unit × Unit × Unit) × List Int × List Int × List Int)) :=
 bif (decide (k < ((b2.length : Nat) : Int))) then
  bif decide (0 ≤ k) then
   bif Nat.blt (Int.toNat k) b2.length then
    bif Nat.blt (Int.toNat k) b2.length then
     some (.inl ((IntKind.wrap .i64 (k + (1 : Int))), ((), (), ()), lB1, (b2.set (Int.toNat k) (1 : Int)), i))
    else none
   else none
  else none
 else
  some (.inr (((), (), ()), lB1, b2, i))
def law06IApartL1v1 (k : Int) (l : Unit × Unit × Unit) (lB1 : List Int) (b2 : List Int) (i : List Int) : Option ((Unit × Unit × Unit) × List Int × List Int × List Int) := hide (iter (fun p : Int × (Unit × Unit × Unit) × List Int × List Int × List Int => law06IApartL1v1R p.1 p.2.1 p.2.2.1 p.2.2.2.1 p.2.2.2.2) (bigFuel) (k, l, lB1, b2, i))
theorem law06IApartL1v1_eq (k : Int) (l : Unit × Unit × Unit) (lB1 : List Int) (b2 : List Int) (i : List Int) : law06IApartL1v1 k l lB1 b2 i = iter (fun p : Int × (Unit × Unit × Unit) × List Int × List Int × List Int => law06IApartL1v1R p.1 p.2.1 p.2.2.1 p.2.2.2.1 p.2.2.2.2) (bigFuel) (k, l, lB1, b2, i) := hide_eq _
def law06IApartL1v2R (k : Int) (l : Unit × Unit × Unit) (lB1 : List Int) (b2 : List Int) (i : List Int) : Option ((Int × (Unit × Unit × Unit) × List Int × List Int × List Int) ⊕ ((Unit × Unit × Unit) × List Int × List Int × List Int)) :=
 bif (decide (k < ((i.length : Nat) : Int))) then
  bif decide (0 ≤ k) then
   bif Nat.blt (Int.toNat k) i.length then
    bif Nat.blt (Int.toNat k) i.length then
     some (.inl ((IntKind.wrap .i64 (k + (1 : Int))), ((), (), ()), lB1, b2, (i.set (Int.toNat k) (2 : Int))))
    else none
   else none
  else none
 else
  some (.inr (((), (), ()), lB1, b2, i))
def law06IApartL1v2 (k : Int) (l : Unit × Unit × Unit) (lB1 : List Int) (b2 : List Int) (i : List Int) : Option ((Unit × Unit × Unit) × List Int × List Int × List Int) := hide (iter (fun p : Int × (Unit × Unit × Unit) × List Int × List Int × List Int => law06IApartL1v2R p.1 p.2.1 p.2.2.1 p.2.2.2.1 p.2.2.2.2) (bigFuel) (k, l, lB1, b2, i))
theorem law06IApartL1v2_eq (k : Int) (l : Unit × Unit × Unit) (lB1 : List Int) (b2 : List Int) (i : List Int) : law06IApartL1v2 k l lB1 b2 i = iter (fun p : Int × (Unit × Unit × Unit) × List Int × List Int × List Int => law06IApartL1v2R p.1 p.2.1 p.2.2.1 p.2.2.2.1 p.2.2.2.2) (bigFuel) (k, l, lB1, b2, i) := hide_eq _
def law06IApartL3R (k : Int) (l : List Int × Unit × Unit) (b2 : List Int) (i : List Int) (b999999999999007 : List Int) : Option ((Int × (List Int × Unit × Unit) × List Int × List Int × List Int) ⊕ ((List Int × Unit × Unit) × List Int × List Int × List Int)) :=
 bif (decide (k < (70 : Int))) then
  bif roomB 1 (b999999999999007.length + [(125 : Int)].length) then
   (some (b999999999999007 ++ [(125 : Int)])).bind fun a5 =>
   some (.inl ((IntKind.wrap .i64 (k + (1 : Int))), (l.1, (), ()), b2, i, a5))
  else none
 else
  some (.inr ((l.1, (), ()), b2, i, b999999999999007))
def law06IApartL3 (k : Int) (l : List Int × Unit × Unit) (b2 : List Int) (i : List Int) (b999999999999007 : List Int) : Option ((List Int × Unit × Unit) × List Int × List Int × List Int) := hide (iter (fun p : Int × (List Int × Unit × Unit) × List Int × List Int × List Int => law06IApartL3R p.1 p.2.1 p.2.2.1 p.2.2.2.1 p.2.2.2.2) (1000) (k, l, b2, i, b999999999999007))
theorem law06IApartL3_eq (k : Int) (l : List Int × Unit × Unit) (b2 : List Int) (i : List Int) (b999999999999007 : List Int) : law06IApartL3 k l b2 i b999999999999007 = iter (fun p : Int × (List Int × Unit × Unit) × List Int × List Int × List Int => law06IApartL3R p.1 p.2.1 p.2.2.1 p.2.2.2.1 p.2.2.2.2) (1000) (k, l, b2, i, b999999999999007) := hide_eq _
def law06IApartL3v1R (k : Int) (l : List Int × List Int × Unit) (i : List Int) (b60 : List (List Int)) (b999999999999007 : List Int) : Option ((Int × (List Int × List Int × Unit) × List Int × List (List Int) × List Int) ⊕ ((List Int × List Int × Unit) × List Int × List (List Int) × List Int)) :=
 bif (decide (k < (70 : Int))) then
  bif roomB 1 (b999999999999007.length + [(126 : Int)].length) then
   (some (b999999999999007 ++ [(126 : Int)])).bind fun a8 =>
   some (.inl ((IntKind.wrap .i64 (k + (1 : Int))), (l.1, l.2.1, ()), i, b60, a8))
  else none
 else
  some (.inr ((l.1, l.2.1, ()), i, b60, b999999999999007))
def law06IApartL3v1 (k : Int) (l : List Int × List Int × Unit) (i : List Int) (b60 : List (List Int)) (b999999999999007 : List Int) : Option ((List Int × List Int × Unit) × List Int × List (List Int) × List Int) := hide (iter (fun p : Int × (List Int × List Int × Unit) × List Int × List (List Int) × List Int => law06IApartL3v1R p.1 p.2.1 p.2.2.1 p.2.2.2.1 p.2.2.2.2) (1000) (k, l, i, b60, b999999999999007))
theorem law06IApartL3v1_eq (k : Int) (l : List Int × List Int × Unit) (i : List Int) (b60 : List (List Int)) (b999999999999007 : List Int) : law06IApartL3v1 k l i b60 b999999999999007 = iter (fun p : Int × (List Int × List Int × Unit) × List Int × List (List Int) × List Int => law06IApartL3v1R p.1 p.2.1 p.2.2.1 p.2.2.2.1 p.2.2.2.2) (1000) (k, l, i, b60, b999999999999007) := hide_eq _
def law06IApartL3v2R (k : Int) (l : List Int × List Int × List Int) (b1000060 : List (List Int)) (b999999999999007 : List Int) : Option ((Int × (List Int × List Int × List Int) × List (List Int) × List Int) ⊕ ((List Int × List Int × List Int) × List (List Int) × List Int)) :=
 bif (decide (k < (70 : Int))) then
  bif roomB 1 (b999999999999007.length + [(127 : Int)].length) then
   (some (b999999999999007 ++ [(127 : Int)])).bind fun a12 =>
   some (.inl ((IntKind.wrap .i64 (k + (1 : Int))), l, b1000060, a12))
  else none
 else
  some (.inr (l, b1000060, b999999999999007))
def law06IApartL3v2 (k : Int) (l : List Int × List Int × List Int) (b1000060 : List (List Int)) (b999999999999007 : List Int) : Option ((List Int × List Int × List Int) × List (List Int) × List Int) := hide (iter (fun p : Int × (List Int × List Int × List Int) × List (List Int) × List Int => law06IApartL3v2R p.1 p.2.1 p.2.2.1 p.2.2.2) (1000) (k, l, b1000060, b999999999999007))
theorem law06IApartL3v2_eq (k : Int) (l : List Int × List Int × List Int) (b1000060 : List (List Int)) (b999999999999007 : List Int) : law06IApartL3v2 k l b1000060 b999999999999007 = iter (fun p : Int × (List Int × List Int × List Int) × List (List Int) × List Int => law06IApartL3v2R p.1 p.2.1 p.2.2.1 p.2.2.2) (1000) (k, l, b1000060, b999999999999007) := hide_eq _
def law06IApartL5R (n : Int) (k : Int) (l : List Int × List Int × List Int) (b60 : List (List Int)) : Option ((Int × Int × (List Int × List Int × List Int) × List (List Int)) ⊕ ((List Int × List Int × List Int) ⊕ ((List Int × List Int × List Int) × List (List Int)))) :=
 bif Nat.blt 0 b60.length then
  bif Nat.blt 0 b60.length then
   bif (decide (k < (((b60.getD 0 ([] : List Int)).length : Nat) : Int))) then
    bif (decide (k < n)) then
     bif decide (0 ≤ k) then
      bif Nat.blt (Int.toNat k) l.1.length then
       bif ((l.1.getD (Int.toNat k) (0 : Int)) != (0 : Int)) then
        some (.inr (.inl l))
       else
        bif Nat.blt 0 b60.length then
         bif Nat.blt 0 b60.length then
          bif decide (0 ≤ k) then
           bif Nat.blt (Int.toNat k) ((b60.getD 0 ([] : List Int)).length) then
            bif (((b60.getD 0 ([] : List Int)).getD (Int.toNat k) (0 : Int)) != (0 : Int)) then
             some (.inr (.inl l))
            else
             bif (decide (k ≥ n)) then
              bif Nat.blt 0 b60.length then
               bif Nat.blt 0 b60.length then
                bif decide (0 ≤ k) then
                 bif Nat.blt (Int.toNat k) ((b60.getD 0 ([] : List Int)).length) then
                  bif (((b60.getD 0 ([] : List Int)).getD (Int.toNat k) (0 : Int)) != (125 : Int)) then
                   some (.inr (.inl l))
                  else
                   some (.inl (n, (IntKind.wrap .i64 (k + (1 : Int))), l, b60))
                 else none
                else none
               else none
              else none
             else
              some (.inl (n, (IntKind.wrap .i64 (k + (1 : Int))), l, b60))
           else none
          else none
         else none
        else none
      else none
     else none
    else
     bif (decide (k ≥ n)) then
      bif Nat.blt 0 b60.length then
       bif Nat.blt 0 b60.length then
        bif decide (0 ≤ k) then
         bif Nat.blt (Int.toNat k) ((b60.getD 0 ([] : List Int)).length) then
          bif (((b60.getD 0 ([] : List Int)).getD (Int.toNat k) (0 : Int)) != (125 : Int)) then
           some (.inr (.inl l))
          else
           some (.inl (n, (IntKind.wrap .i64 (k + (1 : Int))), l, b60))
         else none
        else none
       else none
      else none
     else
      some (.inl (n, (IntKind.wrap .i64 (k + (1 : Int))), l, b60))
   else
    some (.inr (.inr (l, b60)))
  else none
 else none
def law06IApartL5 (n : Int) (k : Int) (l : List Int × List Int × List Int) (b60 : List (List Int)) : Option ((List Int × List Int × List Int) ⊕ ((List Int × List Int × List Int) × List (List Int))) := hide (iter (fun p : Int × Int × (List Int × List Int × List Int) × List (List Int) => law06IApartL5R p.1 p.2.1 p.2.2.1 p.2.2.2) (bigFuel) (n, k, l, b60))
theorem law06IApartL5_eq (n : Int) (k : Int) (l : List Int × List Int × List Int) (b60 : List (List Int)) : law06IApartL5 n k l b60 = iter (fun p : Int × Int × (List Int × List Int × List Int) × List (List Int) => law06IApartL5R p.1 p.2.1 p.2.2.1 p.2.2.2) (bigFuel) (n, k, l, b60) := hide_eq _
def law06IApartL5v1R (n : Int) (k : Int) (l : List Int × List Int × List Int) (b60 : List (List Int)) : Option ((Int × Int × (List Int × List Int × List Int) × List (List Int)) ⊕ ((List Int × List Int × List Int) ⊕ ((List Int × List Int × List Int) × List (List Int)))) :=
 bif Nat.blt 1 b60.length then
  bif Nat.blt 1 b60.length then
   bif (decide (k < (((b60.getD 1 ([] : List Int)).length : Nat) : Int))) then
    bif (decide (k < n)) then
     bif decide (0 ≤ k) then
      bif Nat.blt (Int.toNat k) l.2.1.length then
       bif ((l.2.1.getD (Int.toNat k) (0 : Int)) != (1 : Int)) then
        some (.inr (.inl l))
       else
        bif Nat.blt 1 b60.length then
         bif Nat.blt 1 b60.length then
          bif decide (0 ≤ k) then
           bif Nat.blt (Int.toNat k) ((b60.getD 1 ([] : List Int)).length) then
            bif (((b60.getD 1 ([] : List Int)).getD (Int.toNat k) (0 : Int)) != (1 : Int)) then
             some (.inr (.inl l))
            else
             bif (decide (k ≥ n)) then
              bif Nat.blt 1 b60.length then
               bif Nat.blt 1 b60.length then
                bif decide (0 ≤ k) then
                 bif Nat.blt (Int.toNat k) ((b60.getD 1 ([] : List Int)).length) then
                  bif (((b60.getD 1 ([] : List Int)).getD (Int.toNat k) (0 : Int)) != (126 : Int)) then
                   some (.inr (.inl l))
                  else
                   some (.inl (n, (IntKind.wrap .i64 (k + (1 : Int))), l, b60))
                 else none
                else none
               else none
              else none
             else
              some (.inl (n, (IntKind.wrap .i64 (k + (1 : Int))), l, b60))
           else none
          else none
         else none
        else none
      else none
     else none
    else
     bif (decide (k ≥ n)) then
      bif Nat.blt 1 b60.length then
       bif Nat.blt 1 b60.length then
        bif decide (0 ≤ k) then
         bif Nat.blt (Int.toNat k) ((b60.getD 1 ([] : List Int)).length) then
          bif (((b60.getD 1 ([] : List Int)).getD (Int.toNat k) (0 : Int)) != (126 : Int)) then
           some (.inr (.inl l))
          else
           some (.inl (n, (IntKind.wrap .i64 (k + (1 : Int))), l, b60))
         else none
        else none
       else none
      else none
     else
      some (.inl (n, (IntKind.wrap .i64 (k + (1 : Int))), l, b60))
   else
    some (.inr (.inr (l, b60)))
  else none
 else none
def law06IApartL5v1 (n : Int) (k : Int) (l : List Int × List Int × List Int) (b60 : List (List Int)) : Option ((List Int × List Int × List Int) ⊕ ((List Int × List Int × List Int) × List (List Int))) := hide (iter (fun p : Int × Int × (List Int × List Int × List Int) × List (List Int) => law06IApartL5v1R p.1 p.2.1 p.2.2.1 p.2.2.2) (bigFuel) (n, k, l, b60))
theorem law06IApartL5v1_eq (n : Int) (k : Int) (l : List Int × List Int × List Int) (b60 : List (List Int)) : law06IApartL5v1 n k l b60 = iter (fun p : Int × Int × (List Int × List Int × List Int) × List (List Int) => law06IApartL5v1R p.1 p.2.1 p.2.2.1 p.2.2.2) (bigFuel) (n, k, l, b60) := hide_eq _
def law06IApartL5v2R (n : Int) (k : Int) (l : List Int × List Int × List Int) (b60 : List (List Int)) : Option ((Int × Int × (List Int × List Int × List Int) × List (List Int)) ⊕ ((List Int × List Int × List Int) ⊕ ((List Int × List Int × List Int) × List (List Int)))) :=
 bif Nat.blt 2 b60.length then
  bif Nat.blt 2 b60.length then
   bif (decide (k < (((b60.getD 2 ([] : List Int)).length : Nat) : Int))) then
    bif (decide (k < n)) then
     bif decide (0 ≤ k) then
      bif Nat.blt (Int.toNat k) l.2.2.length then
       bif ((l.2.2.getD (Int.toNat k) (0 : Int)) != (2 : Int)) then
        some (.inr (.inl l))
       else
        bif Nat.blt 2 b60.length then
         bif Nat.blt 2 b60.length then
          bif decide (0 ≤ k) then
           bif Nat.blt (Int.toNat k) ((b60.getD 2 ([] : List Int)).length) then
            bif (((b60.getD 2 ([] : List Int)).getD (Int.toNat k) (0 : Int)) != (2 : Int)) then
             some (.inr (.inl l))
            else
             bif (decide (k ≥ n)) then
              bif Nat.blt 2 b60.length then
               bif Nat.blt 2 b60.length then
                bif decide (0 ≤ k) then
                 bif Nat.blt (Int.toNat k) ((b60.getD 2 ([] : List Int)).length) then
                  bif (((b60.getD 2 ([] : List Int)).getD (Int.toNat k) (0 : Int)) != (127 : Int)) then
                   some (.inr (.inl l))
                  else
                   some (.inl (n, (IntKind.wrap .i64 (k + (1 : Int))), l, b60))
                 else none
                else none
               else none
              else none
             else
              some (.inl (n, (IntKind.wrap .i64 (k + (1 : Int))), l, b60))
           else none
          else none
         else none
        else none
      else none
     else none
    else
     bif (decide (k ≥ n)) then
      bif Nat.blt 2 b60.length then
       bif Nat.blt 2 b60.length then
        bif decide (0 ≤ k) then
         bif Nat.blt (Int.toNat k) ((b60.getD 2 ([] : List Int)).length) then
          bif (((b60.getD 2 ([] : List Int)).getD (Int.toNat k) (0 : Int)) != (127 : Int)) then
           some (.inr (.inl l))
          else
           some (.inl (n, (IntKind.wrap .i64 (k + (1 : Int))), l, b60))
         else none
        else none
       else none
      else none
     else
      some (.inl (n, (IntKind.wrap .i64 (k + (1 : Int))), l, b60))
   else
    some (.inr (.inr (l, b60)))
  else none
 else none
def law06IApartL5v2 (n : Int) (k : Int) (l : List Int × List Int × List Int) (b60 : List (List Int)) : Option ((List Int × List Int × List Int) ⊕ ((List Int × List Int × List Int) × List (List Int))) := hide (iter (fun p : Int × Int × (List Int × List Int × List Int) × List (List Int) => law06IApartL5v2R p.1 p.2.1 p.2.2.1 p.2.2.2) (bigFuel) (n, k, l, b60))
theorem law06IApartL5v2_eq (n : Int) (k : Int) (l : List Int × List Int × List Int) (b60 : List (List Int)) : law06IApartL5v2 n k l b60 = iter (fun p : Int × Int × (List Int × List Int × List Int) × List (List Int) => law06IApartL5v2R p.1 p.2.1 p.2.2.1 p.2.2.2) (bigFuel) (n, k, l, b60) := hide_eq _
def law06IApartB (b0 : Unit × Unit × Unit) (b1 : List Int) (b2 : List Int) (b3 : List Int) : Option (Bool) :=
 (law06IApartL1 (0 : Int) ((), (), ()) b1 b2 b3).bind fun q1 =>
 (law06IApartL1v1 (0 : Int) ((), (), ()) q1.2.1 q1.2.2.1 q1.2.2.2).bind fun q2 =>
 (law06IApartL1v2 (0 : Int) ((), (), ()) q2.2.1 q2.2.2.1 q2.2.2.2).bind fun q3 =>
 (law06IApartL3 (0 : Int) (q3.2.1, (), ()) q3.2.2.1 q3.2.2.2 q3.2.1).bind fun q6 =>
 bif roomB 24 ([q6.2.2.2].length) then
  (law06IApartL3v1 (0 : Int) (q6.1.1, q6.2.1, ()) q6.2.2.1 [q6.2.2.2] q6.2.1).bind fun q9 =>
  bif roomB 24 (q9.2.2.1.length + [q9.2.2.2].length) then
   (some (q9.2.2.1 ++ [q9.2.2.2])).bind fun a10 =>
   (law06IApartL3v2 (0 : Int) (q9.1.1, q9.1.2.1, q9.2.1) a10 q9.2.1).bind fun q13 =>
   bif roomB 24 (q13.2.1.length + [q13.2.2].length) then
    (some (q13.2.1 ++ [q13.2.2])).bind fun a14 =>
    (law06IApartL5 ((q13.1.1.length : Nat) : Int) (0 : Int) q13.1 a14).bind fun q15 =>
    sumK q15 (fun q16 =>
     some false)
     (fun q17 =>
     (law06IApartL5v1 ((q17.1.2.1.length : Nat) : Int) (0 : Int) q17.1 q17.2).bind fun q18 =>
     sumK q18 (fun q19 =>
      some false)
      (fun q20 =>
      (law06IApartL5v2 ((q20.1.2.2.length : Nat) : Int) (0 : Int) q20.1 q20.2).bind fun q21 =>
      sumK q21 (fun q22 =>
       some false)
       (fun q23 =>
       some true)))
   else none
  else none
 else none
def law06IApart (b0 : Unit × Unit × Unit) (b1 : List Int) (b2 : List Int) (b3 : List Int) : Option (Bool) := hide (law06IApartB b0 b1 b2 b3)
theorem law06IApart_eq (b0 : Unit × Unit × Unit) (b1 : List Int) (b2 : List Int) (b3 : List Int) : law06IApart b0 b1 b2 b3 = law06IApartB b0 b1 b2 b3 := hide_eq _
def law06EcdsaPacksL0R (data : List Int) (f : Int) (given : Nat × Nat) (i : Int) (s : Nat × Nat × Bool) (b1000027 : List Int) (b1000032 : List Int) (b1000046 : List Int) : Option ((List Int × Int × (Nat × Nat) × Int × (Nat × Nat × Bool) × List Int × List Int × List Int) ⊕ (Int × (Nat × Nat) × (Nat × Nat × Bool) × List Int × List Int × List Int)) :=
 bif (decide (i < ((data.length : Nat) : Int))) then
  bif decide (0 ≤ (IntKind.wrap .i64 ((IntKind.wrap .i64 (((data.length : Nat) : Int) - (1 : Int))) - i))) then
   bif Nat.blt (Int.toNat (IntKind.wrap .i64 ((IntKind.wrap .i64 (((data.length : Nat) : Int) - (1 : Int))) - i))) data.length then
    bif decide (0 ≤ i) then
     bif Nat.blt (Int.toNat i) given.2 then
      bif Nat.blt (given.1 + (Int.toNat i)) b1000046.length then
       some (.inl (data, f, given, (IntKind.wrap .i64 (i + (1 : Int))), s, b1000027, b1000032, (b1000046.set (given.1 + (Int.toNat i)) (data.getD (Int.toNat (IntKind.wrap .i64 ((IntKind.wrap .i64 (((data.length : Nat) : Int) - (1 : Int))) - i))) (0 : Int)))))
      else none
     else none
    else none
   else none
  else none
 else
  some (.inr (f, given, s, b1000027, b1000032, b1000046))
def law06EcdsaPacksL0 (data : List Int) (f : Int) (given : Nat × Nat) (i : Int) (s : Nat × Nat × Bool) (b1000027 : List Int) (b1000032 : List Int) (b1000046 : List Int) : Option (Int × (Nat × Nat) × (Nat × Nat × Bool) × List Int × List Int × List Int) := hide (iter (fun p : List Int × Int × (Nat × Nat) × Int × (Nat × Nat × Bool) × List Int × List Int × List Int => law06EcdsaPacksL0R p.1 p.2.1 p.2.2.1 p.2.2.2.1 p.2.2.2.2.1 p.2.2.2.2.2.1 p.2.2.2.2.2.2.1 p.2.2.2.2.2.2.2) (bigFuel) (data, f, given, i, s, b1000027, b1000032, b1000046))
theorem law06EcdsaPacksL0_eq (data : List Int) (f : Int) (given : Nat × Nat) (i : Int) (s : Nat × Nat × Bool) (b1000027 : List Int) (b1000032 : List Int) (b1000046 : List Int) : law06EcdsaPacksL0 data f given i s b1000027 b1000032 b1000046 = iter (fun p : List Int × Int × (Nat × Nat) × Int × (Nat × Nat × Bool) × List Int × List Int × List Int => law06EcdsaPacksL0R p.1 p.2.1 p.2.2.1 p.2.2.2.1 p.2.2.2.2.1 p.2.2.2.2.2.1 p.2.2.2.2.2.2.1 p.2.2.2.2.2.2.2) (bigFuel) (data, f, given, i, s, b1000027, b1000032, b1000046) := hide_eq _
def law06EcdsaPacksB (s : Nat × Nat × Bool) (data : List Int) : Option (Bool) :=
 (ecdsaPack s).bind fun r1 =>
 (ref06Pack s).bind fun r2 =>
 (law06ISame r1.2 r2.2).bind fun r3 =>
 bif (!r3) then
  some false
 else
  (law06INum r1.1).bind fun r4 =>
  bif (r4 != r2.1) then
   some false
  else
   (law06ILent data).bind fun r5 =>
   bif Nat.ble (r5.1.1 + r5.1.2) r5.2.length then
    (ecdsaUnpack (List.take r5.1.2 (List.drop r5.1.1 r5.2))).bind fun r6 =>
    (ref06Unpack data).bind fun r7 =>
    bif (!((u256eq r6.1.1 r7.1.1) && ((u256eq r6.1.2.1 r7.1.2.1) && (r6.1.2.2 == r7.1.2.2)))) then
     some false
    else
     (law06INum r6.2).bind fun r8 =>
     bif (r8 != r7.2) then
      some false
     else
      (law06IStill r5.1 r5.2 data).bind fun r9 =>
      bif (!r9.1) then
       some false
      else
       (law06EcdsaPacksL0 data r2.1 r5.1 (0 : Int) s r1.2 r2.2 r9.2).bind fun q10 =>
       bif Nat.ble (q10.2.1.1 + q10.2.1.2) q10.2.2.2.2.2.length then
        (ecdsaUnpack (List.take q10.2.1.2 (List.drop q10.2.1.1 q10.2.2.2.2.2))).bind fun r11 =>
        bif Nat.ble (q10.2.1.1 + q10.2.1.2) q10.2.2.2.2.2.length then
         (law06ICopied (List.take q10.2.1.2 (List.drop q10.2.1.1 q10.2.2.2.2.2))).bind fun r12 =>
         (ref06Unpack r12).bind fun r13 =>
         bif (!((u256eq r11.1.1 r13.1.1) && ((u256eq r11.1.2.1 r13.1.2.1) && (r11.1.2.2 == r13.1.2.2)))) then
          some false
         else
          (law06INum r11.2).bind fun r14 =>
          bif (r14 != r13.2) then
           some false
          else
           (ecdsaPack q10.2.2.1).bind fun r15 =>
           (ecdsaPack r11.1).bind fun r16 =>
           (ref06Pack r13.1).bind fun r17 =>
           (law06ISame r15.2 q10.2.2.2.2.1).bind fun r18 =>
           bif r18 then
            (law06INum r15.1).bind fun r19 =>
            bif (r19 == q10.1) then
             (law06ISame r16.2 r17.2).bind fun r20 =>
             bif r20 then
              (law06INum r16.1).bind fun r21 =>
              bif (r21 == r17.1) then
               (law06IApart ((), (), ()) q10.2.2.2.1 r15.2 r16.2).bind fun r22 =>
               some r22
              else
               some false
             else
              some false
            else
             some false
           else
            some false
        else none
       else none
   else none
def law06EcdsaPacks (s : Nat × Nat × Bool) (data : List Int) : Option (Bool) := hide (law06EcdsaPacksB s data)
theorem law06EcdsaPacks_eq (s : Nat × Nat × Bool) (data : List Int) : law06EcdsaPacks s data = law06EcdsaPacksB s data := hide_eq _
end Go.Sy
