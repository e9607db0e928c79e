/- Typed functions, printed by a program out of the code: what each function of the code computes. -/

import Derived.Test.YtfappeeggccicaaDoorSyVT

set_option linter.unusedVariables false

namespace Go.Sy

open Go

noncomputable def curveIZeroB  : Option (Nat) :=
  some 0

noncomputable def curveIZero  : Option (Nat) := hide (curveIZeroB )

theorem curveIZero_eq  : curveIZero  = curveIZeroB  := hide_eq _

noncomputable def curveIPrimeB  : Option (Nat) :=
  (fieldModulus (0 : Int)).bind fun r1 =>
  some r1.1

noncomputable def curveIPrime  : Option (Nat) := hide (curveIPrimeB )

theorem curveIPrime_eq  : curveIPrime  = curveIPrimeB  := hide_eq _

noncomputable def curveISquareB (x : Nat) : Option (Nat) :=
  (fieldSquare (0 : Int) x).bind fun r1 =>
  some r1.1

noncomputable def curveISquare (x : Nat) : Option (Nat) := hide (curveISquareB x)

theorem curveISquare_eq (x : Nat) : curveISquare x = curveISquareB x := hide_eq _

noncomputable def curveITimesB (x : Nat) (y : Nat) : Option (Nat) :=
  (fieldMul (0 : Int) x y).bind fun r1 =>
  some r1.1

noncomputable def curveITimes (x : Nat) (y : Nat) : Option (Nat) := hide (curveITimesB x y)

theorem curveITimes_eq (x : Nat) (y : Nat) : curveITimes x y = curveITimesB x y := hide_eq _

noncomputable def curveIPlusB (x : Nat) (y : Nat) : Option (Nat) :=
  (fieldAdd (0 : Int) x y).bind fun r1 =>
  some r1.1

noncomputable def curveIPlus (x : Nat) (y : Nat) : Option (Nat) := hide (curveIPlusB x y)

theorem curveIPlus_eq (x : Nat) (y : Nat) : curveIPlus x y = curveIPlusB x y := hide_eq _

noncomputable def curveIRightB (x : Nat) : Option (Nat) :=
  (curveISquare x).bind fun r1 =>
  (curveITimes x r1).bind fun r2 =>
  (curveIPlus r2 7).bind fun r3 =>
  some r3

noncomputable def curveIRight (x : Nat) : Option (Nat) := hide (curveIRightB x)

theorem curveIRight_eq (x : Nat) : curveIRight x = curveIRightB x := hide_eq _

noncomputable def curveOnB (p : Nat × Nat × Bool) : Option (Bool) :=
  bif p.2.2 then
    (curveIZero).bind fun r1 =>
    bif (u256eq p.1 r1) then
      (curveIZero).bind fun r2 =>
      some (u256eq p.2.1 r2)
    else
      some false
  else
    (curveIPrime).bind fun r3 =>
    (u256Cmp p.1 r3).bind fun r4 =>
    bif (decide (r4 < (0 : Int))) then
      (curveIPrime).bind fun r5 =>
      (u256Cmp p.2.1 r5).bind fun r6 =>
      bif (decide (r6 < (0 : Int))) then
        (curveISquare p.2.1).bind fun r7 =>
        (curveIRight p.1).bind fun r8 =>
        some (u256eq r7 r8)
      else
        some false
    else
      some false

noncomputable def curveOn (p : Nat × Nat × Bool) : Option (Bool) := hide (curveOnB p)

theorem curveOn_eq (p : Nat × Nat × Bool) : curveOn p = curveOnB p := hide_eq _

noncomputable def curveIMinusB (x : Nat) (y : Nat) : Option (Nat) :=
  (fieldSub (0 : Int) x y).bind fun r1 =>
  some r1.1

noncomputable def curveIMinus (x : Nat) (y : Nat) : Option (Nat) := hide (curveIMinusB x y)

theorem curveIMinus_eq (x : Nat) (y : Nat) : curveIMinus x y = curveIMinusB x y := hide_eq _

noncomputable def curveLiftB (x : Nat) (odd : Bool) : Option ((Nat × Nat × Bool) × Int) :=
  (curveIPrime).bind fun r1 =>
  (u256Cmp x r1).bind fun r2 =>
  bif (decide (r2 ≥ (0 : Int))) then
    some ((0, 0, false), (50 : Int))
  else
    (curveIRight x).bind fun r3 =>
    (fieldRoot r3).bind fun r4 =>
    bif (r4.2 != (0 : Int)) then
      some ((0, 0, false), (50 : Int))
    else
      bif odd then
        (curveIZero).bind fun r5 =>
        (curveIMinus r5 r4.1).bind fun r6 =>
        some ((x, r6, false), (0 : Int))
      else
        some ((x, r4.1, false), (0 : Int))

noncomputable def curveLift (x : Nat) (odd : Bool) : Option ((Nat × Nat × Bool) × Int) := hide (curveLiftB x odd)

theorem curveLift_eq (x : Nat) (odd : Bool) : curveLift x odd = curveLiftB x odd := hide_eq _

noncomputable def curveGB  : Option (Nat × Nat × Bool) :=
  bif inU64 (curveBase.getD 0 (0 : Int)) then
    bif inU64 (curveBase.getD 1 (0 : Int)) then
      bif inU64 (curveBase.getD 2 (0 : Int)) then
        bif inU64 (curveBase.getD 3 (0 : Int)) then
          bif inU64 (curveBase.getD 4 (0 : Int)) then
            bif inU64 (curveBase.getD 5 (0 : Int)) then
              bif inU64 (curveBase.getD 6 (0 : Int)) then
                bif inU64 (curveBase.getD 7 (0 : Int)) then
                  some ((setLimb (setLimb (setLimb (setLimb 0 0 (curveBase.getD 0 (0 : Int))) 1 (curveBase.getD 1 (0 : Int))) 2 (curveBase.getD 2 (0 : Int))) 3 (curveBase.getD 3 (0 : Int))), (setLimb (setLimb (setLimb (setLimb 0 0 (curveBase.getD 4 (0 : Int))) 1 (curveBase.getD 5 (0 : Int))) 2 (curveBase.getD 6 (0 : Int))) 3 (curveBase.getD 7 (0 : Int))), false)
                else none
              else none
            else none
          else none
        else none
      else none
    else none
  else none

noncomputable def curveG  : Option (Nat × Nat × Bool) := hide (curveGB )

theorem curveG_eq  : curveG  = curveGB  := hide_eq _

noncomputable def curveIOneB  : Option (Nat) :=
  some 1

noncomputable def curveIOne  : Option (Nat) := hide (curveIOneB )

theorem curveIOne_eq  : curveIOne  = curveIOneB  := hide_eq _

noncomputable def curveIOfB (p : Nat × Nat × Bool) : Option (Nat × Nat × Nat) :=
  bif p.2.2 then
    some (0, 0, 0)
  else
    (curveIOne).bind fun r1 =>
    some (p.1, p.2.1, r1)

noncomputable def curveIOf (p : Nat × Nat × Bool) : Option (Nat × Nat × Nat) := hide (curveIOfB p)

theorem curveIOf_eq (p : Nat × Nat × Bool) : curveIOf p = curveIOfB p := hide_eq _

noncomputable def curveJacobianDoubleB (p : Nat × Nat × Nat) : Option (Nat × Nat × Nat) :=
  (curveIZero).bind fun r1 =>
  bif (u256eq p.2.2 r1) then
    some p
  else
    (curveISquare p.2.1).bind fun r2 =>
    (curveITimes p.1 r2).bind fun r3 =>
    (curveIPlus r3 r3).bind fun r4 =>
    (curveIPlus r4 r4).bind fun r5 =>
    (curveISquare p.1).bind fun r6 =>
    (curveIPlus r6 r6).bind fun r7 =>
    (curveIPlus r7 r6).bind fun r8 =>
    (curveISquare r8).bind fun r9 =>
    (curveIMinus r9 r5).bind fun r10 =>
    (curveIMinus r10 r5).bind fun r11 =>
    (curveISquare r2).bind fun r12 =>
    (curveIPlus r12 r12).bind fun r13 =>
    (curveIPlus r13 r13).bind fun r14 =>
    (curveIPlus r14 r14).bind fun r15 =>
    (curveITimes p.2.1 p.2.2).bind fun r16 =>
    (curveIMinus r5 r11).bind fun r17 =>
    (curveITimes r8 r17).bind fun r18 =>
    (curveIMinus r18 r15).bind fun r19 =>
    (curveIPlus r16 r16).bind fun r20 =>
    some (r11, r19, r20)

noncomputable def curveJacobianDouble (p : Nat × Nat × Nat) : Option (Nat × Nat × Nat) := hide (curveJacobianDoubleB p)

theorem curveJacobianDouble_eq (p : Nat × Nat × Nat) : curveJacobianDouble p = curveJacobianDoubleB p := hide_eq _

noncomputable def curveJacobianAddB (p : Nat × Nat × Nat) (q : Nat × Nat × Nat) : Option (Nat × Nat × Nat) :=
  (curveIZero).bind fun r1 =>
  bif (u256eq p.2.2 r1) then
    some q
  else
    (curveIZero).bind fun r2 =>
    bif (u256eq q.2.2 r2) then
      some p
    else
      (curveISquare p.2.2).bind fun r3 =>
      (curveISquare q.2.2).bind fun r4 =>
      (curveITimes p.1 r4).bind fun r5 =>
      (curveITimes q.1 r3).bind fun r6 =>
      (curveITimes q.2.2 r4).bind fun r7 =>
      (curveITimes p.2.1 r7).bind fun r8 =>
      (curveITimes p.2.2 r3).bind fun r9 =>
      (curveITimes q.2.1 r9).bind fun r10 =>
      (curveIMinus r6 r5).bind fun r11 =>
      (curveIMinus r10 r8).bind fun r12 =>
      (curveIZero).bind fun r13 =>
      bif (u256eq r11 r13) then
        (curveIZero).bind fun r14 =>
        bif (u256eq r12 r14) then
          (curveJacobianDouble p).bind fun r15 =>
          some r15
        else
          some (0, 0, 0)
      else
        (curveISquare r11).bind fun r16 =>
        (curveITimes r11 r16).bind fun r17 =>
        (curveITimes r5 r16).bind fun r18 =>
        (curveISquare r12).bind fun r19 =>
        (curveIMinus r19 r17).bind fun r20 =>
        (curveIMinus r20 r18).bind fun r21 =>
        (curveIMinus r21 r18).bind fun r22 =>
        (curveIMinus r18 r22).bind fun r23 =>
        (curveITimes r12 r23).bind fun r24 =>
        (curveITimes r8 r17).bind fun r25 =>
        (curveIMinus r24 r25).bind fun r26 =>
        (curveITimes p.2.2 q.2.2).bind fun r27 =>
        (curveITimes r11 r27).bind fun r28 =>
        some (r22, r26, r28)

noncomputable def curveJacobianAdd (p : Nat × Nat × Nat) (q : Nat × Nat × Nat) : Option (Nat × Nat × Nat) := hide (curveJacobianAddB p q)

theorem curveJacobianAdd_eq (p : Nat × Nat × Nat) (q : Nat × Nat × Nat) : curveJacobianAdd p q = curveJacobianAddB p q := hide_eq _

noncomputable def curveJacobianRowB (p : Nat × Nat × Nat) : Option (List (Nat × Nat × Nat)) :=
  (curveJacobianAdd ((List.replicate 16 ((0, 0, 0) : Nat × Nat × Nat)).getD 0 ((0, 0, 0) : Nat × Nat × Nat)) p).bind fun r1 =>
  (curveJacobianAdd (((List.replicate 16 ((0, 0, 0) : Nat × Nat × Nat)).set 1 r1).getD 1 ((0, 0, 0) : Nat × Nat × Nat)) p).bind fun r2 =>
  (curveJacobianAdd ((((List.replicate 16 ((0, 0, 0) : Nat × Nat × Nat)).set 1 r1).set 2 r2).getD 2 ((0, 0, 0) : Nat × Nat × Nat)) p).bind fun r3 =>
  (curveJacobianAdd (((((List.replicate 16 ((0, 0, 0) : Nat × Nat × Nat)).set 1 r1).set 2 r2).set 3 r3).getD 3 ((0, 0, 0) : Nat × Nat × Nat)) p).bind fun r4 =>
  (curveJacobianAdd ((((((List.replicate 16 ((0, 0, 0) : Nat × Nat × Nat)).set 1 r1).set 2 r2).set 3 r3).set 4 r4).getD 4 ((0, 0, 0) : Nat × Nat × Nat)) p).bind fun r5 =>
  (curveJacobianAdd (((((((List.replicate 16 ((0, 0, 0) : Nat × Nat × Nat)).set 1 r1).set 2 r2).set 3 r3).set 4 r4).set 5 r5).getD 5 ((0, 0, 0) : Nat × Nat × Nat)) p).bind fun r6 =>
  (curveJacobianAdd ((((((((List.replicate 16 ((0, 0, 0) : Nat × Nat × Nat)).set 1 r1).set 2 r2).set 3 r3).set 4 r4).set 5 r5).set 6 r6).getD 6 ((0, 0, 0) : Nat × Nat × Nat)) p).bind fun r7 =>
  (curveJacobianAdd (((((((((List.replicate 16 ((0, 0, 0) : Nat × Nat × Nat)).set 1 r1).set 2 r2).set 3 r3).set 4 r4).set 5 r5).set 6 r6).set 7 r7).getD 7 ((0, 0, 0) : Nat × Nat × Nat)) p).bind fun r8 =>
  (curveJacobianAdd ((((((((((List.replicate 16 ((0, 0, 0) : Nat × Nat × Nat)).set 1 r1).set 2 r2).set 3 r3).set 4 r4).set 5 r5).set 6 r6).set 7 r7).set 8 r8).getD 8 ((0, 0, 0) : Nat × Nat × Nat)) p).bind fun r9 =>
  (curveJacobianAdd (((((((((((List.replicate 16 ((0, 0, 0) : Nat × Nat × Nat)).set 1 r1).set 2 r2).set 3 r3).set 4 r4).set 5 r5).set 6 r6).set 7 r7).set 8 r8).set 9 r9).getD 9 ((0, 0, 0) : Nat × Nat × Nat)) p).bind fun r10 =>
  (curveJacobianAdd ((((((((((((List.replicate 16 ((0, 0, 0) : Nat × Nat × Nat)).set 1 r1).set 2 r2).set 3 r3).set 4 r4).set 5 r5).set 6 r6).set 7 r7).set 8 r8).set 9 r9).set 10 r10).getD 10 ((0, 0, 0) : Nat × Nat × Nat)) p).bind fun r11 =>
  (curveJacobianAdd (((((((((((((List.replicate 16 ((0, 0, 0) : Nat × Nat × Nat)).set 1 r1).set 2 r2).set 3 r3).set 4 r4).set 5 r5).set 6 r6).set 7 r7).set 8 r8).set 9 r9).set 10 r10).set 11 r11).getD 11 ((0, 0, 0) : Nat × Nat × Nat)) p).bind fun r12 =>
  (curveJacobianAdd ((((((((((((((List.replicate 16 ((0, 0, 0) : Nat × Nat × Nat)).set 1 r1).set 2 r2).set 3 r3).set 4 r4).set 5 r5).set 6 r6).set 7 r7).set 8 r8).set 9 r9).set 10 r10).set 11 r11).set 12 r12).getD 12 ((0, 0, 0) : Nat × Nat × Nat)) p).bind fun r13 =>
  (curveJacobianAdd (((((((((((((((List.replicate 16 ((0, 0, 0) : Nat × Nat × Nat)).set 1 r1).set 2 r2).set 3 r3).set 4 r4).set 5 r5).set 6 r6).set 7 r7).set 8 r8).set 9 r9).set 10 r10).set 11 r11).set 12 r12).set 13 r13).getD 13 ((0, 0, 0) : Nat × Nat × Nat)) p).bind fun r14 =>
  (curveJacobianAdd ((((((((((((((((List.replicate 16 ((0, 0, 0) : Nat × Nat × Nat)).set 1 r1).set 2 r2).set 3 r3).set 4 r4).set 5 r5).set 6 r6).set 7 r7).set 8 r8).set 9 r9).set 10 r10).set 11 r11).set 12 r12).set 13 r13).set 14 r14).getD 14 ((0, 0, 0) : Nat × Nat × Nat)) p).bind fun r15 =>
  some ((((((((((((((((List.replicate 16 ((0, 0, 0) : Nat × Nat × Nat)).set 1 r1).set 2 r2).set 3 r3).set 4 r4).set 5 r5).set 6 r6).set 7 r7).set 8 r8).set 9 r9).set 10 r10).set 11 r11).set 12 r12).set 13 r13).set 14 r14).set 15 r15)

noncomputable def curveJacobianRow (p : Nat × Nat × Nat) : Option (List (Nat × Nat × Nat)) := hide (curveJacobianRowB p)

theorem curveJacobianRow_eq (p : Nat × Nat × Nat) : curveJacobianRow p = curveJacobianRowB p := hide_eq _

noncomputable def curveIDigitB (k : Nat) (i : Int) : Option (Int) :=
  bif decide (0 ≤ (IntKind.wrap .i64 (Int.tdiv i (16 : Int)))) then
    bif Nat.blt (Int.toNat (IntKind.wrap .i64 (Int.tdiv i (16 : Int)))) 4 then
      bif Nat.blt (Int.toNat (IntKind.wrap .i64 (Int.tdiv i (16 : Int)))) 4 then
        bif decide ((IntKind.wrap .i64 ((4 : Int) * (Int.tmod i (16 : Int)))) < 0) then
          none
        else
          some (IntKind.wrap .i64 (andI .u64 (shrI .u64 (limb k (Int.toNat (IntKind.wrap .i64 (Int.tdiv i (16 : Int))))) (IntKind.wrap .i64 ((4 : Int) * (Int.tmod i (16 : Int))))) (15 : Int)))
      else none
    else none
  else none

noncomputable def curveIDigit (k : Nat) (i : Int) : Option (Int) := hide (curveIDigitB k i)

theorem curveIDigit_eq (k : Nat) (i : Int) : curveIDigit k i = curveIDigitB k i := hide_eq _

noncomputable def curveJacobianMultipleL0R (i : Int) (k : Nat) (b4 : Nat × Nat × Nat) (l : List (Nat × Nat × Nat)) (sum : Nat × Nat × Nat) : Option ((Int × Nat × (Nat × Nat × Nat) × (List (Nat × Nat × Nat)) × (Nat × Nat × Nat)) ⊕ ((Nat × Nat × Nat) × Nat × Nat × Nat)) :=
  bif (decide (i > (0 : Int))) then
    (curveJacobianDouble sum).bind fun r9 =>
    (curveJacobianDouble r9).bind fun r10 =>
    (curveJacobianDouble r10).bind fun r11 =>
    (curveJacobianDouble r11).bind fun r12 =>
    (curveIDigit k (IntKind.wrap .i64 (i - (1 : Int)))).bind fun r13 =>
    bif decide (0 ≤ r13) then
      bif Nat.blt (Int.toNat r13) 16 then
        bif Nat.blt (Int.toNat r13) 16 then
          (curveJacobianAdd r12 (l.getD (Int.toNat r13) ((0, 0, 0) : Nat × Nat × Nat))).bind fun r14 =>
          some (.inl ((IntKind.wrap .i64 (i - (1 : Int))), k, b4, l, r14))
        else none
      else none
    else none
  else
    some (.inr (b4, sum))

noncomputable def curveJacobianMultipleL0 (i : Int) (k : Nat) (b4 : Nat × Nat × Nat) (l : List (Nat × Nat × Nat)) (sum : Nat × Nat × Nat) : Option ((Nat × Nat × Nat) × Nat × Nat × Nat) := hide (iter (fun p : Int × Nat × (Nat × Nat × Nat) × (List (Nat × Nat × Nat)) × (Nat × Nat × Nat) => curveJacobianMultipleL0R p.1 p.2.1 p.2.2.1 p.2.2.2.1 p.2.2.2.2) (1000) (i, k, b4, l, sum))

theorem curveJacobianMultipleL0_eq (i : Int) (k : Nat) (b4 : Nat × Nat × Nat) (l : List (Nat × Nat × Nat)) (sum : Nat × Nat × Nat) : curveJacobianMultipleL0 i k b4 l sum = iter (fun p : Int × Nat × (Nat × Nat × Nat) × (List (Nat × Nat × Nat)) × (Nat × Nat × Nat) => curveJacobianMultipleL0R p.1 p.2.1 p.2.2.1 p.2.2.2.1 p.2.2.2.2) (1000) (i, k, b4, l, sum) := hide_eq _

noncomputable def curveJacobianMultipleB (p : Nat × Nat × Nat) (k : Nat) : Option (Nat × Nat × Nat) :=
  (curveJacobianRow p).bind fun r1 =>
  (u256Len k).bind fun r2 =>
  (curveJacobianMultipleL0 (IntKind.wrap .i64 (Int.tdiv (IntKind.wrap .i64 (r2 + (3 : Int))) (4 : Int))) k (0, 0, 0) r1 (0, 0, 0)).bind fun q15 =>
  some q15.2

noncomputable def curveJacobianMultiple (p : Nat × Nat × Nat) (k : Nat) : Option (Nat × Nat × Nat) := hide (curveJacobianMultipleB p k)

theorem curveJacobianMultiple_eq (p : Nat × Nat × Nat) (k : Nat) : curveJacobianMultiple p k = curveJacobianMultipleB p k := hide_eq _

noncomputable def curveIMultipleGB (k : Nat) : Option (Nat × Nat × Nat) :=
  (curveG).bind fun r1 =>
  (curveIOf r1).bind fun r2 =>
  (curveJacobianMultiple r2 k).bind fun r3 =>
  some r3

noncomputable def curveIMultipleG (k : Nat) : Option (Nat × Nat × Nat) := hide (curveIMultipleGB k)

theorem curveIMultipleG_eq (k : Nat) : curveIMultipleG k = curveIMultipleGB k := hide_eq _

noncomputable def curveJacobianPointB (p : Nat × Nat × Nat) : Option (Nat × Nat × Bool) :=
  (curveIZero).bind fun r1 =>
  bif (u256eq p.2.2 r1) then
    some (0, 0, true)
  else
    (fieldInverse (0 : Int) p.2.2).bind fun r2 =>
    (curveISquare r2.1).bind fun r3 =>
    (curveITimes p.1 r3).bind fun r4 =>
    (curveITimes r3 r2.1).bind fun r5 =>
    (curveITimes p.2.1 r5).bind fun r6 =>
    some (r4, r6, false)

noncomputable def curveJacobianPoint (p : Nat × Nat × Nat) : Option (Nat × Nat × Bool) := hide (curveJacobianPointB p)

theorem curveJacobianPoint_eq (p : Nat × Nat × Nat) : curveJacobianPoint p = curveJacobianPointB p := hide_eq _

noncomputable def curveMulGB (k : Nat) : Option (Nat × Nat × Bool) :=
  (curveIMultipleG k).bind fun r1 =>
  (curveJacobianPoint r1).bind fun r2 =>
  some r2

noncomputable def curveMulG (k : Nat) : Option (Nat × Nat × Bool) := hide (curveMulGB k)

theorem curveMulG_eq (k : Nat) : curveMulG k = curveMulGB k := hide_eq _

noncomputable def curveMulAddB (a : Nat) (b : Nat) (q : Nat × Nat × Bool) : Option ((Nat × Nat × Bool) × Int) :=
  (curveOn q).bind fun r1 =>
  bif (!r1) then
    some ((0, 0, false), (50 : Int))
  else
    (curveIMultipleG a).bind fun r2 =>
    (curveIOf q).bind fun r3 =>
    (curveJacobianMultiple r3 b).bind fun r4 =>
    (curveJacobianAdd r2 r4).bind fun r5 =>
    (curveJacobianPoint r5).bind fun r6 =>
    some (r6, (0 : Int))

noncomputable def curveMulAdd (a : Nat) (b : Nat) (q : Nat × Nat × Bool) : Option ((Nat × Nat × Bool) × Int) := hide (curveMulAddB a b q)

theorem curveMulAdd_eq (a : Nat) (b : Nat) (q : Nat × Nat × Bool) : curveMulAdd a b q = curveMulAddB a b q := hide_eq _

end Go.Sy
