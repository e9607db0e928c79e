/- Typed functions, printed by a program out of the code: what each function of the code computes. -/
import Derived.Test.YtfappeeggccicaaGreatDoorSyVT
set_option linter.unusedVariables false
noncomputable section
namespace Go.Sy
open Go
def curveGB  : Option (Nat × Nat × Bool) :=
 bif inU64 (curveBase.getD 0 (0 : Int)) then
  bif inU64 (curveBase.getD 1 (0 : Int)) then
   bif inU64 (curveBase.getD 2 (0 : Int)) then
    bif inU64 (curveBase.getD 3 (0 : Int)) then
     bif inU64 (curveBase.getD 4 (0 : Int)) then
      bif inU64 (curveBase.getD 5 (0 : Int)) then
       bif inU64 (curveBase.getD 6 (0 : Int)) then
        bif inU64 (curveBase.getD 7 (0 : Int)) then
         some ((setLimb (setLimb (setLimb (setLimb 0 0 (curveBase.getD 0 (0 : Int))) 1 (curveBase.getD 1 (0 : Int))) 2 (curveBase.getD 2 (0 : Int))) 3 (curveBase.getD 3 (0 : Int))), (setLimb (setLimb (setLimb (setLimb 0 0 (curveBase.getD 4 (0 : Int))) 1 (curveBase.getD 5 (0 : Int))) 2 (curveBase.getD 6 (0 : Int))) 3 (curveBase.getD 7 (0 : Int))), false)
        else none
       else none
      else none
     else none
    else none
   else none
  else none
 else none
def curveG  : Option (Nat × Nat × Bool) := hide (curveGB )
theorem curveG_eq  : curveG  = curveGB  := hide_eq _
def curveIOneB  : Option (Nat) :=
 some 1
def curveIOne  : Option (Nat) := hide (curveIOneB )
theorem curveIOne_eq  : curveIOne  = curveIOneB  := hide_eq _
def curveIOfB (p : Nat × Nat × Bool) : Option (Nat × Nat × Nat) :=
 bif p.2.2 then
  some (0, 0, 0)
 else
  (curveIOne).bind fun r1 =>
  some (p.1, p.2.1, r1)
def curveIOf (p : Nat × Nat × Bool) : Option (Nat × Nat × Nat) := hide (curveIOfB p)
theorem curveIOf_eq (p : Nat × Nat × Bool) : curveIOf p = curveIOfB p := hide_eq _
def curveIZeroB  : Option (Nat) :=
 some 0
def curveIZero  : Option (Nat) := hide (curveIZeroB )
theorem curveIZero_eq  : curveIZero  = curveIZeroB  := hide_eq _
def curveISquareB (x : Nat) : Option (Nat) :=
 (fieldSquare (0 : Int) x).bind fun r1 =>
 some r1.1
def curveISquare (x : Nat) : Option (Nat) := hide (curveISquareB x)
theorem curveISquare_eq (x : Nat) : curveISquare x = curveISquareB x := hide_eq _
def curveITimesB (x : Nat) (y : Nat) : Option (Nat) :=
 (fieldMul (0 : Int) x y).bind fun r1 =>
 some r1.1
def curveITimes (x : Nat) (y : Nat) : Option (Nat) := hide (curveITimesB x y)
theorem curveITimes_eq (x : Nat) (y : Nat) : curveITimes x y = curveITimesB x y := hide_eq _
def curveIMinusB (x : Nat) (y : Nat) : Option (Nat) :=
 (fieldSub (0 : Int) x y).bind fun r1 =>
 some r1.1
def curveIMinus (x : Nat) (y : Nat) : Option (Nat) := hide (curveIMinusB x y)
theorem curveIMinus_eq (x : Nat) (y : Nat) : curveIMinus x y = curveIMinusB x y := hide_eq _
def curveIPlusB (x : Nat) (y : Nat) : Option (Nat) :=
 (fieldAdd (0 : Int) x y).bind fun r1 =>
 some r1.1
def curveIPlus (x : Nat) (y : Nat) : Option (Nat) := hide (curveIPlusB x y)
theorem curveIPlus_eq (x : Nat) (y : Nat) : curveIPlus x y = curveIPlusB x y := hide_eq _
def curveJacobianDoubleB (p : Nat × Nat × Nat) : Option (Nat × Nat × Nat) :=
 (curveIZero).bind fun r1 =>
 bif (u256eq p.2.2 r1) then
  some p
 else
  (curveISquare p.2.1).bind fun r2 =>
  (curveITimes p.1 r2).bind fun r3 =>
  (curveIPlus r3 r3).bind fun r4 =>
  (curveIPlus r4 r4).bind fun r5 =>
  (curveISquare p.1).bind fun r6 =>
  (curveIPlus r6 r6).bind fun r7 =>
  (curveIPlus r7 r6).bind fun r8 =>
  (curveISquare r8).bind fun r9 =>
  (curveIMinus r9 r5).bind fun r10 =>
  (curveIMinus r10 r5).bind fun r11 =>
  (curveISquare r2).bind fun r12 =>
  (curveIPlus r12 r12).bind fun r13 =>
  (curveIPlus r13 r13).bind fun r14 =>
  (curveIPlus r14 r14).bind fun r15 =>
  (curveITimes p.2.1 p.2.2).bind fun r16 =>
  (curveIMinus r5 r11).bind fun r17 =>
  (curveITimes r8 r17).bind fun r18 =>
  (curveIMinus r18 r15).bind fun r19 =>
  (curveIPlus r16 r16).bind fun r20 =>
  some (r11, r19, r20)
def curveJacobianDouble (p : Nat × Nat × Nat) : Option (Nat × Nat × Nat) := hide (curveJacobianDoubleB p)
theorem curveJacobianDouble_eq (p : Nat × Nat × Nat) : curveJacobianDouble p = curveJacobianDoubleB p := hide_eq _
def curveJacobianAddB (p : Nat × Nat × Nat) (q : Nat × Nat × Nat) : Option (Nat × Nat × Nat) :=
 (curveIZero).bind fun r1 =>
 bif (u256eq p.2.2 r1) then
  some q
 else
  (curveIZero).bind fun r2 =>
  bif (u256eq q.2.2 r2) then
   some p
  else
   (curveISquare p.2.2).bind fun r3 =>
   (curveISquare q.2.2).bind fun r4 =>
   (curveITimes p.1 r4).bind fun r5 =>
   (curveITimes q.1 r3).bind fun r6 =>
   (curveITimes q.2.2 r4).bind fun r7 =>
   (curveITimes p.2.1 r7).bind fun r8 =>
   (curveITimes p.2.2 r3).bind fun r9 =>
   (curveITimes q.2.1 r9).bind fun r10 =>
   (curveIMinus r6 r5).bind fun r11 =>
   (curveIMinus r10 r8).bind fun r12 =>
   (curveIZero).bind fun r13 =>
   bif (u256eq r11 r13) then
    (curveIZero).bind fun r14 =>
    bif (u256eq r12 r14) then
     (curveJacobianDouble p).bind fun r15 =>
     some r15
    else
     some (0, 0, 0)
   else
    (curveISquare r11).bind fun r16 =>
    (curveITimes r11 r16).bind fun r17 =>
    (curveITimes r5 r16).bind fun r18 =>
    (curveISquare r12).bind fun r19 =>
    (curveIMinus r19 r17).bind fun r20 =>
    (curveIMinus r20 r18).bind fun r21 =>
    (curveIMinus r21 r18).bind fun r22 =>
    (curveIMinus r18 r22).bind fun r23 =>
    (curveITimes r12 r23).bind fun r24 =>
    (curveITimes r8 r17).bind fun r25 =>
    (curveIMinus r24 r25).bind fun r26 =>
    (curveITimes p.2.2 q.2.2).bind fun r27 =>
    (curveITimes r11 r27).bind fun r28 =>
    some (r22, r26, r28)
def curveJacobianAdd (p : Nat × Nat × Nat) (q : Nat × Nat × Nat) : Option (Nat × Nat × Nat) := hide (curveJacobianAddB p q)
theorem curveJacobianAdd_eq (p : Nat × Nat × Nat) (q : Nat × Nat × Nat) : curveJacobianAdd p q = curveJacobianAddB p q := hide_eq _
def curveJacobianRowB (p : Nat × Nat × Nat) : Option (List (Nat × Nat × Nat)) :=
 (curveJacobianAdd ((List.replicate 16 ((0, 0, 0) : Nat × Nat × Nat)).getD 0 ((0, 0, 0) : Nat × Nat × Nat)) p).bind fun r1 =>
 (curveJacobianAdd (((List.replicate 16 ((0, 0, 0) : Nat × Nat × Nat)).set 1 r1).getD 1 ((0, 0, 0) : Nat × Nat × Nat)) p).bind fun r2 =>
 (curveJacobianAdd ((((List.replicate 16 ((0, 0, 0) : Nat × Nat × Nat)).set 1 r1).set 2 r2).getD 2 ((0, 0, 0) : Nat × Nat × Nat)) p).bind fun r3 =>
 (curveJacobianAdd (((((List.replicate 16 ((0, 0, 0) : Nat × Nat × Nat)).set 1 r1).set 2 r2).set 3 r3).getD 3 ((0, 0, 0) : Nat × Nat × Nat)) p).bind fun r4 =>
 (curveJacobianAdd ((((((List.replicate 16 ((0, 0, 0) : Nat × Nat × Nat)).set 1 r1).set 2 r2).set 3 r3).set 4 r4).getD 4 ((0, 0, 0) : Nat × Nat × Nat)) p).bind fun r5 =>
 (curveJacobianAdd (((((((List.replicate 16 ((0, 0, 0) : Nat × Nat × Nat)).set 1 r1).set 2 r2).set 3 r3).set 4 r4).set 5 r5).getD 5 ((0, 0, 0) : Nat × Nat × Nat)) p).bind fun r6 =>
 (curveJacobianAdd ((((((((List.replicate 16 ((0, 0, 0) : Nat × Nat × Nat)).set 1 r1).set 2 r2).set 3 r3).set 4 r4).set 5 r5).set 6 r6).getD 6 ((0, 0, 0) : Nat × Nat × Nat)) p).bind fun r7 =>
 (curveJacobianAdd (((((((((List.replicate 16 ((0, 0, 0) : Nat × Nat × Nat)).set 1 r1).set 2 r2).set 3 r3).set 4 r4).set 5 r5).set 6 r6).set 7 r7).getD 7 ((0, 0, 0) : Nat × Nat × Nat)) p).bind fun r8 =>
 (curveJacobianAdd ((((((((((List.replicate 16 ((0, 0, 0) : Nat × Nat × Nat)).set 1 r1).set 2 r2).set 3 r3).set 4 r4).set 5 r5).set 6 r6).set 7 r7).set 8 r8).getD 8 ((0, 0, 0) : Nat × Nat × Nat)) p).bind fun r9 =>
 (curveJacobianAdd (((((((((((List.replicate 16 ((0, 0, 0) : Nat × Nat × Nat)).set 1 r1).set 2 r2).set 3 r3).set 4 r4).set 5 r5).set 6 r6).set 7 r7).set 8 r8).set 9 r9).getD 9 ((0, 0, 0) : Nat × Nat × Nat)) p).bind fun r10 =>
 (curveJacobianAdd ((((((((((((List.replicate 16 ((0, 0, 0) : Nat × Nat × Nat)).set 1 r1).set 2 r2).set 3 r3).set 4 r4).set 5 r5).set 6 r6).set 7 r7).set 8 r8).set 9 r9).set 10 r10).getD 10 ((0, 0, 0) : Nat × Nat × Nat)) p).bind fun r11 =>
 (curveJacobianAdd (((((((((((((List.replicate 16 ((0, 0, 0) : Nat × Nat × Nat)).set 1 r1).set 2 r2).set 3 r3).set 4 r4).set 5 r5).set 6 r6).set 7 r7).set 8 r8).set 9 r9).set 10 r10).set 11 r11).getD 11 ((0, 0, 0) : Nat × Nat × Nat)) p).bind fun r12 =>
 (curveJacobianAdd ((((((((((((((List.replicate 16 ((0, 0, 0) : Nat × Nat × Nat)).set 1 r1).set 2 r2).set 3 r3).set 4 r4).set 5 r5).set 6 r6).set 7 r7).set 8 r8).set 9 r9).set 10 r10).set 11 r11).set 12 r12).getD 12 ((0, 0, 0) : Nat × Nat × Nat)) p).bind fun r13 =>
 (curveJacobianAdd (((((((((((((((List.replicate 16 ((0, 0, 0) : Nat × Nat × Nat)).set 1 r1).set 2 r2).set 3 r3).set 4 r4).set 5 r5).set 6 r6).set 7 r7).set 8 r8).set 9 r9).set 10 r10).set 11 r11).set 12 r12).set 13 r13).getD 13 ((0, 0, 0) : Nat × Nat × Nat)) p).bind fun r14 =>
 (curveJacobianAdd ((((((((((((((((List.replicate 16 ((0, 0, 0) : Nat × Nat × Nat)).set 1 r1).set 2 r2).set 3 r3).set 4 r4).set 5 r5).set 6 r6).set 7 r7).set 8 r8).set 9 r9).set 10 r10).set 11 r11).set 12 r12).set 13 r13).set 14 r14).getD 14 ((0, 0, 0) : Nat × Nat × Nat)) p).bind fun r15 =>
 some ((((((((((((((((List.replicate 16 ((0, 0, 0) : Nat × Nat × Nat)).set 1 r1).set 2 r2).set 3 r3).set 4 r4).set 5 r5).set 6 r6).set 7 r7).set 8 r8).set 9 r9).set 10 r10).set 11 r11).set 12 r12).set 13 r13).set 14 r14).set 15 r15)
def curveJacobianRow (p : Nat × Nat × Nat) : Option (List (Nat × Nat × Nat)) := hide (curveJacobianRowB p)
theorem curveJacobianRow_eq (p : Nat × Nat × Nat) : curveJacobianRow p = curveJacobianRowB p := hide_eq _
def curveIDigitB (k : Nat) (i : Int) : Option (Int) :=
 bif decide (0 ≤ (IntKind.wrap .i64 (Int.tdiv i (16 : Int)))) then
  bif Nat.blt (Int.toNat (IntKind.wrap .i64 (Int.tdiv i (16 : Int)))) 4 then
   bif Nat.blt (Int.toNat (IntKind.wrap .i64 (Int.tdiv i (16 : Int)))) 4 then
    bif decide ((IntKind.wrap .i64 ((4 : Int) * (Int.tmod i (16 : Int)))) < 0) then
     none
    else
     some (IntKind.wrap .i64 (andI .u64 (shrI .u64 (limb k (Int.toNat (IntKind.wrap .i64 (Int.tdiv i (16 : Int))))) (IntKind.wrap .i64 ((4 : Int) * (Int.tmod i (16 : Int))))) (15 : Int)))
   else none
  else none
 else none
def curveIDigit (k : Nat) (i : Int) : Option (Int) := hide (curveIDigitB k i)
theorem curveIDigit_eq (k : Nat) (i : Int) : curveIDigit k i = curveIDigitB k i := hide_eq _
def curveJacobianMultipleL0R (i : Int) (k : Nat) (b4 : Nat × Nat × Nat) (l : List (Nat × Nat × Nat)) (sum : Nat × Nat × Nat) : Option ((Int × Nat × (Nat × Nat × Nat) × (List (Nat × Nat × Nat)) × (Nat × Nat × Nat)) ⊕ ((Nat × Nat × Nat) × Nat × Nat × Nat)) :=
 bif (decide (i > (0 : Int))) then
  (curveJacobianDouble sum).bind fun r9 =>
  (curveJacobianDouble r9).bind fun r10 =>
  (curveJacobianDouble r10).bind fun r11 =>
  (curveJacobianDouble r11).bind fun r12 =>
  (curveIDigit k (IntKind.wrap .i64 (i - (1 : Int)))).bind fun r13 =>
  bif decide (0 ≤ r13) then
   bif Nat.blt (Int.toNat r13) 16 then
    bif Nat.blt (Int.toNat r13) 16 then
     (curveJacobianAdd r12 (l.getD (Int.toNat r13) ((0, 0, 0) : Nat × Nat × Nat))).bind fun r14 =>
     some (.inl ((IntKind.wrap .i64 (i - (1 : Int))), k, b4, l, r14))
    else none
   else none
  else none
 else
  some (.inr (b4, sum))
def curveJacobianMultipleL0 (i : Int) (k : Nat) (b4 : Nat × Nat × Nat) (l : List (Nat × Nat × Nat)) (sum : Nat × Nat × Nat) : Option ((Nat × Nat × Nat) × Nat × Nat × Nat) := hide (iter (fun p : Int × Nat × (Nat × Nat × Nat) × (List (Nat × Nat × Nat)) × (Nat × Nat × Nat) => curveJacobianMultipleL0R p.1 p.2.1 p.2.2.1 p.2.2.2.1 p.2.2.2.2) (1000) (i, k, b4, l, sum))
theorem curveJacobianMultipleL0_eq (i : Int) (k : Nat) (b4 : Nat × Nat × Nat) (l : List (Nat × Nat × Nat)) (sum : Nat × Nat × Nat) : curveJacobianMultipleL0 i k b4 l sum = iter (fun p : Int × Nat × (Nat × Nat × Nat) × (List (Nat × Nat × Nat)) × (Nat × Nat × Nat) => curveJacobianMultipleL0R p.1 p.2.1 p.2.2.1 p.2.2.2.1 p.2.2.2.2) (1000) (i, k, b4, l, sum) := hide_eq _
def curveJacobianMultipleB (p : Nat × Nat × Nat) (k : Nat) : Option (Nat × Nat × Nat) :=
 (curveJacobianRow p).bind fun r1 =>
 (u256Len k).bind fun r2 =>
 (curveJacobianMultipleL0 (IntKind.wrap .i64 (Int.tdiv (IntKind.wrap .i64 (r2 + (3 : Int))) (4 : Int))) k (0, 0, 0) r1 (0, 0, 0)).bind fun q15 =>
 some q15.2
def curveJacobianMultiple (p : Nat × Nat × Nat) (k : Nat) : Option (Nat × Nat × Nat) := hide (curveJacobianMultipleB p k)
theorem curveJacobianMultiple_eq (p : Nat × Nat × Nat) (k : Nat) : curveJacobianMultiple p k = curveJacobianMultipleB p k := hide_eq _
def curveIMultipleGB (k : Nat) : Option (Nat × Nat × Nat) :=
 (curveG).bind fun r1 =>
 (curveIOf r1).bind fun r2 =>
 (curveJacobianMultiple r2 k).bind fun r3 =>
 some r3
def curveIMultipleG (k : Nat) : Option (Nat × Nat × Nat) := hide (curveIMultipleGB k)
theorem curveIMultipleG_eq (k : Nat) : curveIMultipleG k = curveIMultipleGB k := hide_eq _
def curveJacobianPointB (p : Nat × Nat × Nat) : Option (Nat × Nat × Bool) :=
 (curveIZero).bind fun r1 =>
 bif (u256eq p.2.2 r1) then
  some (0, 0, true)
 else
  (fieldInverse (0 : Int) p.2.2).bind fun r2 =>
  (curveISquare r2.1).bind fun r3 =>
  (curveITimes p.1 r3).bind fun r4 =>
  (curveITimes r3 r2.1).bind fun r5 =>
  (curveITimes p.2.1 r5).bind fun r6 =>
  some (r4, r6, false)
def curveJacobianPoint (p : Nat × Nat × Nat) : Option (Nat × Nat × Bool) := hide (curveJacobianPointB p)
theorem curveJacobianPoint_eq (p : Nat × Nat × Nat) : curveJacobianPoint p = curveJacobianPointB p := hide_eq _
def curveMulGB (k : Nat) : Option (Nat × Nat × Bool) :=
 (curveIMultipleG k).bind fun r1 =>
 (curveJacobianPoint r1).bind fun r2 =>
 some r2
def curveMulG (k : Nat) : Option (Nat × Nat × Bool) := hide (curveMulGB k)
theorem curveMulG_eq (k : Nat) : curveMulG k = curveMulGB k := hide_eq _
def ref05GB  : Option (Nat × Nat × Bool) :=
 some (55066263022277343669578718895168534326250603453777594175500187360389116729240, 32670510020758816978083085130507043184471273380659243275938904335757337482424, false)
def ref05G  : Option (Nat × Nat × Bool) := hide (ref05GB )
theorem ref05G_eq  : ref05G  = ref05GB  := hide_eq _
def ref05IThreeB (p : Nat × Nat × Bool) : Option (Nat × Nat × Nat) :=
 bif p.2.2 then
  some (0, 0, 0)
 else
  (ref01From (1 : Int)).bind fun r1 =>
  some (p.1, p.2.1, r1)
def ref05IThree (p : Nat × Nat × Bool) : Option (Nat × Nat × Nat) := hide (ref05IThreeB p)
theorem ref05IThree_eq (p : Nat × Nat × Bool) : ref05IThree p = ref05IThreeB p := hide_eq _
def ref05IMulB (x : Nat) (y : Nat) : Option (Nat) :=
 (ref04Mul (0 : Int) x y).bind fun r1 =>
 some r1.1
def ref05IMul (x : Nat) (y : Nat) : Option (Nat) := hide (ref05IMulB x y)
theorem ref05IMul_eq (x : Nat) (y : Nat) : ref05IMul x y = ref05IMulB x y := hide_eq _
def ref05ITimesB (n : Int) (x : Nat) : Option (Nat) :=
 (ref01From n).bind fun r1 =>
 (ref05IMul r1 x).bind fun r2 =>
 some r2
def ref05ITimes (n : Int) (x : Nat) : Option (Nat) := hide (ref05ITimesB n x)
theorem ref05ITimes_eq (n : Int) (x : Nat) : ref05ITimes n x = ref05ITimesB n x := hide_eq _
def ref05ISubB (x : Nat) (y : Nat) : Option (Nat) :=
 (ref04Sub (0 : Int) x y).bind fun r1 =>
 some r1.1
def ref05ISub (x : Nat) (y : Nat) : Option (Nat) := hide (ref05ISubB x y)
theorem ref05ISub_eq (x : Nat) (y : Nat) : ref05ISub x y = ref05ISubB x y := hide_eq _
def ref05ITwiceB (t : Nat × Nat × Nat) : Option (Nat × Nat × Nat) :=
 (ref05IMul t.2.1 t.2.1).bind fun r1 =>
 (ref05IMul t.1 r1).bind fun r2 =>
 (ref05ITimes (4 : Int) r2).bind fun r3 =>
 (ref05IMul t.1 t.1).bind fun r4 =>
 (ref05ITimes (3 : Int) r4).bind fun r5 =>
 (ref05IMul r5 r5).bind fun r6 =>
 (ref05ITimes (2 : Int) r3).bind fun r7 =>
 (ref05ISub r6 r7).bind fun r8 =>
 (ref05ISub r3 r8).bind fun r9 =>
 (ref05IMul r5 r9).bind fun r10 =>
 (ref05IMul r1 r1).bind fun r11 =>
 (ref05ITimes (8 : Int) r11).bind fun r12 =>
 (ref05ISub r10 r12).bind fun r13 =>
 (ref05IMul t.2.1 t.2.2).bind fun r14 =>
 (ref05ITimes (2 : Int) r14).bind fun r15 =>
 some (r8, r13, r15)
def ref05ITwice (t : Nat × Nat × Nat) : Option (Nat × Nat × Nat) := hide (ref05ITwiceB t)
theorem ref05ITwice_eq (t : Nat × Nat × Nat) : ref05ITwice t = ref05ITwiceB t := hide_eq _
def ref05IBothB (s : Nat × Nat × Nat) (t : Nat × Nat × Nat) : Option (Nat × Nat × Nat) :=
 bif (u256eq s.2.2 0) then
  some t
 else
  bif (u256eq t.2.2 0) then
   some s
  else
   (ref05IMul s.2.2 s.2.2).bind fun r1 =>
   (ref05IMul t.2.2 t.2.2).bind fun r2 =>
   (ref05IMul s.1 r2).bind fun r3 =>
   (ref05IMul r2 t.2.2).bind fun r4 =>
   (ref05IMul s.2.1 r4).bind fun r5 =>
   (ref05IMul t.1 r1).bind fun r6 =>
   (ref05ISub r6 r3).bind fun r7 =>
   (ref05IMul r1 s.2.2).bind fun r8 =>
   (ref05IMul t.2.1 r8).bind fun r9 =>
   (ref05ISub r9 r5).bind fun r10 =>
   bif (u256eq r7 0) then
    bif (u256eq r10 0) then
     (ref05ITwice s).bind fun r11 =>
     some r11
    else
     bif (u256eq r7 0) then
      some (0, 0, 0)
     else
      (ref05IMul r7 r7).bind fun r12 =>
      (ref05IMul r12 r7).bind fun r13 =>
      (ref05IMul r3 r12).bind fun r14 =>
      (ref05IMul r10 r10).bind fun r15 =>
      (ref05ISub r15 r13).bind fun r16 =>
      (ref05ITimes (2 : Int) r14).bind fun r17 =>
      (ref05ISub r16 r17).bind fun r18 =>
      (ref05ISub r14 r18).bind fun r19 =>
      (ref05IMul r10 r19).bind fun r20 =>
      (ref05IMul r5 r13).bind fun r21 =>
      (ref05ISub r20 r21).bind fun r22 =>
      (ref05IMul s.2.2 t.2.2).bind fun r23 =>
      (ref05IMul r7 r23).bind fun r24 =>
      some (r18, r22, r24)
   else
    bif (u256eq r7 0) then
     some (0, 0, 0)
    else
     (ref05IMul r7 r7).bind fun r25 =>
     (ref05IMul r25 r7).bind fun r26 =>
     (ref05IMul r3 r25).bind fun r27 =>
     (ref05IMul r10 r10).bind fun r28 =>
     (ref05ISub r28 r26).bind fun r29 =>
     (ref05ITimes (2 : Int) r27).bind fun r30 =>
     (ref05ISub r29 r30).bind fun r31 =>
     (ref05ISub r27 r31).bind fun r32 =>
     (ref05IMul r10 r32).bind fun r33 =>
     (ref05IMul r5 r26).bind fun r34 =>
     (ref05ISub r33 r34).bind fun r35 =>
     (ref05IMul s.2.2 t.2.2).bind fun r36 =>
     (ref05IMul r7 r36).bind fun r37 =>
     some (r31, r35, r37)
def ref05IBoth (s : Nat × Nat × Nat) (t : Nat × Nat × Nat) : Option (Nat × Nat × Nat) := hide (ref05IBothB s t)
theorem ref05IBoth_eq (s : Nat × Nat × Nat) (t : Nat × Nat × Nat) : ref05IBoth s t = ref05IBothB s t := hide_eq _
def ref05IMultipleL0R (i : Int) (k : Nat) (b4 : Nat × Nat × Nat) (t : Nat × Nat × Nat) (s : Nat × Nat × Nat) : Option ((Int × Nat × (Nat × Nat × Nat) × (Nat × Nat × Nat) × (Nat × Nat × Nat)) ⊕ ((Nat × Nat × Nat) × Nat × Nat × Nat)) :=
 bif (decide (i ≥ (0 : Int))) then
  bif (!(u256eq s.2.2 0)) then
   (ref05ITwice s).bind fun r7 =>
   (ref01Bit k i).bind fun r8 =>
   bif (r8 == (1 : Int)) then
    (ref05IBoth r7 t).bind fun r9 =>
    some (.inl ((IntKind.wrap .i64 (i - (1 : Int))), k, b4, t, r9))
   else
    some (.inl ((IntKind.wrap .i64 (i - (1 : Int))), k, b4, t, r7))
  else
   (ref01Bit k i).bind fun r10 =>
   bif (r10 == (1 : Int)) then
    (ref05IBoth s t).bind fun r11 =>
    some (.inl ((IntKind.wrap .i64 (i - (1 : Int))), k, b4, t, r11))
   else
    some (.inl ((IntKind.wrap .i64 (i - (1 : Int))), k, b4, t, s))
 else
  some (.inr (b4, s))
def ref05IMultipleL0 (i : Int) (k : Nat) (b4 : Nat × Nat × Nat) (t : Nat × Nat × Nat) (s : Nat × Nat × Nat) : Option ((Nat × Nat × Nat) × Nat × Nat × Nat) := hide (iter (fun p : Int × Nat × (Nat × Nat × Nat) × (Nat × Nat × Nat) × (Nat × Nat × Nat) => ref05IMultipleL0R p.1 p.2.1 p.2.2.1 p.2.2.2.1 p.2.2.2.2) (1000) (i, k, b4, t, s))
theorem ref05IMultipleL0_eq (i : Int) (k : Nat) (b4 : Nat × Nat × Nat) (t : Nat × Nat × Nat) (s : Nat × Nat × Nat) : ref05IMultipleL0 i k b4 t s = iter (fun p : Int × Nat × (Nat × Nat × Nat) × (Nat × Nat × Nat) × (Nat × Nat × Nat) => ref05IMultipleL0R p.1 p.2.1 p.2.2.1 p.2.2.2.1 p.2.2.2.2) (1000) (i, k, b4, t, s) := hide_eq _
def ref05IMultipleB (k : Nat) (p : Nat × Nat × Bool) : Option (Nat × Nat × Nat) :=
 (ref05IThree p).bind fun r1 =>
 (ref05IMultipleL0 (255 : Int) k (0, 0, 0) r1 (0, 0, 0)).bind fun q12 =>
 some q12.2
def ref05IMultiple (k : Nat) (p : Nat × Nat × Bool) : Option (Nat × Nat × Nat) := hide (ref05IMultipleB k p)
theorem ref05IMultiple_eq (k : Nat) (p : Nat × Nat × Bool) : ref05IMultiple k p = ref05IMultipleB k p := hide_eq _
def ref05IIdentityB  : Option (Nat × Nat × Bool) :=
 some (0, 0, true)
def ref05IIdentity  : Option (Nat × Nat × Bool) := hide (ref05IIdentityB )
theorem ref05IIdentity_eq  : ref05IIdentity  = ref05IIdentityB  := hide_eq _
def ref05IPointB (t : Nat × Nat × Nat) : Option (Nat × Nat × Bool) :=
 bif (u256eq t.2.2 0) then
  (ref05IIdentity).bind fun r1 =>
  some r1
 else
  (ref04Inverse (0 : Int) t.2.2).bind fun r2 =>
  (ref05IMul r2.1 r2.1).bind fun r3 =>
  (ref05IMul t.1 r3).bind fun r4 =>
  (ref05IMul r3 r2.1).bind fun r5 =>
  (ref05IMul t.2.1 r5).bind fun r6 =>
  some (r4, r6, false)
def ref05IPoint (t : Nat × Nat × Nat) : Option (Nat × Nat × Bool) := hide (ref05IPointB t)
theorem ref05IPoint_eq (t : Nat × Nat × Nat) : ref05IPoint t = ref05IPointB t := hide_eq _
def ref05MulGB (k : Nat) : Option (Nat × Nat × Bool) :=
 (ref05G).bind fun r1 =>
 (ref05IMultiple k r1).bind fun r2 =>
 (ref05IPoint r2).bind fun r3 =>
 some r3
def ref05MulG (k : Nat) : Option (Nat × Nat × Bool) := hide (ref05MulGB k)
theorem ref05MulG_eq (k : Nat) : ref05MulG k = ref05MulGB k := hide_eq _
end Go.Sy
