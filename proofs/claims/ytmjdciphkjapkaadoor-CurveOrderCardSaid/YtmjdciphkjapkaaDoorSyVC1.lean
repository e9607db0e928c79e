/- Typed functions, printed by a program out of the code: what each function of the code computes. -/
import Derived.Test.YtmjdciphkjapkaaDoorSyVT
set_option linter.unusedVariables false
namespace Go.Sy
open Go

noncomputable def curveIZeroB  : Option (Nat) :=
  some 0

noncomputable def curveIZero  : Option (Nat) := hide (curveIZeroB )

theorem curveIZero_eq  : curveIZero  = curveIZeroB  := hide_eq _

noncomputable def curveIPrimeB  : Option (Nat) :=
  (fieldModulus (0 : Int)).bind fun r1 =>
  some r1.1

noncomputable def curveIPrime  : Option (Nat) := hide (curveIPrimeB )

theorem curveIPrime_eq  : curveIPrime  = curveIPrimeB  := hide_eq _

noncomputable def curveISquareB (x : Nat) : Option (Nat) :=
  (fieldSquare (0 : Int) x).bind fun r1 =>
  some r1.1

noncomputable def curveISquare (x : Nat) : Option (Nat) := hide (curveISquareB x)

theorem curveISquare_eq (x : Nat) : curveISquare x = curveISquareB x := hide_eq _

noncomputable def curveITimesB (x : Nat) (y : Nat) : Option (Nat) :=
  (fieldMul (0 : Int) x y).bind fun r1 =>
  some r1.1

noncomputable def curveITimes (x : Nat) (y : Nat) : Option (Nat) := hide (curveITimesB x y)

theorem curveITimes_eq (x : Nat) (y : Nat) : curveITimes x y = curveITimesB x y := hide_eq _

noncomputable def curveIPlusB (x : Nat) (y : Nat) : Option (Nat) :=
  (fieldAdd (0 : Int) x y).bind fun r1 =>
  some r1.1

noncomputable def curveIPlus (x : Nat) (y : Nat) : Option (Nat) := hide (curveIPlusB x y)

theorem curveIPlus_eq (x : Nat) (y : Nat) : curveIPlus x y = curveIPlusB x y := hide_eq _

noncomputable def curveIRightB (x : Nat) : Option (Nat) :=
  (curveISquare x).bind fun r1 =>
  (curveITimes x r1).bind fun r2 =>
  (curveIPlus r2 7).bind fun r3 =>
  some r3

noncomputable def curveIRight (x : Nat) : Option (Nat) := hide (curveIRightB x)

theorem curveIRight_eq (x : Nat) : curveIRight x = curveIRightB x := hide_eq _

noncomputable def curveOnB (p : Nat × Nat × Bool) : Option (Bool) :=
  bif p.2.2 then
    (curveIZero).bind fun r1 =>
    bif (u256eq p.1 r1) then
      (curveIZero).bind fun r2 =>
      some (u256eq p.2.1 r2)
    else
      some false
  else
    (curveIPrime).bind fun r3 =>
    (u256Cmp p.1 r3).bind fun r4 =>
    bif (decide (r4 < (0 : Int))) then
      (curveIPrime).bind fun r5 =>
      (u256Cmp p.2.1 r5).bind fun r6 =>
      bif (decide (r6 < (0 : Int))) then
        (curveISquare p.2.1).bind fun r7 =>
        (curveIRight p.1).bind fun r8 =>
        some (u256eq r7 r8)
      else
        some false
    else
      some false

noncomputable def curveOn (p : Nat × Nat × Bool) : Option (Bool) := hide (curveOnB p)

theorem curveOn_eq (p : Nat × Nat × Bool) : curveOn p = curveOnB p := hide_eq _

noncomputable def curveIOneB  : Option (Nat) :=
  some 1

noncomputable def curveIOne  : Option (Nat) := hide (curveIOneB )

theorem curveIOne_eq  : curveIOne  = curveIOneB  := hide_eq _

noncomputable def curveIOfB (p : Nat × Nat × Bool) : Option (Nat × Nat × Nat) :=
  bif p.2.2 then
    some (0, 0, 0)
  else
    (curveIOne).bind fun r1 =>
    some (p.1, p.2.1, r1)

noncomputable def curveIOf (p : Nat × Nat × Bool) : Option (Nat × Nat × Nat) := hide (curveIOfB p)

theorem curveIOf_eq (p : Nat × Nat × Bool) : curveIOf p = curveIOfB p := hide_eq _

noncomputable def curveIMinusB (x : Nat) (y : Nat) : Option (Nat) :=
  (fieldSub (0 : Int) x y).bind fun r1 =>
  some r1.1

noncomputable def curveIMinus (x : Nat) (y : Nat) : Option (Nat) := hide (curveIMinusB x y)

theorem curveIMinus_eq (x : Nat) (y : Nat) : curveIMinus x y = curveIMinusB x y := hide_eq _

noncomputable def curveJacobianDoubleB (p : Nat × Nat × Nat) : Option (Nat × Nat × Nat) :=
  (curveIZero).bind fun r1 =>
  bif (u256eq p.2.2 r1) then
    some p
  else
    (curveISquare p.2.1).bind fun r2 =>
    (curveITimes p.1 r2).bind fun r3 =>
    (curveIPlus r3 r3).bind fun r4 =>
    (curveIPlus r4 r4).bind fun r5 =>
    (curveISquare p.1).bind fun r6 =>
    (curveIPlus r6 r6).bind fun r7 =>
    (curveIPlus r7 r6).bind fun r8 =>
    (curveISquare r8).bind fun r9 =>
    (curveIMinus r9 r5).bind fun r10 =>
    (curveIMinus r10 r5).bind fun r11 =>
    (curveISquare r2).bind fun r12 =>
    (curveIPlus r12 r12).bind fun r13 =>
    (curveIPlus r13 r13).bind fun r14 =>
    (curveIPlus r14 r14).bind fun r15 =>
    (curveITimes p.2.1 p.2.2).bind fun r16 =>
    (curveIMinus r5 r11).bind fun r17 =>
    (curveITimes r8 r17).bind fun r18 =>
    (curveIMinus r18 r15).bind fun r19 =>
    (curveIPlus r16 r16).bind fun r20 =>
    some (r11, r19, r20)

noncomputable def curveJacobianDouble (p : Nat × Nat × Nat) : Option (Nat × Nat × Nat) := hide (curveJacobianDoubleB p)

theorem curveJacobianDouble_eq (p : Nat × Nat × Nat) : curveJacobianDouble p = curveJacobianDoubleB p := hide_eq _

noncomputable def curveJacobianAddB (p : Nat × Nat × Nat) (q : Nat × Nat × Nat) : Option (Nat × Nat × Nat) :=
  (curveIZero).bind fun r1 =>
  bif (u256eq p.2.2 r1) then
    some q
  else
    (curveIZero).bind fun r2 =>
    bif (u256eq q.2.2 r2) then
      some p
    else
      (curveISquare p.2.2).bind fun r3 =>
      (curveISquare q.2.2).bind fun r4 =>
      (curveITimes p.1 r4).bind fun r5 =>
      (curveITimes q.1 r3).bind fun r6 =>
      (curveITimes q.2.2 r4).bind fun r7 =>
      (curveITimes p.2.1 r7).bind fun r8 =>
      (curveITimes p.2.2 r3).bind fun r9 =>
      (curveITimes q.2.1 r9).bind fun r10 =>
      (curveIMinus r6 r5).bind fun r11 =>
      (curveIMinus r10 r8).bind fun r12 =>
      (curveIZero).bind fun r13 =>
      bif (u256eq r11 r13) then
        (curveIZero).bind fun r14 =>
        bif (u256eq r12 r14) then
          (curveJacobianDouble p).bind fun r15 =>
          some r15
        else
          some (0, 0, 0)
      else
        (curveISquare r11).bind fun r16 =>
        (curveITimes r11 r16).bind fun r17 =>
        (curveITimes r5 r16).bind fun r18 =>
        (curveISquare r12).bind fun r19 =>
        (curveIMinus r19 r17).bind fun r20 =>
        (curveIMinus r20 r18).bind fun r21 =>
        (curveIMinus r21 r18).bind fun r22 =>
        (curveIMinus r18 r22).bind fun r23 =>
        (curveITimes r12 r23).bind fun r24 =>
        (curveITimes r8 r17).bind fun r25 =>
        (curveIMinus r24 r25).bind fun r26 =>
        (curveITimes p.2.2 q.2.2).bind fun r27 =>
        (curveITimes r11 r27).bind fun r28 =>
        some (r22, r26, r28)

noncomputable def curveJacobianAdd (p : Nat × Nat × Nat) (q : Nat × Nat × Nat) : Option (Nat × Nat × Nat) := hide (curveJacobianAddB p q)

theorem curveJacobianAdd_eq (p : Nat × Nat × Nat) (q : Nat × Nat × Nat) : curveJacobianAdd p q = curveJacobianAddB p q := hide_eq _

noncomputable def curveJacobianPointB (p : Nat × Nat × Nat) : Option (Nat × Nat × Bool) :=
  (curveIZero).bind fun r1 =>
  bif (u256eq p.2.2 r1) then
    some (0, 0, true)
  else
    (fieldInverse (0 : Int) p.2.2).bind fun r2 =>
    (curveISquare r2.1).bind fun r3 =>
    (curveITimes p.1 r3).bind fun r4 =>
    (curveITimes r3 r2.1).bind fun r5 =>
    (curveITimes p.2.1 r5).bind fun r6 =>
    some (r4, r6, false)

noncomputable def curveJacobianPoint (p : Nat × Nat × Nat) : Option (Nat × Nat × Bool) := hide (curveJacobianPointB p)

theorem curveJacobianPoint_eq (p : Nat × Nat × Nat) : curveJacobianPoint p = curveJacobianPointB p := hide_eq _

noncomputable def curveSumL0R (s7 : List (Nat × Nat × Bool)) (s8 : Int) (s9 : Int) (b2 : Nat × Nat × Bool) (sum : Nat × Nat × Nat) : Option (((List (Nat × Nat × Bool)) × Int × Int × (Nat × Nat × Bool) × (Nat × Nat × Nat)) ⊕ ((Nat × Nat × Bool) ⊕ ((Nat × Nat × Bool) × Nat × Nat × Nat))) :=
  bif (decide (s9 < s8)) then
    bif decide (0 ≤ s9) then
      bif Nat.blt (Int.toNat s9) s7.length then
        (curveOn (s7.getD (Int.toNat s9) ((0, 0, false) : Nat × Nat × Bool))).bind fun r4 =>
        bif (!r4) then
          some (.inr (.inl (0, 0, false)))
        else
          (curveIOf (s7.getD (Int.toNat s9) ((0, 0, false) : Nat × Nat × Bool))).bind fun r5 =>
          (curveJacobianAdd sum r5).bind fun r6 =>
          some (.inl (s7, s8, (IntKind.wrap .i64 (s9 + (1 : Int))), b2, r6))
      else none
    else none
  else
    some (.inr (.inr (b2, sum)))

noncomputable def curveSumL0 (s7 : List (Nat × Nat × Bool)) (s8 : Int) (s9 : Int) (b2 : Nat × Nat × Bool) (sum : Nat × Nat × Nat) : Option ((Nat × Nat × Bool) ⊕ ((Nat × Nat × Bool) × Nat × Nat × Nat)) := hide (iter (fun p : (List (Nat × Nat × Bool)) × Int × Int × (Nat × Nat × Bool) × (Nat × Nat × Nat) => curveSumL0R p.1 p.2.1 p.2.2.1 p.2.2.2.1 p.2.2.2.2) (bigFuel) (s7, s8, s9, b2, sum))

theorem curveSumL0_eq (s7 : List (Nat × Nat × Bool)) (s8 : Int) (s9 : Int) (b2 : Nat × Nat × Bool) (sum : Nat × Nat × Nat) : curveSumL0 s7 s8 s9 b2 sum = iter (fun p : (List (Nat × Nat × Bool)) × Int × Int × (Nat × Nat × Bool) × (Nat × Nat × Nat) => curveSumL0R p.1 p.2.1 p.2.2.1 p.2.2.2.1 p.2.2.2.2) (bigFuel) (s7, s8, s9, b2, sum) := hide_eq _

noncomputable def curveSumB (points : List (Nat × Nat × Bool)) : Option ((Nat × Nat × Bool) × Int) :=
  (curveSumL0 points ((points.length : Nat) : Int) (0 : Int) (0, 0, false) (0, 0, 0)).bind fun q7 =>
  sumK q7 (fun q8 =>
    some (q8, (50 : Int)))
    (fun q9 =>
    (curveJacobianPoint q9.2).bind fun r10 =>
    some (r10, (0 : Int)))

noncomputable def curveSum (points : List (Nat × Nat × Bool)) : Option ((Nat × Nat × Bool) × Int) := hide (curveSumB points)

theorem curveSum_eq (points : List (Nat × Nat × Bool)) : curveSum points = curveSumB points := hide_eq _

noncomputable def curveAddB (p : Nat × Nat × Bool) (q : Nat × Nat × Bool) : Option ((Nat × Nat × Bool) × Int) :=
  (curveSum [p, q]).bind fun r1 =>
  some r1

noncomputable def curveAdd (p : Nat × Nat × Bool) (q : Nat × Nat × Bool) : Option ((Nat × Nat × Bool) × Int) := hide (curveAddB p q)

theorem curveAdd_eq (p : Nat × Nat × Bool) (q : Nat × Nat × Bool) : curveAdd p q = curveAddB p q := hide_eq _

noncomputable def ref05IIdentityB  : Option (Nat × Nat × Bool) :=
  some (0, 0, true)

noncomputable def ref05IIdentity  : Option (Nat × Nat × Bool) := hide (ref05IIdentityB )

theorem ref05IIdentity_eq  : ref05IIdentity  = ref05IIdentityB  := hide_eq _

noncomputable def ref05ILowB (x : Nat) : Option (Bool) :=
  (ref04Modulus (0 : Int)).bind fun r1 =>
  (ref01Cmp x r1.1).bind fun r2 =>
  some (decide (r2 < (0 : Int)))

noncomputable def ref05ILow (x : Nat) : Option (Bool) := hide (ref05ILowB x)

theorem ref05ILow_eq (x : Nat) : ref05ILow x = ref05ILowB x := hide_eq _

noncomputable def ref05IMulB (x : Nat) (y : Nat) : Option (Nat) :=
  (ref04Mul (0 : Int) x y).bind fun r1 =>
  some r1.1

noncomputable def ref05IMul (x : Nat) (y : Nat) : Option (Nat) := hide (ref05IMulB x y)

theorem ref05IMul_eq (x : Nat) (y : Nat) : ref05IMul x y = ref05IMulB x y := hide_eq _

noncomputable def ref05IAddB (x : Nat) (y : Nat) : Option (Nat) :=
  (ref04Add (0 : Int) x y).bind fun r1 =>
  some r1.1

noncomputable def ref05IAdd (x : Nat) (y : Nat) : Option (Nat) := hide (ref05IAddB x y)

theorem ref05IAdd_eq (x : Nat) (y : Nat) : ref05IAdd x y = ref05IAddB x y := hide_eq _

noncomputable def ref05ICubicB (x : Nat) : Option (Nat) :=
  (ref05IMul x x).bind fun r1 =>
  (ref05IMul r1 x).bind fun r2 =>
  (ref01From (7 : Int)).bind fun r3 =>
  (ref05IAdd r2 r3).bind fun r4 =>
  some r4

noncomputable def ref05ICubic (x : Nat) : Option (Nat) := hide (ref05ICubicB x)

theorem ref05ICubic_eq (x : Nat) : ref05ICubic x = ref05ICubicB x := hide_eq _

noncomputable def ref05OnB (p : Nat × Nat × Bool) : Option (Bool) :=
  bif p.2.2 then
    (ref05IIdentity).bind fun r1 =>
    some ((u256eq p.1 r1.1) && ((u256eq p.2.1 r1.2.1) && (p.2.2 == r1.2.2)))
  else
    (ref05ILow p.1).bind fun r2 =>
    bif (!r2) then
      some false
    else
      (ref05ILow p.2.1).bind fun r3 =>
      bif (!r3) then
        some false
      else
        (ref05IMul p.2.1 p.2.1).bind fun r4 =>
        (ref05ICubic p.1).bind fun r5 =>
        some (u256eq r4 r5)

noncomputable def ref05On (p : Nat × Nat × Bool) : Option (Bool) := hide (ref05OnB p)

theorem ref05On_eq (p : Nat × Nat × Bool) : ref05On p = ref05OnB p := hide_eq _

noncomputable def ref05ISubB (x : Nat) (y : Nat) : Option (Nat) :=
  (ref04Sub (0 : Int) x y).bind fun r1 =>
  some r1.1

noncomputable def ref05ISub (x : Nat) (y : Nat) : Option (Nat) := hide (ref05ISubB x y)

theorem ref05ISub_eq (x : Nat) (y : Nat) : ref05ISub x y = ref05ISubB x y := hide_eq _

noncomputable def ref05INegB (p : Nat × Nat × Bool) : Option (Nat × Nat × Bool) :=
  bif p.2.2 then
    some p
  else
    (ref05ISub 0 p.2.1).bind fun r1 =>
    some (p.1, r1, false)

noncomputable def ref05INeg (p : Nat × Nat × Bool) : Option (Nat × Nat × Bool) := hide (ref05INegB p)

theorem ref05INeg_eq (p : Nat × Nat × Bool) : ref05INeg p = ref05INegB p := hide_eq _

noncomputable def ref05ITimesB (n : Int) (x : Nat) : Option (Nat) :=
  (ref01From n).bind fun r1 =>
  (ref05IMul r1 x).bind fun r2 =>
  some r2

noncomputable def ref05ITimes (n : Int) (x : Nat) : Option (Nat) := hide (ref05ITimesB n x)

theorem ref05ITimes_eq (n : Int) (x : Nat) : ref05ITimes n x = ref05ITimesB n x := hide_eq _

noncomputable def ref05IOverB (x : Nat) (y : Nat) : Option (Nat) :=
  (ref04Inverse (0 : Int) y).bind fun r1 =>
  (ref05IMul x r1.1).bind fun r2 =>
  some r2

noncomputable def ref05IOver (x : Nat) (y : Nat) : Option (Nat) := hide (ref05IOverB x y)

theorem ref05IOver_eq (x : Nat) (y : Nat) : ref05IOver x y = ref05IOverB x y := hide_eq _

noncomputable def ref05IPlusB (p : Nat × Nat × Bool) (q : Nat × Nat × Bool) : Option (Nat × Nat × Bool) :=
  bif p.2.2 then
    some q
  else
    bif q.2.2 then
      some p
    else
      (ref05INeg p).bind fun r1 =>
      bif ((u256eq q.1 r1.1) && ((u256eq q.2.1 r1.2.1) && (q.2.2 == r1.2.2))) then
        (ref05IIdentity).bind fun r2 =>
        some r2
      else
        bif ((u256eq p.1 q.1) && ((u256eq p.2.1 q.2.1) && (p.2.2 == q.2.2))) then
          (ref05IMul p.1 p.1).bind fun r3 =>
          (ref05ITimes (3 : Int) r3).bind fun r4 =>
          (ref05ITimes (2 : Int) p.2.1).bind fun r5 =>
          (ref05IOver r4 r5).bind fun r6 =>
          (ref05IMul r6 r6).bind fun r7 =>
          (ref05ISub r7 p.1).bind fun r8 =>
          (ref05ISub r8 q.1).bind fun r9 =>
          (ref05ISub p.1 r9).bind fun r10 =>
          (ref05IMul r6 r10).bind fun r11 =>
          (ref05ISub r11 p.2.1).bind fun r12 =>
          some (r9, r12, false)
        else
          (ref05ISub q.2.1 p.2.1).bind fun r13 =>
          (ref05ISub q.1 p.1).bind fun r14 =>
          (ref05IOver r13 r14).bind fun r15 =>
          (ref05IMul r15 r15).bind fun r16 =>
          (ref05ISub r16 p.1).bind fun r17 =>
          (ref05ISub r17 q.1).bind fun r18 =>
          (ref05ISub p.1 r18).bind fun r19 =>
          (ref05IMul r15 r19).bind fun r20 =>
          (ref05ISub r20 p.2.1).bind fun r21 =>
          some (r18, r21, false)

noncomputable def ref05IPlus (p : Nat × Nat × Bool) (q : Nat × Nat × Bool) : Option (Nat × Nat × Bool) := hide (ref05IPlusB p q)

theorem ref05IPlus_eq (p : Nat × Nat × Bool) (q : Nat × Nat × Bool) : ref05IPlus p q = ref05IPlusB p q := hide_eq _

noncomputable def ref05AddB (p : Nat × Nat × Bool) (q : Nat × Nat × Bool) : Option ((Nat × Nat × Bool) × Int) :=
  (ref05On p).bind fun r1 =>
  bif (!r1) then
    some ((0, 0, false), (50 : Int))
  else
    (ref05On q).bind fun r2 =>
    bif (!r2) then
      some ((0, 0, false), (50 : Int))
    else
      (ref05IPlus p q).bind fun r3 =>
      some (r3, (0 : Int))

noncomputable def ref05Add (p : Nat × Nat × Bool) (q : Nat × Nat × Bool) : Option ((Nat × Nat × Bool) × Int) := hide (ref05AddB p q)

theorem ref05Add_eq (p : Nat × Nat × Bool) (q : Nat × Nat × Bool) : ref05Add p q = ref05AddB p q := hide_eq _

noncomputable def curveDoubleB (p : Nat × Nat × Bool) : Option ((Nat × Nat × Bool) × Int) :=
  (curveOn p).bind fun r1 =>
  bif (!r1) then
    some ((0, 0, false), (50 : Int))
  else
    (curveIOf p).bind fun r2 =>
    (curveJacobianDouble r2).bind fun r3 =>
    (curveJacobianPoint r3).bind fun r4 =>
    some (r4, (0 : Int))

noncomputable def curveDouble (p : Nat × Nat × Bool) : Option ((Nat × Nat × Bool) × Int) := hide (curveDoubleB p)

theorem curveDouble_eq (p : Nat × Nat × Bool) : curveDouble p = curveDoubleB p := hide_eq _

noncomputable def ref05DoubleB (p : Nat × Nat × Bool) : Option ((Nat × Nat × Bool) × Int) :=
  (ref05Add p p).bind fun r1 =>
  some r1

noncomputable def ref05Double (p : Nat × Nat × Bool) : Option ((Nat × Nat × Bool) × Int) := hide (ref05DoubleB p)

theorem ref05Double_eq (p : Nat × Nat × Bool) : ref05Double p = ref05DoubleB p := hide_eq _

noncomputable def curveNegB (p : Nat × Nat × Bool) : Option ((Nat × Nat × Bool) × Int) :=
  (curveOn p).bind fun r1 =>
  bif (!r1) then
    some ((0, 0, false), (50 : Int))
  else
    bif (!p.2.2) then
      (curveIZero).bind fun r2 =>
      (curveIMinus r2 p.2.1).bind fun r3 =>
      some ((p.1, r3, p.2.2), (0 : Int))
    else
      some (p, (0 : Int))

noncomputable def curveNeg (p : Nat × Nat × Bool) : Option ((Nat × Nat × Bool) × Int) := hide (curveNegB p)

theorem curveNeg_eq (p : Nat × Nat × Bool) : curveNeg p = curveNegB p := hide_eq _

noncomputable def ref05NegB (p : Nat × Nat × Bool) : Option ((Nat × Nat × Bool) × Int) :=
  (ref05On p).bind fun r1 =>
  bif (!r1) then
    some ((0, 0, false), (50 : Int))
  else
    (ref05INeg p).bind fun r2 =>
    some (r2, (0 : Int))

noncomputable def ref05Neg (p : Nat × Nat × Bool) : Option ((Nat × Nat × Bool) × Int) := hide (ref05NegB p)

theorem ref05Neg_eq (p : Nat × Nat × Bool) : ref05Neg p = ref05NegB p := hide_eq _

noncomputable def law05INumB (e : Int) : Option (Int) :=
  some e

noncomputable def law05INum (e : Int) : Option (Int) := hide (law05INumB e)

theorem law05INum_eq (e : Int) : law05INum e = law05INumB e := hide_eq _

noncomputable def curveGB  : Option (Nat × Nat × Bool) :=
  bif inU64 (curveBase.getD 0 (0 : Int)) then
    bif inU64 (curveBase.getD 1 (0 : Int)) then
      bif inU64 (curveBase.getD 2 (0 : Int)) then
        bif inU64 (curveBase.getD 3 (0 : Int)) then
          bif inU64 (curveBase.getD 4 (0 : Int)) then
            bif inU64 (curveBase.getD 5 (0 : Int)) then
              bif inU64 (curveBase.getD 6 (0 : Int)) then
                bif inU64 (curveBase.getD 7 (0 : Int)) then
                  some ((setLimb (setLimb (setLimb (setLimb 0 0 (curveBase.getD 0 (0 : Int))) 1 (curveBase.getD 1 (0 : Int))) 2 (curveBase.getD 2 (0 : Int))) 3 (curveBase.getD 3 (0 : Int))), (setLimb (setLimb (setLimb (setLimb 0 0 (curveBase.getD 4 (0 : Int))) 1 (curveBase.getD 5 (0 : Int))) 2 (curveBase.getD 6 (0 : Int))) 3 (curveBase.getD 7 (0 : Int))), false)
                else none
              else none
            else none
          else none
        else none
      else none
    else none
  else none

noncomputable def curveG  : Option (Nat × Nat × Bool) := hide (curveGB )

theorem curveG_eq  : curveG  = curveGB  := hide_eq _

noncomputable def ref05GB  : Option (Nat × Nat × Bool) :=
  some (55066263022277343669578718895168534326250603453777594175500187360389116729240, 32670510020758816978083085130507043184471273380659243275938904335757337482424, false)

noncomputable def ref05G  : Option (Nat × Nat × Bool) := hide (ref05GB )

theorem ref05G_eq  : ref05G  = ref05GB  := hide_eq _

noncomputable def law05CurveAddsB (p : Nat × Nat × Bool) (q : Nat × Nat × Bool) : Option (Bool) :=
  (curveAdd p q).bind fun r1 =>
  (ref05Add p q).bind fun r2 =>
  (curveDouble p).bind fun r3 =>
  (ref05Double p).bind fun r4 =>
  (curveNeg p).bind fun r5 =>
  (ref05Neg p).bind fun r6 =>
  bif (!((u256eq r1.1.1 r2.1.1) && ((u256eq r1.1.2.1 r2.1.2.1) && (r1.1.2.2 == r2.1.2.2)))) then
    some false
  else
    (law05INum r1.2).bind fun r7 =>
    bif (r7 != r2.2) then
      some false
    else
      bif (!((u256eq r3.1.1 r4.1.1) && ((u256eq r3.1.2.1 r4.1.2.1) && (r3.1.2.2 == r4.1.2.2)))) then
        some false
      else
        (law05INum r3.2).bind fun r8 =>
        bif (r8 != r4.2) then
          some false
        else
          bif (!((u256eq r5.1.1 r6.1.1) && ((u256eq r5.1.2.1 r6.1.2.1) && (r5.1.2.2 == r6.1.2.2)))) then
            some false
          else
            (law05INum r5.2).bind fun r9 =>
            bif (r9 != r6.2) then
              some false
            else
              (curveOn p).bind fun r10 =>
              (ref05On p).bind fun r11 =>
              bif (r10 == r11) then
                (curveOn q).bind fun r12 =>
                (ref05On q).bind fun r13 =>
                bif (r12 == r13) then
                  (curveG).bind fun r14 =>
                  (ref05G).bind fun r15 =>
                  some ((u256eq r14.1 r15.1) && ((u256eq r14.2.1 r15.2.1) && (r14.2.2 == r15.2.2)))
                else
                  some false
              else
                some false

noncomputable def law05CurveAdds (p : Nat × Nat × Bool) (q : Nat × Nat × Bool) : Option (Bool) := hide (law05CurveAddsB p q)

theorem law05CurveAdds_eq (p : Nat × Nat × Bool) (q : Nat × Nat × Bool) : law05CurveAdds p q = law05CurveAddsB p q := hide_eq _

noncomputable def ref05SumL0R (points : List (Nat × Nat × Bool)) (i : Int) (b2 : Nat × Nat × Bool) : Option (((List (Nat × Nat × Bool)) × Int × (Nat × Nat × Bool)) ⊕ ((Nat × Nat × Bool) ⊕ ((List (Nat × Nat × Bool)) × Nat × Nat × Bool))) :=
  bif (decide (i < ((points.length : Nat) : Int))) then
    bif decide (0 ≤ i) then
      bif Nat.blt (Int.toNat i) points.length then
        (ref05On (points.getD (Int.toNat i) ((0, 0, false) : Nat × Nat × Bool))).bind fun r2 =>
        bif (!r2) then
          some (.inr (.inl (0, 0, false)))
        else
          some (.inl (points, (IntKind.wrap .i64 (i + (1 : Int))), b2))
      else none
    else none
  else
    some (.inr (.inr (points, b2)))

noncomputable def ref05SumL0 (points : List (Nat × Nat × Bool)) (i : Int) (b2 : Nat × Nat × Bool) : Option ((Nat × Nat × Bool) ⊕ ((List (Nat × Nat × Bool)) × Nat × Nat × Bool)) := hide (iter (fun p : (List (Nat × Nat × Bool)) × Int × (Nat × Nat × Bool) => ref05SumL0R p.1 p.2.1 p.2.2) (bigFuel) (points, i, b2))

theorem ref05SumL0_eq (points : List (Nat × Nat × Bool)) (i : Int) (b2 : Nat × Nat × Bool) : ref05SumL0 points i b2 = iter (fun p : (List (Nat × Nat × Bool)) × Int × (Nat × Nat × Bool) => ref05SumL0R p.1 p.2.1 p.2.2) (bigFuel) (points, i, b2) := hide_eq _

noncomputable def ref05SumL1R (points : List (Nat × Nat × Bool)) (i : Int) (b2 : Nat × Nat × Bool) (s : Nat × Nat × Bool) : Option (((List (Nat × Nat × Bool)) × Int × (Nat × Nat × Bool) × (Nat × Nat × Bool)) ⊕ ((Nat × Nat × Bool) × Nat × Nat × Bool)) :=
  bif (decide (i < ((points.length : Nat) : Int))) then
    bif decide (0 ≤ i) then
      bif Nat.blt (Int.toNat i) points.length then
        (ref05IPlus s (points.getD (Int.toNat i) ((0, 0, false) : Nat × Nat × Bool))).bind fun r8 =>
        some (.inl (points, (IntKind.wrap .i64 (i + (1 : Int))), b2, r8))
      else none
    else none
  else
    some (.inr (b2, s))

noncomputable def ref05SumL1 (points : List (Nat × Nat × Bool)) (i : Int) (b2 : Nat × Nat × Bool) (s : Nat × Nat × Bool) : Option ((Nat × Nat × Bool) × Nat × Nat × Bool) := hide (iter (fun p : (List (Nat × Nat × Bool)) × Int × (Nat × Nat × Bool) × (Nat × Nat × Bool) => ref05SumL1R p.1 p.2.1 p.2.2.1 p.2.2.2) (bigFuel) (points, i, b2, s))

theorem ref05SumL1_eq (points : List (Nat × Nat × Bool)) (i : Int) (b2 : Nat × Nat × Bool) (s : Nat × Nat × Bool) : ref05SumL1 points i b2 s = iter (fun p : (List (Nat × Nat × Bool)) × Int × (Nat × Nat × Bool) × (Nat × Nat × Bool) => ref05SumL1R p.1 p.2.1 p.2.2.1 p.2.2.2) (bigFuel) (points, i, b2, s) := hide_eq _

noncomputable def ref05SumB (points : List (Nat × Nat × Bool)) : Option ((Nat × Nat × Bool) × Int) :=
  (ref05SumL0 points (0 : Int) (0, 0, false)).bind fun q3 =>
  sumK q3 (fun q4 =>
    some (q4, (50 : Int)))
    (fun q5 =>
    (ref05IIdentity).bind fun r6 =>
    (ref05SumL1 q5.1 (0 : Int) q5.2 r6).bind fun q9 =>
    some (q9.2, (0 : Int)))

noncomputable def ref05Sum (points : List (Nat × Nat × Bool)) : Option ((Nat × Nat × Bool) × Int) := hide (ref05SumB points)

theorem ref05Sum_eq (points : List (Nat × Nat × Bool)) : ref05Sum points = ref05SumB points := hide_eq _

noncomputable def law05CurveSumsL0R (points : List (Nat × Nat × Bool)) (e : Int) (f : Int) (i : Int) (mark : Nat × Nat × Bool) (a : Nat × Nat × Bool) (b : Nat × Nat × Bool) (b13 : List (Nat × Nat × Bool)) : Option (((List (Nat × Nat × Bool)) × Int × Int × Int × (Nat × Nat × Bool) × (Nat × Nat × Bool) × (Nat × Nat × Bool) × (List (Nat × Nat × Bool))) ⊕ (Unit ⊕ ((List (Nat × Nat × Bool)) × Int × Int × (Nat × Nat × Bool) × (Nat × Nat × Bool) × (Nat × Nat × Bool) × List (Nat × Nat × Bool)))) :=
  bif (decide (i < ((points.length : Nat) : Int))) then
    bif decide (0 ≤ i) then
      bif Nat.blt (Int.toNat i) b13.length then
        bif Nat.blt (Int.toNat i) b13.length then
          bif decide (0 ≤ i) then
            bif Nat.blt (Int.toNat i) points.length then
              bif (!((u256eq ((b13.getD (Int.toNat i) ((0, 0, false) : Nat × Nat × Bool)).1) ((points.getD (Int.toNat i) ((0, 0, false) : Nat × Nat × Bool)).1)) && ((u256eq ((b13.getD (Int.toNat i) ((0, 0, false) : Nat × Nat × Bool)).2.1) ((points.getD (Int.toNat i) ((0, 0, false) : Nat × Nat × Bool)).2.1)) && ((b13.getD (Int.toNat i) ((0, 0, false) : Nat × Nat × Bool)).2.2 == (points.getD (Int.toNat i) ((0, 0, false) : Nat × Nat × Bool)).2.2)))) then
                some (.inr (.inl ()))
              else
                some (.inl (points, e, f, (IntKind.wrap .i64 (i + (1 : Int))), mark, a, b, b13))
            else none
          else none
        else none
      else none
    else none
  else
    some (.inr (.inr (points, e, f, mark, a, b, b13)))

noncomputable def law05CurveSumsL0 (points : List (Nat × Nat × Bool)) (e : Int) (f : Int) (i : Int) (mark : Nat × Nat × Bool) (a : Nat × Nat × Bool) (b : Nat × Nat × Bool) (b13 : List (Nat × Nat × Bool)) : Option (Unit ⊕ ((List (Nat × Nat × Bool)) × Int × Int × (Nat × Nat × Bool) × (Nat × Nat × Bool) × (Nat × Nat × Bool) × List (Nat × Nat × Bool))) := hide (iter (fun p : (List (Nat × Nat × Bool)) × Int × Int × Int × (Nat × Nat × Bool) × (Nat × Nat × Bool) × (Nat × Nat × Bool) × (List (Nat × Nat × Bool)) => law05CurveSumsL0R p.1 p.2.1 p.2.2.1 p.2.2.2.1 p.2.2.2.2.1 p.2.2.2.2.2.1 p.2.2.2.2.2.2.1 p.2.2.2.2.2.2.2) (bigFuel) (points, e, f, i, mark, a, b, b13))

theorem law05CurveSumsL0_eq (points : List (Nat × Nat × Bool)) (e : Int) (f : Int) (i : Int) (mark : Nat × Nat × Bool) (a : Nat × Nat × Bool) (b : Nat × Nat × Bool) (b13 : List (Nat × Nat × Bool)) : law05CurveSumsL0 points e f i mark a b b13 = iter (fun p : (List (Nat × Nat × Bool)) × Int × Int × Int × (Nat × Nat × Bool) × (Nat × Nat × Bool) × (Nat × Nat × Bool) × (List (Nat × Nat × Bool)) => law05CurveSumsL0R p.1 p.2.1 p.2.2.1 p.2.2.2.1 p.2.2.2.2.1 p.2.2.2.2.2.1 p.2.2.2.2.2.2.1 p.2.2.2.2.2.2.2) (bigFuel) (points, e, f, i, mark, a, b, b13) := hide_eq _

noncomputable def law05CurveSumsB (points : List (Nat × Nat × Bool)) : Option (Bool) :=
  bif decide (0 ≤ (IntKind.wrap .i64 (((points.length : Nat) : Int) + (2 : Int)))) then
    bif decide ((IntKind.wrap .i64 (((points.length : Nat) : Int) + (2 : Int))) ≤ (IntKind.wrap .i64 (((points.length : Nat) : Int) + (2 : Int)))) then
      bif roomB 72 (Int.toNat (IntKind.wrap .i64 (((points.length : Nat) : Int) + (2 : Int)))) then
        bif decide (0 ≤ ((points.length : Nat) : Int)) then
          bif Nat.blt (Int.toNat ((points.length : Nat) : Int)) ((spliceL (List.replicate (Int.toNat (IntKind.wrap .i64 (((points.length : Nat) : Int) + (2 : Int)))) ((0, 0, false) : Nat × Nat × Bool)) 0 (List.take ((List.replicate (Int.toNat (IntKind.wrap .i64 (((points.length : Nat) : Int) + (2 : Int)))) ((0, 0, false) : Nat × Nat × Bool)).length) points)).length) then
            bif Nat.blt (Int.toNat ((points.length : Nat) : Int)) ((spliceL (List.replicate (Int.toNat (IntKind.wrap .i64 (((points.length : Nat) : Int) + (2 : Int)))) ((0, 0, false) : Nat × Nat × Bool)) 0 (List.take ((List.replicate (Int.toNat (IntKind.wrap .i64 (((points.length : Nat) : Int) + (2 : Int)))) ((0, 0, false) : Nat × Nat × Bool)).length) points)).length) then
              bif decide (0 ≤ (IntKind.wrap .i64 (((points.length : Nat) : Int) + (1 : Int)))) then
                bif Nat.blt (Int.toNat (IntKind.wrap .i64 (((points.length : Nat) : Int) + (1 : Int)))) (((spliceL (List.replicate (Int.toNat (IntKind.wrap .i64 (((points.length : Nat) : Int) + (2 : Int)))) ((0, 0, false) : Nat × Nat × Bool)) 0 (List.take ((List.replicate (Int.toNat (IntKind.wrap .i64 (((points.length : Nat) : Int) + (2 : Int)))) ((0, 0, false) : Nat × Nat × Bool)).length) points)).set (Int.toNat ((points.length : Nat) : Int)) (7, 0, true)).length) then
                  bif Nat.blt (Int.toNat (IntKind.wrap .i64 (((points.length : Nat) : Int) + (1 : Int)))) (((spliceL (List.replicate (Int.toNat (IntKind.wrap .i64 (((points.length : Nat) : Int) + (2 : Int)))) ((0, 0, false) : Nat × Nat × Bool)) 0 (List.take ((List.replicate (Int.toNat (IntKind.wrap .i64 (((points.length : Nat) : Int) + (2 : Int)))) ((0, 0, false) : Nat × Nat × Bool)).length) points)).set (Int.toNat ((points.length : Nat) : Int)) (7, 0, true)).length) then
                    bif decide (0 ≤ ((points.length : Nat) : Int)) then
                      bif Nat.ble (Int.toNat ((points.length : Nat) : Int)) ((((spliceL (List.replicate (Int.toNat (IntKind.wrap .i64 (((points.length : Nat) : Int) + (2 : Int)))) ((0, 0, false) : Nat × Nat × Bool)) 0 (List.take ((List.replicate (Int.toNat (IntKind.wrap .i64 (((points.length : Nat) : Int) + (2 : Int)))) ((0, 0, false) : Nat × Nat × Bool)).length) points)).set (Int.toNat ((points.length : Nat) : Int)) (7, 0, true)).set (Int.toNat (IntKind.wrap .i64 (((points.length : Nat) : Int) + (1 : Int)))) (7, 0, true)).length) then
                        bif Nat.ble (0 + ((Int.toNat ((points.length : Nat) : Int)) - 0)) ((((spliceL (List.replicate (Int.toNat (IntKind.wrap .i64 (((points.length : Nat) : Int) + (2 : Int)))) ((0, 0, false) : Nat × Nat × Bool)) 0 (List.take ((List.replicate (Int.toNat (IntKind.wrap .i64 (((points.length : Nat) : Int) + (2 : Int)))) ((0, 0, false) : Nat × Nat × Bool)).length) points)).set (Int.toNat ((points.length : Nat) : Int)) (7, 0, true)).set (Int.toNat (IntKind.wrap .i64 (((points.length : Nat) : Int) + (1 : Int)))) (7, 0, true)).length) then
                          (curveSum (List.take ((Int.toNat ((points.length : Nat) : Int)) - 0) (List.drop 0 (((spliceL (List.replicate (Int.toNat (IntKind.wrap .i64 (((points.length : Nat) : Int) + (2 : Int)))) ((0, 0, false) : Nat × Nat × Bool)) 0 (List.take ((List.replicate (Int.toNat (IntKind.wrap .i64 (((points.length : Nat) : Int) + (2 : Int)))) ((0, 0, false) : Nat × Nat × Bool)).length) points)).set (Int.toNat ((points.length : Nat) : Int)) (7, 0, true)).set (Int.toNat (IntKind.wrap .i64 (((points.length : Nat) : Int) + (1 : Int)))) (7, 0, true))))).bind fun r1 =>
                          (ref05Sum points).bind fun r2 =>
                          (law05CurveSumsL0 points r1.2 r2.2 (0 : Int) (7, 0, true) r1.1 r2.1 (((spliceL (List.replicate (Int.toNat (IntKind.wrap .i64 (((points.length : Nat) : Int) + (2 : Int)))) ((0, 0, false) : Nat × Nat × Bool)) 0 (List.take ((List.replicate (Int.toNat (IntKind.wrap .i64 (((points.length : Nat) : Int) + (2 : Int)))) ((0, 0, false) : Nat × Nat × Bool)).length) points)).set (Int.toNat ((points.length : Nat) : Int)) (7, 0, true)).set (Int.toNat (IntKind.wrap .i64 (((points.length : Nat) : Int) + (1 : Int)))) (7, 0, true))).bind fun q3 =>
                          sumK q3 (fun q4 =>
                            some false)
                            (fun q5 =>
                            bif ((u256eq q5.2.2.2.2.1.1 q5.2.2.2.2.2.1.1) && ((u256eq q5.2.2.2.2.1.2.1 q5.2.2.2.2.2.1.2.1) && (q5.2.2.2.2.1.2.2 == q5.2.2.2.2.2.1.2.2))) then
                              (law05INum q5.2.1).bind fun r6 =>
                              bif (r6 == q5.2.2.1) then
                                bif decide (0 ≤ ((q5.1.length : Nat) : Int)) then
                                  bif Nat.blt (Int.toNat ((q5.1.length : Nat) : Int)) q5.2.2.2.2.2.2.length then
                                    bif Nat.blt (Int.toNat ((q5.1.length : Nat) : Int)) q5.2.2.2.2.2.2.length then
                                      bif ((u256eq ((q5.2.2.2.2.2.2.getD (Int.toNat ((q5.1.length : Nat) : Int)) ((0, 0, false) : Nat × Nat × Bool)).1) q5.2.2.2.1.1) && ((u256eq ((q5.2.2.2.2.2.2.getD (Int.toNat ((q5.1.length : Nat) : Int)) ((0, 0, false) : Nat × Nat × Bool)).2.1) q5.2.2.2.1.2.1) && ((q5.2.2.2.2.2.2.getD (Int.toNat ((q5.1.length : Nat) : Int)) ((0, 0, false) : Nat × Nat × Bool)).2.2 == q5.2.2.2.1.2.2))) then
                                        bif decide (0 ≤ (IntKind.wrap .i64 (((q5.1.length : Nat) : Int) + (1 : Int)))) then
                                          bif Nat.blt (Int.toNat (IntKind.wrap .i64 (((q5.1.length : Nat) : Int) + (1 : Int)))) q5.2.2.2.2.2.2.length then
                                            bif Nat.blt (Int.toNat (IntKind.wrap .i64 (((q5.1.length : Nat) : Int) + (1 : Int)))) q5.2.2.2.2.2.2.length then
                                              some ((u256eq ((q5.2.2.2.2.2.2.getD (Int.toNat (IntKind.wrap .i64 (((q5.1.length : Nat) : Int) + (1 : Int)))) ((0, 0, false) : Nat × Nat × Bool)).1) q5.2.2.2.1.1) && ((u256eq ((q5.2.2.2.2.2.2.getD (Int.toNat (IntKind.wrap .i64 (((q5.1.length : Nat) : Int) + (1 : Int)))) ((0, 0, false) : Nat × Nat × Bool)).2.1) q5.2.2.2.1.2.1) && ((q5.2.2.2.2.2.2.getD (Int.toNat (IntKind.wrap .i64 (((q5.1.length : Nat) : Int) + (1 : Int)))) ((0, 0, false) : Nat × Nat × Bool)).2.2 == q5.2.2.2.1.2.2)))
                                            else none
                                          else none
                                        else none
                                      else
                                        some false
                                    else none
                                  else none
                                else none
                              else
                                some false
                            else
                              some false)
                        else none
                      else none
                    else none
                  else none
                else none
              else none
            else none
          else none
        else none
      else none
    else none
  else none

noncomputable def law05CurveSums (points : List (Nat × Nat × Bool)) : Option (Bool) := hide (law05CurveSumsB points)

theorem law05CurveSums_eq (points : List (Nat × Nat × Bool)) : law05CurveSums points = law05CurveSumsB points := hide_eq _

noncomputable def curveLiftB (x : Nat) (odd : Bool) : Option ((Nat × Nat × Bool) × Int) :=
  (curveIPrime).bind fun r1 =>
  (u256Cmp x r1).bind fun r2 =>
  bif (decide (r2 ≥ (0 : Int))) then
    some ((0, 0, false), (50 : Int))
  else
    (curveIRight x).bind fun r3 =>
    (fieldRoot r3).bind fun r4 =>
    bif (r4.2 != (0 : Int)) then
      some ((0, 0, false), (50 : Int))
    else
      bif odd then
        (curveIZero).bind fun r5 =>
        (curveIMinus r5 r4.1).bind fun r6 =>
        some ((x, r6, false), (0 : Int))
      else
        some ((x, r4.1, false), (0 : Int))

noncomputable def curveLift (x : Nat) (odd : Bool) : Option ((Nat × Nat × Bool) × Int) := hide (curveLiftB x odd)

theorem curveLift_eq (x : Nat) (odd : Bool) : curveLift x odd = curveLiftB x odd := hide_eq _

noncomputable def ref05LiftB (x : Nat) (odd : Bool) : Option ((Nat × Nat × Bool) × Int) :=
  (ref05ILow x).bind fun r1 =>
  bif (!r1) then
    some ((0, 0, false), (50 : Int))
  else
    (ref05ICubic x).bind fun r2 =>
    (ref04Root r2).bind fun r3 =>
    bif (r3.2 != (0 : Int)) then
      some ((0, 0, false), (50 : Int))
    else
      bif odd then
        (ref05INeg (x, r3.1, false)).bind fun r4 =>
        some (r4, (0 : Int))
      else
        some ((x, r3.1, false), (0 : Int))

noncomputable def ref05Lift (x : Nat) (odd : Bool) : Option ((Nat × Nat × Bool) × Int) := hide (ref05LiftB x odd)

theorem ref05Lift_eq (x : Nat) (odd : Bool) : ref05Lift x odd = ref05LiftB x odd := hide_eq _

noncomputable def law05CurveLiftsB (x : Nat) : Option (Bool) :=
  (curveLift x true).bind fun r1 =>
  (ref05Lift x true).bind fun r2 =>
  (curveLift x false).bind fun r3 =>
  (ref05Lift x false).bind fun r4 =>
  bif ((u256eq r1.1.1 r2.1.1) && ((u256eq r1.1.2.1 r2.1.2.1) && (r1.1.2.2 == r2.1.2.2))) then
    (law05INum r1.2).bind fun r5 =>
    bif (r5 == r2.2) then
      bif ((u256eq r3.1.1 r4.1.1) && ((u256eq r3.1.2.1 r4.1.2.1) && (r3.1.2.2 == r4.1.2.2))) then
        (law05INum r3.2).bind fun r6 =>
        some (r6 == r4.2)
      else
        some false
    else
      some false
  else
    some false

noncomputable def law05CurveLifts (x : Nat) : Option (Bool) := hide (law05CurveLiftsB x)

theorem law05CurveLifts_eq (x : Nat) : law05CurveLifts x = law05CurveLiftsB x := hide_eq _

noncomputable def law05IZeroB  : Option (Nat × Nat × Bool) :=
  some (0, 0, true)

noncomputable def law05IZero  : Option (Nat × Nat × Bool) := hide (law05IZeroB )

theorem law05IZero_eq  : law05IZero  = law05IZeroB  := hide_eq _

noncomputable def law05IBaseB  : Option (Bool) :=
  (curveG).bind fun r1 =>
  (curveDouble r1).bind fun r2 =>
  (curveOn r1).bind fun r3 =>
  bif r3 then
    (curveOn r2.1).bind fun r4 =>
    bif r4 then
      (law05INum r2.2).bind fun r5 =>
      bif (r5 == (0 : Int)) then
        bif (u256eq r2.1.1 89565891926547004231252920425935692360644145829622209833684329913297188986597) then
          bif (!((u256eq r2.1.1 r1.1) && ((u256eq r2.1.2.1 r1.2.1) && (r2.1.2.2 == r1.2.2)))) then
            (curveOn (0, 0, false)).bind fun r6 =>
            bif (!r6) then
              (law05IZero).bind fun r7 =>
              (curveOn r7).bind fun r8 =>
              some r8
            else
              some false
          else
            some false
        else
          some false
      else
        some false
    else
      some false
  else
    some false

noncomputable def law05IBase  : Option (Bool) := hide (law05IBaseB )

theorem law05IBase_eq  : law05IBase  = law05IBaseB  := hide_eq _

noncomputable def law05IPlusB (p : Nat × Nat × Bool) (q : Nat × Nat × Bool) : Option ((Nat × Nat × Bool) × Bool) :=
  (curveAdd p q).bind fun r1 =>
  (law05INum r1.2).bind fun r2 =>
  bif (r2 == (0 : Int)) then
    (curveOn r1.1).bind fun r3 =>
    some (r1.1, r3)
  else
    some (r1.1, false)

noncomputable def law05IPlus (p : Nat × Nat × Bool) (q : Nat × Nat × Bool) : Option ((Nat × Nat × Bool) × Bool) := hide (law05IPlusB p q)

theorem law05IPlus_eq (p : Nat × Nat × Bool) (q : Nat × Nat × Bool) : law05IPlus p q = law05IPlusB p q := hide_eq _

noncomputable def law05CurveGroupB (p : Nat × Nat × Bool) (q : Nat × Nat × Bool) (r : Nat × Nat × Bool) : Option (Bool) :=
  (law05IBase).bind fun r1 =>
  bif (!r1) then
    some r1
  else
    (curveOn p).bind fun r2 =>
    bif (!r2) then
      some r1
    else
      (curveOn q).bind fun r3 =>
      bif (!r3) then
        some r1
      else
        (curveOn r).bind fun r4 =>
        bif (!r4) then
          some r1
        else
          (law05IPlus p q).bind fun r5 =>
          (law05IPlus q p).bind fun r6 =>
          (law05IPlus r5.1 r).bind fun r7 =>
          (law05IPlus q r).bind fun r8 =>
          (law05IPlus p r8.1).bind fun r9 =>
          bif (!r5.2) then
            some false
          else
            bif (!r6.2) then
              some false
            else
              bif (!r7.2) then
                some false
              else
                bif (!r8.2) then
                  some false
                else
                  bif (!r9.2) then
                    some false
                  else
                    bif (!((u256eq r5.1.1 r6.1.1) && ((u256eq r5.1.2.1 r6.1.2.1) && (r5.1.2.2 == r6.1.2.2)))) then
                      some false
                    else
                      bif (!((u256eq r7.1.1 r9.1.1) && ((u256eq r7.1.2.1 r9.1.2.1) && (r7.1.2.2 == r9.1.2.2)))) then
                        some false
                      else
                        (curveNeg p).bind fun r10 =>
                        (law05IPlus p r10.1).bind fun r11 =>
                        (law05IZero).bind fun r12 =>
                        (law05IPlus r12 p).bind fun r13 =>
                        (curveSum [p, q, r]).bind fun r14 =>
                        (curveDouble p).bind fun r15 =>
                        (law05IPlus p p).bind fun r16 =>
                        (law05INum r10.2).bind fun r17 =>
                        bif (r17 != (0 : Int)) then
                          some false
                        else
                          (law05INum r14.2).bind fun r18 =>
                          bif (r18 != (0 : Int)) then
                            some false
                          else
                            (law05INum r15.2).bind fun r19 =>
                            bif (r19 != (0 : Int)) then
                              some false
                            else
                              bif (!r11.2) then
                                some false
                              else
                                bif (!r13.2) then
                                  some false
                                else
                                  bif (!r16.2) then
                                    some false
                                  else
                                    (law05IZero).bind fun r20 =>
                                    bif ((u256eq r11.1.1 r20.1) && ((u256eq r11.1.2.1 r20.2.1) && (r11.1.2.2 == r20.2.2))) then
                                      bif ((u256eq r13.1.1 p.1) && ((u256eq r13.1.2.1 p.2.1) && (r13.1.2.2 == p.2.2))) then
                                        bif ((u256eq r14.1.1 r7.1.1) && ((u256eq r14.1.2.1 r7.1.2.1) && (r14.1.2.2 == r7.1.2.2))) then
                                          some ((u256eq r15.1.1 r16.1.1) && ((u256eq r15.1.2.1 r16.1.2.1) && (r15.1.2.2 == r16.1.2.2)))
                                        else
                                          some false
                                      else
                                        some false
                                    else
                                      some false

noncomputable def law05CurveGroup (p : Nat × Nat × Bool) (q : Nat × Nat × Bool) (r : Nat × Nat × Bool) : Option (Bool) := hide (law05CurveGroupB p q r)

theorem law05CurveGroup_eq (p : Nat × Nat × Bool) (q : Nat × Nat × Bool) (r : Nat × Nat × Bool) : law05CurveGroup p q r = law05CurveGroupB p q r := hide_eq _

end Go.Sy
