/- Typed functions, printed by a program out of the code: what each function of the code computes. -/
import Derived.Test.YtfappeeggccicaaDoorSyVT
set_option linter.unusedVariables false
namespace Go.Sy
open Go

noncomputable def curveIZeroB  : Option (Nat) :=
  some 0

noncomputable def curveIZero  : Option (Nat) := hide (curveIZeroB )

theorem curveIZero_eq  : curveIZero  = curveIZeroB  := hide_eq _

noncomputable def curveIPrimeB  : Option (Nat) :=
  (fieldModulus (0 : Int)).bind fun r1 =>
  some r1.1

noncomputable def curveIPrime  : Option (Nat) := hide (curveIPrimeB )

theorem curveIPrime_eq  : curveIPrime  = curveIPrimeB  := hide_eq _

noncomputable def curveISquareB (x : Nat) : Option (Nat) :=
  (fieldSquare (0 : Int) x).bind fun r1 =>
  some r1.1

noncomputable def curveISquare (x : Nat) : Option (Nat) := hide (curveISquareB x)

theorem curveISquare_eq (x : Nat) : curveISquare x = curveISquareB x := hide_eq _

noncomputable def curveITimesB (x : Nat) (y : Nat) : Option (Nat) :=
  (fieldMul (0 : Int) x y).bind fun r1 =>
  some r1.1

noncomputable def curveITimes (x : Nat) (y : Nat) : Option (Nat) := hide (curveITimesB x y)

theorem curveITimes_eq (x : Nat) (y : Nat) : curveITimes x y = curveITimesB x y := hide_eq _

noncomputable def curveIPlusB (x : Nat) (y : Nat) : Option (Nat) :=
  (fieldAdd (0 : Int) x y).bind fun r1 =>
  some r1.1

noncomputable def curveIPlus (x : Nat) (y : Nat) : Option (Nat) := hide (curveIPlusB x y)

theorem curveIPlus_eq (x : Nat) (y : Nat) : curveIPlus x y = curveIPlusB x y := hide_eq _

noncomputable def curveIRightB (x : Nat) : Option (Nat) :=
  (curveISquare x).bind fun r1 =>
  (curveITimes x r1).bind fun r2 =>
  (curveIPlus r2 7).bind fun r3 =>
  some r3

noncomputable def curveIRight (x : Nat) : Option (Nat) := hide (curveIRightB x)

theorem curveIRight_eq (x : Nat) : curveIRight x = curveIRightB x := hide_eq _

noncomputable def curveOnB (p : Nat × Nat × Bool) : Option (Bool) :=
  bif p.2.2 then
    (curveIZero).bind fun r1 =>
    bif (u256eq p.1 r1) then
      (curveIZero).bind fun r2 =>
      some (u256eq p.2.1 r2)
    else
      some false
  else
    (curveIPrime).bind fun r3 =>
    (u256Cmp p.1 r3).bind fun r4 =>
    bif (decide (r4 < (0 : Int))) then
      (curveIPrime).bind fun r5 =>
      (u256Cmp p.2.1 r5).bind fun r6 =>
      bif (decide (r6 < (0 : Int))) then
        (curveISquare p.2.1).bind fun r7 =>
        (curveIRight p.1).bind fun r8 =>
        some (u256eq r7 r8)
      else
        some false
    else
      some false

noncomputable def curveOn (p : Nat × Nat × Bool) : Option (Bool) := hide (curveOnB p)

theorem curveOn_eq (p : Nat × Nat × Bool) : curveOn p = curveOnB p := hide_eq _

noncomputable def curveIMinusB (x : Nat) (y : Nat) : Option (Nat) :=
  (fieldSub (0 : Int) x y).bind fun r1 =>
  some r1.1

noncomputable def curveIMinus (x : Nat) (y : Nat) : Option (Nat) := hide (curveIMinusB x y)

theorem curveIMinus_eq (x : Nat) (y : Nat) : curveIMinus x y = curveIMinusB x y := hide_eq _

noncomputable def curveLiftB (x : Nat) (odd : Bool) : Option ((Nat × Nat × Bool) × Int) :=
  (curveIPrime).bind fun r1 =>
  (u256Cmp x r1).bind fun r2 =>
  bif (decide (r2 ≥ (0 : Int))) then
    some ((0, 0, false), (50 : Int))
  else
    (curveIRight x).bind fun r3 =>
    (fieldRoot r3).bind fun r4 =>
    bif (r4.2 != (0 : Int)) then
      some ((0, 0, false), (50 : Int))
    else
      bif odd then
        (curveIZero).bind fun r5 =>
        (curveIMinus r5 r4.1).bind fun r6 =>
        some ((x, r6, false), (0 : Int))
      else
        some ((x, r4.1, false), (0 : Int))

noncomputable def curveLift (x : Nat) (odd : Bool) : Option ((Nat × Nat × Bool) × Int) := hide (curveLiftB x odd)

theorem curveLift_eq (x : Nat) (odd : Bool) : curveLift x odd = curveLiftB x odd := hide_eq _

noncomputable def ref05IIdentityB  : Option (Nat × Nat × Bool) :=
  some (0, 0, true)

noncomputable def ref05IIdentity  : Option (Nat × Nat × Bool) := hide (ref05IIdentityB )

theorem ref05IIdentity_eq  : ref05IIdentity  = ref05IIdentityB  := hide_eq _

noncomputable def ref05ILowB (x : Nat) : Option (Bool) :=
  (ref04Modulus (0 : Int)).bind fun r1 =>
  (ref01Cmp x r1.1).bind fun r2 =>
  some (decide (r2 < (0 : Int)))

noncomputable def ref05ILow (x : Nat) : Option (Bool) := hide (ref05ILowB x)

theorem ref05ILow_eq (x : Nat) : ref05ILow x = ref05ILowB x := hide_eq _

noncomputable def ref05IMulB (x : Nat) (y : Nat) : Option (Nat) :=
  (ref04Mul (0 : Int) x y).bind fun r1 =>
  some r1.1

noncomputable def ref05IMul (x : Nat) (y : Nat) : Option (Nat) := hide (ref05IMulB x y)

theorem ref05IMul_eq (x : Nat) (y : Nat) : ref05IMul x y = ref05IMulB x y := hide_eq _

noncomputable def ref05IAddB (x : Nat) (y : Nat) : Option (Nat) :=
  (ref04Add (0 : Int) x y).bind fun r1 =>
  some r1.1

noncomputable def ref05IAdd (x : Nat) (y : Nat) : Option (Nat) := hide (ref05IAddB x y)

theorem ref05IAdd_eq (x : Nat) (y : Nat) : ref05IAdd x y = ref05IAddB x y := hide_eq _

noncomputable def ref05ICubicB (x : Nat) : Option (Nat) :=
  (ref05IMul x x).bind fun r1 =>
  (ref05IMul r1 x).bind fun r2 =>
  (ref01From (7 : Int)).bind fun r3 =>
  (ref05IAdd r2 r3).bind fun r4 =>
  some r4

noncomputable def ref05ICubic (x : Nat) : Option (Nat) := hide (ref05ICubicB x)

theorem ref05ICubic_eq (x : Nat) : ref05ICubic x = ref05ICubicB x := hide_eq _

noncomputable def ref05OnB (p : Nat × Nat × Bool) : Option (Bool) :=
  bif p.2.2 then
    (ref05IIdentity).bind fun r1 =>
    some ((u256eq p.1 r1.1) && ((u256eq p.2.1 r1.2.1) && (p.2.2 == r1.2.2)))
  else
    (ref05ILow p.1).bind fun r2 =>
    bif (!r2) then
      some false
    else
      (ref05ILow p.2.1).bind fun r3 =>
      bif (!r3) then
        some false
      else
        (ref05IMul p.2.1 p.2.1).bind fun r4 =>
        (ref05ICubic p.1).bind fun r5 =>
        some (u256eq r4 r5)

noncomputable def ref05On (p : Nat × Nat × Bool) : Option (Bool) := hide (ref05OnB p)

theorem ref05On_eq (p : Nat × Nat × Bool) : ref05On p = ref05OnB p := hide_eq _

end Go.Sy
