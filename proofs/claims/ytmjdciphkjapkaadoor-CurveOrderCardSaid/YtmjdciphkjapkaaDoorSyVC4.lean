/- Typed functions, printed by a program out of the code: what each function of the code computes. -/
import Derived.Test.YtmjdciphkjapkaaDoorSyVC3
set_option linter.unusedVariables false
namespace Go.Sy
open Go

noncomputable def law05CurveStepsB (k : Nat) (p : Nat × Nat × Bool) : Option (Bool) :=
  (law05IBase).bind fun r1 =>
  bif (!r1) then
    some r1
  else
    (curveOn p).bind fun r2 =>
    bif (!r2) then
      some r1
    else
      (u256Len k).bind fun r3 =>
      bif (decide (r3 > (255 : Int))) then
        some r1
      else
        (curveMul 0 p).bind fun r4 =>
        (curveMul k p).bind fun r5 =>
        (u256Shl k (1 : Int)).bind fun r6 =>
        (curveMul r6 p).bind fun r7 =>
        (u256Shl k (1 : Int)).bind fun r8 =>
        (u256From (1 : Int)).bind fun r9 =>
        (u256Or r8 r9).bind fun r10 =>
        (curveMul r10 p).bind fun r11 =>
        (curveDouble r5.1).bind fun r12 =>
        (law05IPlus r12.1 p).bind fun r13 =>
        (law05INum r4.2).bind fun r14 =>
        bif (r14 != (0 : Int)) then
          some false
        else
          (law05INum r5.2).bind fun r15 =>
          bif (r15 != (0 : Int)) then
            some false
          else
            (law05INum r7.2).bind fun r16 =>
            bif (r16 != (0 : Int)) then
              some false
            else
              (law05INum r11.2).bind fun r17 =>
              bif (r17 != (0 : Int)) then
                some false
              else
                (law05INum r12.2).bind fun r18 =>
                bif (r18 != (0 : Int)) then
                  some false
                else
                  bif (!r13.2) then
                    some false
                  else
                    (law05IZero).bind fun r19 =>
                    bif ((u256eq r4.1.1 r19.1) && ((u256eq r4.1.2.1 r19.2.1) && (r4.1.2.2 == r19.2.2))) then
                      bif ((u256eq r7.1.1 r12.1.1) && ((u256eq r7.1.2.1 r12.1.2.1) && (r7.1.2.2 == r12.1.2.2))) then
                        some ((u256eq r11.1.1 r13.1.1) && ((u256eq r11.1.2.1 r13.1.2.1) && (r11.1.2.2 == r13.1.2.2)))
                      else
                        some false
                    else
                      some false

noncomputable def law05CurveSteps (k : Nat) (p : Nat × Nat × Bool) : Option (Bool) := hide (law05CurveStepsB k p)

theorem law05CurveSteps_eq (k : Nat) (p : Nat × Nat × Bool) : law05CurveSteps k p = law05CurveStepsB k p := hide_eq _

end Go.Sy
