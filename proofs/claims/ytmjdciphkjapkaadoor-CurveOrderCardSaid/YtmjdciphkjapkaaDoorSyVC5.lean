/- Typed functions, printed by a program out of the code: what each function of the code computes. -/
import Derived.Test.YtmjdciphkjapkaaDoorSyVC4
set_option linter.unusedVariables false
namespace Go.Sy
open Go

noncomputable def law05IOrderB  : Option (Nat) :=
  some 115792089237316195423570985008687907852837564279074904382605163141518161494337

noncomputable def law05IOrder  : Option (Nat) := hide (law05IOrderB )

theorem law05IOrder_eq  : law05IOrder  = law05IOrderB  := hide_eq _

noncomputable def law05CurveOrderB (a : Nat) (b : Nat) (p : Nat × Nat × Bool) : Option (Bool) :=
  (law05IBase).bind fun r1 =>
  bif (!r1) then
    some r1
  else
    (curveOn p).bind fun r2 =>
    bif (!r2) then
      some r1
    else
      (law05IOrder).bind fun r3 =>
      (curveMul r3 p).bind fun r4 =>
      (curveMul a p).bind fun r5 =>
      (curveMul b p).bind fun r6 =>
      (law05IOrder).bind fun r7 =>
      (u256AddMod a b r7).bind fun r8 =>
      (curveMul r8.1 p).bind fun r9 =>
      (law05IPlus r5.1 r6.1).bind fun r10 =>
      (law05INum r4.2).bind fun r11 =>
      bif (r11 != (0 : Int)) then
        some false
      else
        (law05INum r5.2).bind fun r12 =>
        bif (r12 != (0 : Int)) then
          some false
        else
          (law05INum r6.2).bind fun r13 =>
          bif (r13 != (0 : Int)) then
            some false
          else
            (law05INum r8.2).bind fun r14 =>
            bif (r14 != (0 : Int)) then
              some false
            else
              (law05INum r9.2).bind fun r15 =>
              bif (r15 != (0 : Int)) then
                some false
              else
                bif (!r10.2) then
                  some false
                else
                  (law05IZero).bind fun r16 =>
                  bif (!((u256eq r4.1.1 r16.1) && ((u256eq r4.1.2.1 r16.2.1) && (r4.1.2.2 == r16.2.2)))) then
                    some false
                  else
                    bif (!((u256eq r10.1.1 r9.1.1) && ((u256eq r10.1.2.1 r9.1.2.1) && (r10.1.2.2 == r9.1.2.2)))) then
                      some false
                    else
                      (curveG).bind fun r17 =>
                      (curveMul a r17).bind fun r18 =>
                      (curveMulAdd a b p).bind fun r19 =>
                      (law05IPlus r18.1 r6.1).bind fun r20 =>
                      (law05INum r18.2).bind fun r21 =>
                      bif (r21 == (0 : Int)) then
                        (law05INum r19.2).bind fun r22 =>
                        bif (r22 == (0 : Int)) then
                          bif r20.2 then
                            (curveMulG a).bind fun r23 =>
                            bif ((u256eq r18.1.1 r23.1) && ((u256eq r18.1.2.1 r23.2.1) && (r18.1.2.2 == r23.2.2))) then
                              some ((u256eq r19.1.1 r20.1.1) && ((u256eq r19.1.2.1 r20.1.2.1) && (r19.1.2.2 == r20.1.2.2)))
                            else
                              some false
                          else
                            some false
                        else
                          some false
                      else
                        some false

noncomputable def law05CurveOrder (a : Nat) (b : Nat) (p : Nat × Nat × Bool) : Option (Bool) := hide (law05CurveOrderB a b p)

theorem law05CurveOrder_eq (a : Nat) (b : Nat) (p : Nat × Nat × Bool) : law05CurveOrder a b p = law05CurveOrderB a b p := hide_eq _

end Go.Sy
