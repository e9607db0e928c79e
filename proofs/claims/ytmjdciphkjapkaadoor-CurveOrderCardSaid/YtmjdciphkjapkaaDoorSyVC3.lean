/- Typed functions, printed by a program out of the code: what each function of the code computes. -/
import Derived.Test.YtmjdciphkjapkaaDoorSyVC2
set_option linter.unusedVariables false
namespace Go.Sy
open Go

noncomputable def law05ILentL0R (l : Nat × Nat) (full : Nat × Nat) (i : Int) (b11 : List Int) : Option (((Nat × Nat) × (Nat × Nat) × Int × List Int) ⊕ ((Nat × Nat) × List Int)) :=
  bif (decide (i < ((full.2 : Nat) : Int))) then
    bif decide (0 ≤ i) then
      bif Nat.blt (Int.toNat i) full.2 then
        bif Nat.blt (full.1 + (Int.toNat i)) b11.length then
          some (.inl (l, full, (IntKind.wrap .i64 (i + (1 : Int))), (b11.set (full.1 + (Int.toNat i)) (195 : Int))))
        else none
      else none
    else none
  else
    some (.inr (l, b11))

noncomputable def law05ILentL0 (l : Nat × Nat) (full : Nat × Nat) (i : Int) (b11 : List Int) : Option ((Nat × Nat) × List Int) := hide (iter (fun p : (Nat × Nat) × (Nat × Nat) × Int × List Int => law05ILentL0R p.1 p.2.1 p.2.2.1 p.2.2.2) (bigFuel) (l, full, i, b11))

theorem law05ILentL0_eq (l : Nat × Nat) (full : Nat × Nat) (i : Int) (b11 : List Int) : law05ILentL0 l full i b11 = iter (fun p : (Nat × Nat) × (Nat × Nat) × Int × List Int => law05ILentL0R p.1 p.2.1 p.2.2.1 p.2.2.2) (bigFuel) (l, full, i, b11) := hide_eq _

noncomputable def law05ILentB (data : List Int) : Option ((Nat × Nat) × List Int) :=
  bif decide (0 ≤ ((data.length : Nat) : Int)) then
    bif decide (((data.length : Nat) : Int) ≤ (IntKind.wrap .i64 (((data.length : Nat) : Int) + (70 : Int)))) then
      bif roomB 1 (Int.toNat (IntKind.wrap .i64 (((data.length : Nat) : Int) + (70 : Int)))) then
        bif Nat.ble (0 + (Int.toNat ((data.length : Nat) : Int))) ((List.replicate (Int.toNat (IntKind.wrap .i64 (((data.length : Nat) : Int) + (70 : Int)))) (0 : Int)).length) then
          bif decide (0 ≤ (IntKind.wrap .i64 (((data.length : Nat) : Int) + (70 : Int)))) then
            bif Nat.ble (Int.toNat (IntKind.wrap .i64 (((data.length : Nat) : Int) + (70 : Int)))) ((spliceL (List.replicate (Int.toNat (IntKind.wrap .i64 (((data.length : Nat) : Int) + (70 : Int)))) (0 : Int)) 0 (List.take (Int.toNat ((data.length : Nat) : Int)) data)).length - 0) then
              (law05ILentL0 (0, (Int.toNat ((data.length : Nat) : Int))) (0, ((Int.toNat (IntKind.wrap .i64 (((data.length : Nat) : Int) + (70 : Int)))) - 0)) ((data.length : Nat) : Int) (spliceL (List.replicate (Int.toNat (IntKind.wrap .i64 (((data.length : Nat) : Int) + (70 : Int)))) (0 : Int)) 0 (List.take (Int.toNat ((data.length : Nat) : Int)) data))).bind fun q1 =>
              some q1
            else none
          else none
        else none
      else none
    else none
  else none

noncomputable def law05ILent (data : List Int) : Option ((Nat × Nat) × List Int) := hide (law05ILentB data)

theorem law05ILent_eq (data : List Int) : law05ILent data = law05ILentB data := hide_eq _

noncomputable def curveParseB (data : List Int) : Option ((Nat × Nat × Bool) × Int) :=
  bif (((data.length : Nat) : Int) == (33 : Int)) then
    bif Nat.blt 0 data.length then
      bif ((data.getD 0 (0 : Int)) == (2 : Int)) then
        bif Nat.ble 1 data.length then
          (u256Get (List.take (data.length - 1) (List.drop 1 data))).bind fun r1 =>
          (curveIPrime).bind fun r2 =>
          (u256Cmp r1.1 r2).bind fun r3 =>
          bif (decide (r3 ≥ (0 : Int))) then
            some ((0, 0, false), (51 : Int))
          else
            bif Nat.blt 0 data.length then
              (curveLift r1.1 ((data.getD 0 (0 : Int)) == (3 : Int))).bind fun r4 =>
              some r4
            else none
        else none
      else
        bif Nat.blt 0 data.length then
          bif ((data.getD 0 (0 : Int)) == (3 : Int)) then
            bif Nat.ble 1 data.length then
              (u256Get (List.take (data.length - 1) (List.drop 1 data))).bind fun r5 =>
              (curveIPrime).bind fun r6 =>
              (u256Cmp r5.1 r6).bind fun r7 =>
              bif (decide (r7 ≥ (0 : Int))) then
                some ((0, 0, false), (51 : Int))
              else
                bif Nat.blt 0 data.length then
                  (curveLift r5.1 ((data.getD 0 (0 : Int)) == (3 : Int))).bind fun r8 =>
                  some r8
                else none
            else none
          else
            bif (((data.length : Nat) : Int) == (65 : Int)) then
              bif Nat.blt 0 data.length then
                bif ((data.getD 0 (0 : Int)) == (4 : Int)) then
                  bif Nat.ble 33 data.length then
                    (u256Get (List.take 32 (List.drop 1 data))).bind fun r9 =>
                    bif Nat.ble 33 data.length then
                      (u256Get (List.take (data.length - 33) (List.drop 33 data))).bind fun r10 =>
                      (curveIPrime).bind fun r11 =>
                      (u256Cmp r9.1 r11).bind fun r12 =>
                      bif (decide (r12 ≥ (0 : Int))) then
                        some ((0, 0, false), (51 : Int))
                      else
                        (curveIPrime).bind fun r13 =>
                        (u256Cmp r10.1 r13).bind fun r14 =>
                        bif (decide (r14 ≥ (0 : Int))) then
                          some ((0, 0, false), (51 : Int))
                        else
                          (curveOn (r9.1, r10.1, false)).bind fun r15 =>
                          bif (!r15) then
                            some ((0, 0, false), (50 : Int))
                          else
                            some ((r9.1, r10.1, false), (0 : Int))
                    else none
                  else none
                else
                  some ((0, 0, false), (51 : Int))
              else none
            else
              some ((0, 0, false), (51 : Int))
        else none
    else none
  else
    bif (((data.length : Nat) : Int) == (65 : Int)) then
      bif Nat.blt 0 data.length then
        bif ((data.getD 0 (0 : Int)) == (4 : Int)) then
          bif Nat.ble 33 data.length then
            (u256Get (List.take 32 (List.drop 1 data))).bind fun r16 =>
            bif Nat.ble 33 data.length then
              (u256Get (List.take (data.length - 33) (List.drop 33 data))).bind fun r17 =>
              (curveIPrime).bind fun r18 =>
              (u256Cmp r16.1 r18).bind fun r19 =>
              bif (decide (r19 ≥ (0 : Int))) then
                some ((0, 0, false), (51 : Int))
              else
                (curveIPrime).bind fun r20 =>
                (u256Cmp r17.1 r20).bind fun r21 =>
                bif (decide (r21 ≥ (0 : Int))) then
                  some ((0, 0, false), (51 : Int))
                else
                  (curveOn (r16.1, r17.1, false)).bind fun r22 =>
                  bif (!r22) then
                    some ((0, 0, false), (50 : Int))
                  else
                    some ((r16.1, r17.1, false), (0 : Int))
            else none
          else none
        else
          some ((0, 0, false), (51 : Int))
      else none
    else
      some ((0, 0, false), (51 : Int))

noncomputable def curveParse (data : List Int) : Option ((Nat × Nat × Bool) × Int) := hide (curveParseB data)

theorem curveParse_eq (data : List Int) : curveParse data = curveParseB data := hide_eq _

noncomputable def ref05ParseB (data : List Int) : Option ((Nat × Nat × Bool) × Int) :=
  bif (((data.length : Nat) : Int) == (33 : Int)) then
    bif Nat.blt 0 data.length then
      bif ((data.getD 0 (0 : Int)) == (2 : Int)) then
        bif (((data.length : Nat) : Int) == (65 : Int)) then
          bif Nat.blt 0 data.length then
            bif Nat.ble 33 data.length then
              (ref01Get (List.take 32 (List.drop 1 data))).bind fun r1 =>
              (ref05ILow r1.1).bind fun r2 =>
              bif (!r2) then
                some ((0, 0, false), (51 : Int))
              else
                bif Nat.blt 0 data.length then
                  (ref05Lift r1.1 ((data.getD 0 (0 : Int)) == (3 : Int))).bind fun r3 =>
                  some r3
                else none
            else none
          else none
        else
          bif Nat.ble 33 data.length then
            (ref01Get (List.take 32 (List.drop 1 data))).bind fun r4 =>
            (ref05ILow r4.1).bind fun r5 =>
            bif (!r5) then
              some ((0, 0, false), (51 : Int))
            else
              bif Nat.blt 0 data.length then
                (ref05Lift r4.1 ((data.getD 0 (0 : Int)) == (3 : Int))).bind fun r6 =>
                some r6
              else none
          else none
      else
        bif Nat.blt 0 data.length then
          bif (((data.length : Nat) : Int) == (65 : Int)) then
            bif Nat.blt 0 data.length then
              bif (!((data.getD 0 (0 : Int)) == (3 : Int))) then
                bif (!((data.getD 0 (0 : Int)) == (4 : Int))) then
                  some ((0, 0, false), (51 : Int))
                else
                  bif Nat.ble 33 data.length then
                    (ref01Get (List.take 32 (List.drop 1 data))).bind fun r7 =>
                    (ref05ILow r7.1).bind fun r8 =>
                    bif (!r8) then
                      some ((0, 0, false), (51 : Int))
                    else
                      bif ((data.getD 0 (0 : Int)) == (3 : Int)) then
                        bif Nat.blt 0 data.length then
                          (ref05Lift r7.1 ((data.getD 0 (0 : Int)) == (3 : Int))).bind fun r9 =>
                          some r9
                        else none
                      else
                        bif Nat.ble 65 data.length then
                          (ref01Get (List.take 32 (List.drop 33 data))).bind fun r10 =>
                          (ref05ILow r10.1).bind fun r11 =>
                          bif (!r11) then
                            some ((0, 0, false), (51 : Int))
                          else
                            (ref05On (r7.1, r10.1, false)).bind fun r12 =>
                            bif (!r12) then
                              some ((0, 0, false), (50 : Int))
                            else
                              some ((r7.1, r10.1, false), (0 : Int))
                        else none
                  else none
              else
                bif Nat.ble 33 data.length then
                  (ref01Get (List.take 32 (List.drop 1 data))).bind fun r13 =>
                  (ref05ILow r13.1).bind fun r14 =>
                  bif (!r14) then
                    some ((0, 0, false), (51 : Int))
                  else
                    bif ((data.getD 0 (0 : Int)) == (3 : Int)) then
                      bif Nat.blt 0 data.length then
                        (ref05Lift r13.1 ((data.getD 0 (0 : Int)) == (3 : Int))).bind fun r15 =>
                        some r15
                      else none
                    else
                      bif Nat.ble 65 data.length then
                        (ref01Get (List.take 32 (List.drop 33 data))).bind fun r16 =>
                        (ref05ILow r16.1).bind fun r17 =>
                        bif (!r17) then
                          some ((0, 0, false), (51 : Int))
                        else
                          (ref05On (r13.1, r16.1, false)).bind fun r18 =>
                          bif (!r18) then
                            some ((0, 0, false), (50 : Int))
                          else
                            some ((r13.1, r16.1, false), (0 : Int))
                      else none
                else none
            else none
          else
            bif (!((data.getD 0 (0 : Int)) == (3 : Int))) then
              some ((0, 0, false), (51 : Int))
            else
              bif Nat.ble 33 data.length then
                (ref01Get (List.take 32 (List.drop 1 data))).bind fun r19 =>
                (ref05ILow r19.1).bind fun r20 =>
                bif (!r20) then
                  some ((0, 0, false), (51 : Int))
                else
                  bif ((data.getD 0 (0 : Int)) == (3 : Int)) then
                    bif Nat.blt 0 data.length then
                      (ref05Lift r19.1 ((data.getD 0 (0 : Int)) == (3 : Int))).bind fun r21 =>
                      some r21
                    else none
                  else
                    bif Nat.ble 65 data.length then
                      (ref01Get (List.take 32 (List.drop 33 data))).bind fun r22 =>
                      (ref05ILow r22.1).bind fun r23 =>
                      bif (!r23) then
                        some ((0, 0, false), (51 : Int))
                      else
                        (ref05On (r19.1, r22.1, false)).bind fun r24 =>
                        bif (!r24) then
                          some ((0, 0, false), (50 : Int))
                        else
                          some ((r19.1, r22.1, false), (0 : Int))
                    else none
              else none
        else none
    else none
  else
    bif (((data.length : Nat) : Int) == (65 : Int)) then
      bif Nat.blt 0 data.length then
        bif (!((data.getD 0 (0 : Int)) == (4 : Int))) then
          some ((0, 0, false), (51 : Int))
        else
          bif Nat.ble 33 data.length then
            (ref01Get (List.take 32 (List.drop 1 data))).bind fun r25 =>
            (ref05ILow r25.1).bind fun r26 =>
            bif (!r26) then
              some ((0, 0, false), (51 : Int))
            else
              bif Nat.ble 65 data.length then
                (ref01Get (List.take 32 (List.drop 33 data))).bind fun r27 =>
                (ref05ILow r27.1).bind fun r28 =>
                bif (!r28) then
                  some ((0, 0, false), (51 : Int))
                else
                  (ref05On (r25.1, r27.1, false)).bind fun r29 =>
                  bif (!r29) then
                    some ((0, 0, false), (50 : Int))
                  else
                    some ((r25.1, r27.1, false), (0 : Int))
              else none
          else none
      else none
    else
      some ((0, 0, false), (51 : Int))

noncomputable def ref05Parse (data : List Int) : Option ((Nat × Nat × Bool) × Int) := hide (ref05ParseB data)

theorem ref05Parse_eq (data : List Int) : ref05Parse data = ref05ParseB data := hide_eq _

noncomputable def law05IStillL0R (data : List Int) (full : Nat × Nat) (i : Int) (l : List Int) : Option ((List Int × (Nat × Nat) × Int × List Int) ⊕ (List Int ⊕ List Int)) :=
  bif (decide (i < ((full.2 : Nat) : Int))) then
    bif (decide (i < ((data.length : Nat) : Int))) then
      bif decide (0 ≤ i) then
        bif Nat.blt (Int.toNat i) full.2 then
          bif Nat.blt (full.1 + (Int.toNat i)) l.length then
            bif decide (0 ≤ i) then
              bif Nat.blt (Int.toNat i) data.length then
                bif ((l.getD (full.1 + (Int.toNat i)) (0 : Int)) != (data.getD (Int.toNat i) (0 : Int))) then
                  some (.inr (.inl l))
                else
                  bif (decide (i ≥ ((data.length : Nat) : Int))) then
                    bif decide (0 ≤ i) then
                      bif Nat.blt (Int.toNat i) full.2 then
                        bif Nat.blt (full.1 + (Int.toNat i)) l.length then
                          bif ((l.getD (full.1 + (Int.toNat i)) (0 : Int)) != (195 : Int)) then
                            some (.inr (.inl l))
                          else
                            some (.inl (data, full, (IntKind.wrap .i64 (i + (1 : Int))), l))
                        else none
                      else none
                    else none
                  else
                    some (.inl (data, full, (IntKind.wrap .i64 (i + (1 : Int))), l))
              else none
            else none
          else none
        else none
      else none
    else
      bif (decide (i ≥ ((data.length : Nat) : Int))) then
        bif decide (0 ≤ i) then
          bif Nat.blt (Int.toNat i) full.2 then
            bif Nat.blt (full.1 + (Int.toNat i)) l.length then
              bif ((l.getD (full.1 + (Int.toNat i)) (0 : Int)) != (195 : Int)) then
                some (.inr (.inl l))
              else
                some (.inl (data, full, (IntKind.wrap .i64 (i + (1 : Int))), l))
            else none
          else none
        else none
      else
        some (.inl (data, full, (IntKind.wrap .i64 (i + (1 : Int))), l))
  else
    some (.inr (.inr l))

noncomputable def law05IStillL0 (data : List Int) (full : Nat × Nat) (i : Int) (l : List Int) : Option (List Int ⊕ List Int) := hide (iter (fun p : List Int × (Nat × Nat) × Int × List Int => law05IStillL0R p.1 p.2.1 p.2.2.1 p.2.2.2) (bigFuel) (data, full, i, l))

theorem law05IStillL0_eq (data : List Int) (full : Nat × Nat) (i : Int) (l : List Int) : law05IStillL0 data full i l = iter (fun p : List Int × (Nat × Nat) × Int × List Int => law05IStillL0R p.1 p.2.1 p.2.2.1 p.2.2.2) (bigFuel) (data, full, i, l) := hide_eq _

noncomputable def law05IStillB (l : Nat × Nat) (b0 : List Int) (data : List Int) : Option (Bool × List Int) :=
  bif (((l.2 : Nat) : Int) != ((data.length : Nat) : Int)) then
    some (false, b0)
  else
    bif decide (0 ≤ (IntKind.wrap .i64 (((data.length : Nat) : Int) + (70 : Int)))) then
      bif Nat.ble (Int.toNat (IntKind.wrap .i64 (((data.length : Nat) : Int) + (70 : Int)))) (b0.length - l.1) then
        (law05IStillL0 data ((l.1 + 0), ((Int.toNat (IntKind.wrap .i64 (((data.length : Nat) : Int) + (70 : Int)))) - 0)) (0 : Int) b0).bind fun q1 =>
        sumK q1 (fun q2 =>
          some (false, q2))
          (fun q3 =>
          some (true, q3))
      else none
    else none

noncomputable def law05IStill (l : Nat × Nat) (b0 : List Int) (data : List Int) : Option (Bool × List Int) := hide (law05IStillB l b0 data)

theorem law05IStill_eq (l : Nat × Nat) (b0 : List Int) (data : List Int) : law05IStill l b0 data = law05IStillB l b0 data := hide_eq _

noncomputable def law05IBackwardL0R (data : List Int) (i : Int) (b20 : List Int) : Option ((List Int × Int × List Int) ⊕ (List Int)) :=
  bif (decide (i ≥ (0 : Int))) then
    bif decide (0 ≤ i) then
      bif Nat.blt (Int.toNat i) data.length then
        bif roomB 1 (b20.length + [(data.getD (Int.toNat i) (0 : Int))].length) then
          some (.inl (data, (IntKind.wrap .i64 (i - (1 : Int))), (b20 ++ [(data.getD (Int.toNat i) (0 : Int))])))
        else none
      else none
    else none
  else
    some (.inr b20)

noncomputable def law05IBackwardL0 (data : List Int) (i : Int) (b20 : List Int) : Option (List Int) := hide (iter (fun p : List Int × Int × List Int => law05IBackwardL0R p.1 p.2.1 p.2.2) (bigFuel) (data, i, b20))

theorem law05IBackwardL0_eq (data : List Int) (i : Int) (b20 : List Int) : law05IBackwardL0 data i b20 = iter (fun p : List Int × Int × List Int => law05IBackwardL0R p.1 p.2.1 p.2.2) (bigFuel) (data, i, b20) := hide_eq _

noncomputable def law05IBackwardB (data : List Int) : Option (List Int) :=
  (law05IBackwardL0 data (IntKind.wrap .i64 (((data.length : Nat) : Int) - (1 : Int))) ([] : List Int)).bind fun q1 =>
  some q1

noncomputable def law05IBackward (data : List Int) : Option (List Int) := hide (law05IBackwardB data)

theorem law05IBackward_eq (data : List Int) : law05IBackward data = law05IBackwardB data := hide_eq _

noncomputable def law05CurveParsesB (data : List Int) : Option (Bool) :=
  (law05ILent data).bind fun r1 =>
  bif Nat.ble (r1.1.1 + r1.1.2) r1.2.length then
    (curveParse (List.take r1.1.2 (List.drop r1.1.1 r1.2))).bind fun r2 =>
    (ref05Parse data).bind fun r3 =>
    bif (!((u256eq r2.1.1 r3.1.1) && ((u256eq r2.1.2.1 r3.1.2.1) && (r2.1.2.2 == r3.1.2.2)))) then
      some false
    else
      (law05INum r2.2).bind fun r4 =>
      bif (r4 != r3.2) then
        some false
      else
        (law05IStill r1.1 r1.2 data).bind fun r5 =>
        bif (!r5.1) then
          some false
        else
          (law05IBackward data).bind fun r6 =>
          bif Nat.ble (r1.1.1 + r1.1.2) r5.2.length then
            bif Nat.ble (r1.1.1 + r1.1.2) ((spliceL r5.2 r1.1.1 (List.take r1.1.2 r6)).length) then
              (curveParse (List.take r1.1.2 (List.drop r1.1.1 (spliceL r5.2 r1.1.1 (List.take r1.1.2 r6))))).bind fun r7 =>
              (ref05Parse r6).bind fun r8 =>
              bif ((u256eq r7.1.1 r8.1.1) && ((u256eq r7.1.2.1 r8.1.2.1) && (r7.1.2.2 == r8.1.2.2))) then
                (law05INum r7.2).bind fun r9 =>
                bif (r9 == r8.2) then
                  (law05IStill r1.1 (spliceL r5.2 r1.1.1 (List.take r1.1.2 r6)) r6).bind fun r10 =>
                  some r10.1
                else
                  some false
              else
                some false
            else none
          else none
  else none

noncomputable def law05CurveParses (data : List Int) : Option (Bool) := hide (law05CurveParsesB data)

theorem law05CurveParses_eq (data : List Int) : law05CurveParses data = law05CurveParsesB data := hide_eq _

noncomputable def curveCompressB (p : Nat × Nat × Bool) : Option (Int × List Int) :=
  (curveOn p).bind fun r1 =>
  bif (!r1) then
    some ((50 : Int), ([] : List Int))
  else
    bif p.2.2 then
      some ((51 : Int), ([] : List Int))
    else
      (u256Put p.1).bind fun r2 =>
      bif roomB 1 ([(orI .u8 (2 : Int) (IntKind.wrap .u8 (andI .u64 (limb p.2.1 0) (1 : Int))))].length + (List.take 32 (List.drop 0 r2)).length) then
        some ((0 : Int), ([(orI .u8 (2 : Int) (IntKind.wrap .u8 (andI .u64 (limb p.2.1 0) (1 : Int))))] ++ (List.take 32 (List.drop 0 r2))))
      else none

noncomputable def curveCompress (p : Nat × Nat × Bool) : Option (Int × List Int) := hide (curveCompressB p)

theorem curveCompress_eq (p : Nat × Nat × Bool) : curveCompress p = curveCompressB p := hide_eq _

noncomputable def curveExpandB (p : Nat × Nat × Bool) : Option (Int × List Int) :=
  (curveOn p).bind fun r1 =>
  bif (!r1) then
    some ((50 : Int), ([] : List Int))
  else
    bif p.2.2 then
      some ((51 : Int), ([] : List Int))
    else
      (u256Put p.1).bind fun r2 =>
      (u256Put p.2.1).bind fun r3 =>
      bif roomB 1 ([(4 : Int)].length + (List.take 32 (List.drop 0 r2)).length) then
        bif roomB 1 (([(4 : Int)] ++ (List.take 32 (List.drop 0 r2))).length + (List.take 32 (List.drop 0 r3)).length) then
          some ((0 : Int), (([(4 : Int)] ++ (List.take 32 (List.drop 0 r2))) ++ (List.take 32 (List.drop 0 r3))))
        else none
      else none

noncomputable def curveExpand (p : Nat × Nat × Bool) : Option (Int × List Int) := hide (curveExpandB p)

theorem curveExpand_eq (p : Nat × Nat × Bool) : curveExpand p = curveExpandB p := hide_eq _

noncomputable def law05CurveBackB (p : Nat × Nat × Bool) : Option (Bool) :=
  (law05IBase).bind fun r1 =>
  bif (!r1) then
    some r1
  else
    (curveOn p).bind fun r2 =>
    bif (!r2) then
      some r1
    else
      bif p.2.2 then
        some r1
      else
        (curveCompress p).bind fun r3 =>
        (curveExpand p).bind fun r4 =>
        (law05INum r3.1).bind fun r5 =>
        bif (r5 != (0 : Int)) then
          some false
        else
          (law05INum r4.1).bind fun r6 =>
          bif (r6 != (0 : Int)) then
            some false
          else
            bif (((r3.2.length : Nat) : Int) != (33 : Int)) then
              some false
            else
              bif (((r4.2.length : Nat) : Int) != (65 : Int)) then
                some false
              else
                (curveParse r3.2).bind fun r7 =>
                (curveParse r4.2).bind fun r8 =>
                (curveLift p.1 ((Int.tmod (limb p.2.1 0) (2 : Int)) == (1 : Int))).bind fun r9 =>
                (curveLift p.1 (!((Int.tmod (limb p.2.1 0) (2 : Int)) == (1 : Int)))).bind fun r10 =>
                (curveNeg p).bind fun r11 =>
                (law05INum r7.2).bind fun r12 =>
                bif (r12 != (0 : Int)) then
                  some false
                else
                  (law05INum r8.2).bind fun r13 =>
                  bif (r13 != (0 : Int)) then
                    some false
                  else
                    (law05INum r9.2).bind fun r14 =>
                    bif (r14 != (0 : Int)) then
                      some false
                    else
                      (law05INum r10.2).bind fun r15 =>
                      bif (r15 != (0 : Int)) then
                        some false
                      else
                        (law05INum r11.2).bind fun r16 =>
                        bif (r16 != (0 : Int)) then
                          some false
                        else
                          bif ((u256eq r7.1.1 p.1) && ((u256eq r7.1.2.1 p.2.1) && (r7.1.2.2 == p.2.2))) then
                            bif ((u256eq r8.1.1 p.1) && ((u256eq r8.1.2.1 p.2.1) && (r8.1.2.2 == p.2.2))) then
                              bif ((u256eq r9.1.1 p.1) && ((u256eq r9.1.2.1 p.2.1) && (r9.1.2.2 == p.2.2))) then
                                bif ((u256eq r10.1.1 r11.1.1) && ((u256eq r10.1.2.1 r11.1.2.1) && (r10.1.2.2 == r11.1.2.2))) then
                                  some (!((u256eq r11.1.1 p.1) && ((u256eq r11.1.2.1 p.2.1) && (r11.1.2.2 == p.2.2))))
                                else
                                  some false
                              else
                                some false
                            else
                              some false
                          else
                            some false

noncomputable def law05CurveBack (p : Nat × Nat × Bool) : Option (Bool) := hide (law05CurveBackB p)

theorem law05CurveBack_eq (p : Nat × Nat × Bool) : law05CurveBack p = law05CurveBackB p := hide_eq _

noncomputable def law05ISameL0R (a : List Int) (b : List Int) (i : Int) : Option ((List Int × List Int × Int) ⊕ (Unit ⊕ Unit)) :=
  bif (decide (i < ((a.length : Nat) : Int))) then
    bif decide (0 ≤ i) then
      bif Nat.blt (Int.toNat i) a.length then
        bif decide (0 ≤ i) then
          bif Nat.blt (Int.toNat i) b.length then
            bif ((a.getD (Int.toNat i) (0 : Int)) != (b.getD (Int.toNat i) (0 : Int))) then
              some (.inr (.inl ()))
            else
              some (.inl (a, b, (IntKind.wrap .i64 (i + (1 : Int)))))
          else none
        else none
      else none
    else none
  else
    some (.inr (.inr ()))

noncomputable def law05ISameL0 (a : List Int) (b : List Int) (i : Int) : Option (Unit ⊕ Unit) := hide (iter (fun p : List Int × List Int × Int => law05ISameL0R p.1 p.2.1 p.2.2) (bigFuel) (a, b, i))

theorem law05ISameL0_eq (a : List Int) (b : List Int) (i : Int) : law05ISameL0 a b i = iter (fun p : List Int × List Int × Int => law05ISameL0R p.1 p.2.1 p.2.2) (bigFuel) (a, b, i) := hide_eq _

noncomputable def law05ISameB (a : List Int) (b : List Int) : Option (Bool) :=
  bif (((a.length : Nat) : Int) != ((b.length : Nat) : Int)) then
    some false
  else
    (law05ISameL0 a b (0 : Int)).bind fun q1 =>
    sumK q1 (fun q2 =>
      some false)
      (fun q3 =>
      some true)

noncomputable def law05ISame (a : List Int) (b : List Int) : Option (Bool) := hide (law05ISameB a b)

theorem law05ISame_eq (a : List Int) (b : List Int) : law05ISame a b = law05ISameB a b := hide_eq _

noncomputable def law05CurveOneB (data : List Int) : Option (Bool) :=
  (law05IBase).bind fun r1 =>
  (law05ILent data).bind fun r2 =>
  bif Nat.ble (r2.1.1 + r2.1.2) r2.2.length then
    (curveParse (List.take r2.1.2 (List.drop r2.1.1 r2.2))).bind fun r3 =>
    bif (!r1) then
      bif r1 then
        some ((u256eq r3.1.1 0) && ((u256eq r3.1.2.1 0) && (r3.1.2.2 == false)))
      else
        some false
    else
      (law05INum r3.2).bind fun r4 =>
      bif (r4 != (0 : Int)) then
        bif r1 then
          some ((u256eq r3.1.1 0) && ((u256eq r3.1.2.1 0) && (r3.1.2.2 == false)))
        else
          some false
      else
        (curveCompress r3.1).bind fun r5 =>
        bif (((data.length : Nat) : Int) == (65 : Int)) then
          (curveExpand r3.1).bind fun r6 =>
          (curveOn r3.1).bind fun r7 =>
          bif r7 then
            bif (!r3.1.2.2) then
              (law05INum r6.1).bind fun r8 =>
              bif (r8 == (0 : Int)) then
                (law05ISame r6.2 data).bind fun r9 =>
                some r9
              else
                some false
            else
              some false
          else
            some false
        else
          (curveOn r3.1).bind fun r10 =>
          bif r10 then
            bif (!r3.1.2.2) then
              (law05INum r5.1).bind fun r11 =>
              bif (r11 == (0 : Int)) then
                (law05ISame r5.2 data).bind fun r12 =>
                some r12
              else
                some false
            else
              some false
          else
            some false
  else none

noncomputable def law05CurveOne (data : List Int) : Option (Bool) := hide (law05CurveOneB data)

theorem law05CurveOne_eq (data : List Int) : law05CurveOne data = law05CurveOneB data := hide_eq _

end Go.Sy
