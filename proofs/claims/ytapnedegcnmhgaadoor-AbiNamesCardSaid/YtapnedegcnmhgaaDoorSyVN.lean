/- Typed functions, printed by a program out of the code: what each function of the code computes. -/
import Derived.Test.YtapnedegcnmhgaaDoorSyVT
set_option linter.unusedVariables false
namespace Go.Sy
open Go
def strC12 : List UInt8 := [40, 41]
noncomputable def abiILetterB (c : Int) : Option (Bool) :=
 bif (decide (c ≥ (97 : Int))) then
  bif (decide (c ≤ (122 : Int))) then
   some true
  else
   bif (decide (c ≥ (65 : Int))) then
    bif (decide (c ≤ (90 : Int))) then
     some true
    else
     bif (c == (95 : Int)) then
      some true
     else
      some (c == (36 : Int))
   else
    bif (c == (95 : Int)) then
     some true
    else
     some (c == (36 : Int))
 else
  bif (decide (c ≥ (65 : Int))) then
   bif (decide (c ≤ (90 : Int))) then
    some true
   else
    bif (c == (95 : Int)) then
     some true
    else
     some (c == (36 : Int))
  else
   bif (c == (95 : Int)) then
    some true
   else
    some (c == (36 : Int))
noncomputable def abiILetter (c : Int) : Option (Bool) := hide (abiILetterB c)
theorem abiILetter_eq (c : Int) : abiILetter c = abiILetterB c := hide_eq _
noncomputable def abiISignatureC1aB (a0 : List UInt8) (a1 : List KT) (a2 : Int) (rec : Unit) : Option (List UInt8 × List KT × Int) :=
 some (a0, a1, a2)
noncomputable def abiISignatureC1a (a0 : List UInt8) (a1 : List KT) (a2 : Int) (rec : Unit) : Option (List UInt8 × List KT × Int) := hide (abiISignatureC1aB a0 a1 a2 rec)
theorem abiISignatureC1a_eq (a0 : List UInt8) (a1 : List KT) (a2 : Int) (rec : Unit) : abiISignatureC1a a0 a1 a2 rec = abiISignatureC1aB a0 a1 a2 rec := hide_eq _
noncomputable def abiISignatureC1bB (a0 : List UInt8) (a1 : List KT) (a2 : Int) (rec : Unit) : Option (List UInt8 × List KT × Int) :=
 some (([] : List UInt8), ([] : List KT), (220 : Int))
noncomputable def abiISignatureC1b (a0 : List UInt8) (a1 : List KT) (a2 : Int) (rec : Unit) : Option (List UInt8 × List KT × Int) := hide (abiISignatureC1bB a0 a1 a2 rec)
theorem abiISignatureC1b_eq (a0 : List UInt8) (a1 : List KT) (a2 : Int) (rec : Unit) : abiISignatureC1b a0 a1 a2 rec = abiISignatureC1bB a0 a1 a2 rec := hide_eq _
noncomputable def abiISignatureL0R (text : List UInt8) (textB0 : List UInt8) (textB1 : List KT) (name : Int) (b9 : List UInt8 × Int) : Option ((List UInt8 × List UInt8 × List KT × Int × (List UInt8 × Int)) ⊕ (List UInt8 × List UInt8 × List KT × Int × List UInt8 × Int)) :=
 bif (decide (b9.2 < ((text.length : Nat) : Int))) then
  bif decide (0 ≤ b9.2) then
   bif Nat.blt (Int.toNat b9.2) text.length then
    (abiILetter (((List.getD text (Int.toNat b9.2) 0).toNat : Nat) : Int)).bind fun r2 =>
    bif r2 then
     some (.inl (text, textB0, textB1, name, (b9.1, (IntKind.wrap .i64 (b9.2 + (1 : Int))))))
    else
     bif (decide (b9.2 > (0 : Int))) then
      bif decide (0 ≤ b9.2) then
       bif Nat.blt (Int.toNat b9.2) text.length then
        bif (decide ((((List.getD text (Int.toNat b9.2) 0).toNat : Nat) : Int) ≥ (48 : Int))) then
         bif decide (0 ≤ b9.2) then
          bif Nat.blt (Int.toNat b9.2) text.length then
           bif (decide ((((List.getD text (Int.toNat b9.2) 0).toNat : Nat) : Int) ≤ (57 : Int))) then
            some (.inl (text, textB0, textB1, name, (b9.1, (IntKind.wrap .i64 (b9.2 + (1 : Int))))))
           else
            some (.inr (text, textB0, textB1, name, b9))
          else none
         else none
        else
         some (.inr (text, textB0, textB1, name, b9))
       else none
      else none
     else
      some (.inr (text, textB0, textB1, name, b9))
   else none
  else none
 else
  some (.inr (text, textB0, textB1, name, b9))
noncomputable def abiISignatureL0 (text : List UInt8) (textB0 : List UInt8) (textB1 : List KT) (name : Int) (b9 : List UInt8 × Int) : Option (List UInt8 × List UInt8 × List KT × Int × List UInt8 × Int) := hide (iter (fun p : List UInt8 × List UInt8 × List KT × Int × (List UInt8 × Int) => abiISignatureL0R p.1 p.2.1 p.2.2.1 p.2.2.2.1 p.2.2.2.2) (bigFuel) (text, textB0, textB1, name, b9))
theorem abiISignatureL0_eq (text : List UInt8) (textB0 : List UInt8) (textB1 : List KT) (name : Int) (b9 : List UInt8 × Int) : abiISignatureL0 text textB0 textB1 name b9 = iter (fun p : List UInt8 × List UInt8 × List KT × Int × (List UInt8 × Int) => abiISignatureL0R p.1 p.2.1 p.2.2.1 p.2.2.2.1 p.2.2.2.2) (bigFuel) (text, textB0, textB1, name, b9) := hide_eq _
noncomputable def abiISignatureB (text : List UInt8) : Option (List UInt8 × List KT × Int) :=
 (abiISignatureL0 text ([] : List UInt8) ([] : List KT) (0 : Int) (text, (0 : Int))).bind fun q3 =>
 bif (q3.2.2.2.2.2 == (0 : Int)) then
  (abiReaderFail q3.2.2.2.2).bind fun r4 =>
  sumK r4 (fun r5 =>
   bif decide (0 ≤ q3.2.2.2.2.2) then
    bif Nat.ble (Int.toNat q3.2.2.2.2.2) q3.1.length then
     (abiReaderRow q3.2.2.2.2).bind fun r7 =>
     sumK r7 (fun r8 =>
      bif (decide (((r8.1.length : Nat) : Int) > (0 : Int))) then
       (abiITupleOf r8.1).bind fun r10 =>
       (abiReaderSound r8.2 r10).bind fun r11 =>
       sumK r11 (fun r12 =>
        bif (decide (r8.2.2 < ((q3.1.length : Nat) : Int))) then
         (abiReaderFail r8.2).bind fun r14 =>
         sumK r14 (fun r15 =>
          (abiISignatureC1a (List.take ((Int.toNat q3.2.2.2.2.2) - 0) (List.drop 0 q3.1)) r8.1 (0 : Int) ()).bind fun r17 =>
          some r17)
          (fun r16 =>
          (abiISignatureC1b (List.take ((Int.toNat q3.2.2.2.2.2) - 0) (List.drop 0 q3.1)) r8.1 q3.2.2.2.1 ()).bind fun r18 =>
          some r18)
        else
         (abiISignatureC1a (List.take ((Int.toNat q3.2.2.2.2.2) - 0) (List.drop 0 q3.1)) r8.1 (0 : Int) ()).bind fun r19 =>
         some r19)
        (fun r13 =>
        (abiISignatureC1b (List.take ((Int.toNat q3.2.2.2.2.2) - 0) (List.drop 0 q3.1)) r8.1 q3.2.2.2.1 ()).bind fun r20 =>
        some r20)
      else
       bif (decide (r8.2.2 < ((q3.1.length : Nat) : Int))) then
        (abiReaderFail r8.2).bind fun r21 =>
        sumK r21 (fun r22 =>
         (abiISignatureC1a (List.take ((Int.toNat q3.2.2.2.2.2) - 0) (List.drop 0 q3.1)) r8.1 (0 : Int) ()).bind fun r24 =>
         some r24)
         (fun r23 =>
         (abiISignatureC1b (List.take ((Int.toNat q3.2.2.2.2.2) - 0) (List.drop 0 q3.1)) r8.1 q3.2.2.2.1 ()).bind fun r25 =>
         some r25)
       else
        (abiISignatureC1a (List.take ((Int.toNat q3.2.2.2.2.2) - 0) (List.drop 0 q3.1)) r8.1 (0 : Int) ()).bind fun r26 =>
        some r26)
      (fun r9 =>
      (abiISignatureC1b (List.take ((Int.toNat q3.2.2.2.2.2) - 0) (List.drop 0 q3.1)) q3.2.2.1 q3.2.2.2.1 ()).bind fun r27 =>
      some r27)
    else none
   else none)
   (fun r6 =>
   (abiISignatureC1b q3.2.1 q3.2.2.1 q3.2.2.2.1 ()).bind fun r28 =>
   some r28)
 else
  bif (decide (((q3.1.length : Nat) : Int) > (4096 : Int))) then
   (abiReaderFail q3.2.2.2.2).bind fun r29 =>
   sumK r29 (fun r30 =>
    bif decide (0 ≤ q3.2.2.2.2.2) then
     bif Nat.ble (Int.toNat q3.2.2.2.2.2) q3.1.length then
      (abiReaderRow q3.2.2.2.2).bind fun r32 =>
      sumK r32 (fun r33 =>
       bif (decide (((r33.1.length : Nat) : Int) > (0 : Int))) then
        (abiITupleOf r33.1).bind fun r35 =>
        (abiReaderSound r33.2 r35).bind fun r36 =>
        sumK r36 (fun r37 =>
         bif (decide (r33.2.2 < ((q3.1.length : Nat) : Int))) then
          (abiReaderFail r33.2).bind fun r39 =>
          sumK r39 (fun r40 =>
           (abiISignatureC1a (List.take ((Int.toNat q3.2.2.2.2.2) - 0) (List.drop 0 q3.1)) r33.1 (0 : Int) ()).bind fun r42 =>
           some r42)
           (fun r41 =>
           (abiISignatureC1b (List.take ((Int.toNat q3.2.2.2.2.2) - 0) (List.drop 0 q3.1)) r33.1 q3.2.2.2.1 ()).bind fun r43 =>
           some r43)
         else
          (abiISignatureC1a (List.take ((Int.toNat q3.2.2.2.2.2) - 0) (List.drop 0 q3.1)) r33.1 (0 : Int) ()).bind fun r44 =>
          some r44)
         (fun r38 =>
         (abiISignatureC1b (List.take ((Int.toNat q3.2.2.2.2.2) - 0) (List.drop 0 q3.1)) r33.1 q3.2.2.2.1 ()).bind fun r45 =>
         some r45)
       else
        bif (decide (r33.2.2 < ((q3.1.length : Nat) : Int))) then
         (abiReaderFail r33.2).bind fun r46 =>
         sumK r46 (fun r47 =>
          (abiISignatureC1a (List.take ((Int.toNat q3.2.2.2.2.2) - 0) (List.drop 0 q3.1)) r33.1 (0 : Int) ()).bind fun r49 =>
          some r49)
          (fun r48 =>
          (abiISignatureC1b (List.take ((Int.toNat q3.2.2.2.2.2) - 0) (List.drop 0 q3.1)) r33.1 q3.2.2.2.1 ()).bind fun r50 =>
          some r50)
        else
         (abiISignatureC1a (List.take ((Int.toNat q3.2.2.2.2.2) - 0) (List.drop 0 q3.1)) r33.1 (0 : Int) ()).bind fun r51 =>
         some r51)
       (fun r34 =>
       (abiISignatureC1b (List.take ((Int.toNat q3.2.2.2.2.2) - 0) (List.drop 0 q3.1)) q3.2.2.1 q3.2.2.2.1 ()).bind fun r52 =>
       some r52)
     else none
    else none)
    (fun r31 =>
    (abiISignatureC1b q3.2.1 q3.2.2.1 q3.2.2.2.1 ()).bind fun r53 =>
    some r53)
  else
   bif decide (0 ≤ q3.2.2.2.2.2) then
    bif Nat.ble (Int.toNat q3.2.2.2.2.2) q3.1.length then
     (abiReaderRow q3.2.2.2.2).bind fun r54 =>
     sumK r54 (fun r55 =>
      bif (decide (((r55.1.length : Nat) : Int) > (0 : Int))) then
       (abiITupleOf r55.1).bind fun r57 =>
       (abiReaderSound r55.2 r57).bind fun r58 =>
       sumK r58 (fun r59 =>
        bif (decide (r55.2.2 < ((q3.1.length : Nat) : Int))) then
         (abiReaderFail r55.2).bind fun r61 =>
         sumK r61 (fun r62 =>
          (abiISignatureC1a (List.take ((Int.toNat q3.2.2.2.2.2) - 0) (List.drop 0 q3.1)) r55.1 (0 : Int) ()).bind fun r64 =>
          some r64)
          (fun r63 =>
          (abiISignatureC1b (List.take ((Int.toNat q3.2.2.2.2.2) - 0) (List.drop 0 q3.1)) r55.1 q3.2.2.2.1 ()).bind fun r65 =>
          some r65)
        else
         (abiISignatureC1a (List.take ((Int.toNat q3.2.2.2.2.2) - 0) (List.drop 0 q3.1)) r55.1 (0 : Int) ()).bind fun r66 =>
         some r66)
        (fun r60 =>
        (abiISignatureC1b (List.take ((Int.toNat q3.2.2.2.2.2) - 0) (List.drop 0 q3.1)) r55.1 q3.2.2.2.1 ()).bind fun r67 =>
        some r67)
      else
       bif (decide (r55.2.2 < ((q3.1.length : Nat) : Int))) then
        (abiReaderFail r55.2).bind fun r68 =>
        sumK r68 (fun r69 =>
         (abiISignatureC1a (List.take ((Int.toNat q3.2.2.2.2.2) - 0) (List.drop 0 q3.1)) r55.1 (0 : Int) ()).bind fun r71 =>
         some r71)
         (fun r70 =>
         (abiISignatureC1b (List.take ((Int.toNat q3.2.2.2.2.2) - 0) (List.drop 0 q3.1)) r55.1 q3.2.2.2.1 ()).bind fun r72 =>
         some r72)
       else
        (abiISignatureC1a (List.take ((Int.toNat q3.2.2.2.2.2) - 0) (List.drop 0 q3.1)) r55.1 (0 : Int) ()).bind fun r73 =>
        some r73)
      (fun r56 =>
      (abiISignatureC1b (List.take ((Int.toNat q3.2.2.2.2.2) - 0) (List.drop 0 q3.1)) q3.2.2.1 q3.2.2.2.1 ()).bind fun r74 =>
      some r74)
    else none
   else none
noncomputable def abiISignature (text : List UInt8) : Option (List UInt8 × List KT × Int) := hide (abiISignatureB text)
theorem abiISignature_eq (text : List UInt8) : abiISignature text = abiISignatureB text := hide_eq _
noncomputable def abiSignatureL0R (name : List UInt8) (s20 : List KT) (s21 : Int) (s22 : Int) (b41 : List (List UInt8)) : Option ((List UInt8 × List KT × Int × Int × List (List UInt8)) ⊕ (List UInt8 × List (List UInt8))) :=
 bif (decide (s22 < s21)) then
  bif decide (0 ≤ s22) then
   bif Nat.blt (Int.toNat s22) s20.length then
    bif (KT.ok (s20.getD (Int.toNat s22) KT.none)) then
     bif roomB 16 (b41.length + [(KT.text (s20.getD (Int.toNat s22) KT.none))].length) then
      some (.inl (name, s20, s21, (IntKind.wrap .i64 (s22 + (1 : Int))), (b41 ++ [(KT.text (s20.getD (Int.toNat s22) KT.none))])))
     else none
    else none
   else none
  else none
 else
  some (.inr (name, b41))
noncomputable def abiSignatureL0 (name : List UInt8) (s20 : List KT) (s21 : Int) (s22 : Int) (b41 : List (List UInt8)) : Option (List UInt8 × List (List UInt8)) := hide (iter (fun p : List UInt8 × List KT × Int × Int × List (List UInt8) => abiSignatureL0R p.1 p.2.1 p.2.2.1 p.2.2.2.1 p.2.2.2.2) (bigFuel) (name, s20, s21, s22, b41))
theorem abiSignatureL0_eq (name : List UInt8) (s20 : List KT) (s21 : Int) (s22 : Int) (b41 : List (List UInt8)) : abiSignatureL0 name s20 s21 s22 b41 = iter (fun p : List UInt8 × List KT × Int × Int × List (List UInt8) => abiSignatureL0R p.1 p.2.1 p.2.2.1 p.2.2.2.1 p.2.2.2.2) (bigFuel) (name, s20, s21, s22, b41) := hide_eq _
noncomputable def abiSignatureB (text : List UInt8) : Option (List UInt8 × List (List UInt8) × Int) :=
 (abiISignature text).bind fun r1 =>
 bif (r1.2.2 != (0 : Int)) then
  some (([] : List UInt8), ([] : List (List UInt8)), r1.2.2)
 else
  (abiSignatureL0 r1.1 r1.2.1 ((r1.2.1.length : Nat) : Int) (0 : Int) ([] : List (List UInt8))).bind fun q2 =>
  bif Nat.ble (q2.1.length + strC1.length) 9223372036854775807 then
   (goJoin q2.2 strC0).bind fun r3 =>
   bif Nat.ble ((q2.1 ++ strC1).length + r3.length) 9223372036854775807 then
    bif Nat.ble (((q2.1 ++ strC1) ++ r3).length + strC2.length) 9223372036854775807 then
     some ((((q2.1 ++ strC1) ++ r3) ++ strC2), q2.2, (0 : Int))
    else none
   else none
  else none
noncomputable def abiSignature (text : List UInt8) : Option (List UInt8 × List (List UInt8) × Int) := hide (abiSignatureB text)
theorem abiSignature_eq (text : List UInt8) : abiSignature text = abiSignatureB text := hide_eq _
noncomputable def ref22ILetterB (c : Int) : Option (Bool) :=
 bif (decide (c ≥ (97 : Int))) then
  bif (decide (c ≤ (122 : Int))) then
   some true
  else
   bif (decide (c ≥ (65 : Int))) then
    bif (decide (c ≤ (90 : Int))) then
     some true
    else
     bif (c == (95 : Int)) then
      some true
     else
      some (c == (36 : Int))
   else
    bif (c == (95 : Int)) then
     some true
    else
     some (c == (36 : Int))
 else
  bif (decide (c ≥ (65 : Int))) then
   bif (decide (c ≤ (90 : Int))) then
    some true
   else
    bif (c == (95 : Int)) then
     some true
    else
     some (c == (36 : Int))
  else
   bif (c == (95 : Int)) then
    some true
   else
    some (c == (36 : Int))
noncomputable def ref22ILetter (c : Int) : Option (Bool) := hide (ref22ILetterB c)
theorem ref22ILetter_eq (c : Int) : ref22ILetter c = ref22ILetterB c := hide_eq _
noncomputable def ref22NamedL0R (text : List UInt8) (n : Int) : Option ((List UInt8 × Int) ⊕ (List UInt8 × Int)) :=
 bif (decide (n < ((text.length : Nat) : Int))) then
  bif decide (0 ≤ n) then
   bif Nat.blt (Int.toNat n) text.length then
    (ref22ILetter (((List.getD text (Int.toNat n) 0).toNat : Nat) : Int)).bind fun r4 =>
    bif r4 then
     some (.inl (text, (IntKind.wrap .i64 (n + (1 : Int)))))
    else
     bif decide (0 ≤ n) then
      bif Nat.blt (Int.toNat n) text.length then
       (ref22IDigit (((List.getD text (Int.toNat n) 0).toNat : Nat) : Int)).bind fun r5 =>
       bif r5 then
        some (.inl (text, (IntKind.wrap .i64 (n + (1 : Int)))))
       else
        some (.inr (text, n))
      else none
     else none
   else none
  else none
 else
  some (.inr (text, n))
noncomputable def ref22NamedL0 (text : List UInt8) (n : Int) : Option (List UInt8 × Int) := hide (iter (fun p : List UInt8 × Int => ref22NamedL0R p.1 p.2) (bigFuel) (text, n))
theorem ref22NamedL0_eq (text : List UInt8) (n : Int) : ref22NamedL0 text n = iter (fun p : List UInt8 × Int => ref22NamedL0R p.1 p.2) (bigFuel) (text, n) := hide_eq _
noncomputable def ref22NamedB (text : List UInt8) : Option (List UInt8 × List RT × Int) :=
 bif (decide (((text.length : Nat) : Int) > (4096 : Int))) then
  some (([] : List UInt8), ([] : List RT), (220 : Int))
 else
  bif (((text.length : Nat) : Int) == (0 : Int)) then
   some (([] : List UInt8), ([] : List RT), (220 : Int))
  else
   bif Nat.blt 0 text.length then
    (ref22ILetter (((List.getD text 0 0).toNat : Nat) : Int)).bind fun r1 =>
    bif (!r1) then
     some (([] : List UInt8), ([] : List RT), (220 : Int))
    else
     (ref22NamedL0 text (1 : Int)).bind fun q6 =>
     bif decide (0 ≤ q6.2) then
      bif Nat.ble (Int.toNat q6.2) q6.1.length then
       bif ((List.take (q6.1.length - (Int.toNat q6.2)) (List.drop (Int.toNat q6.2) q6.1)) == strC12) then
        bif decide (0 ≤ q6.2) then
         bif Nat.ble (Int.toNat q6.2) q6.1.length then
          some ((List.take ((Int.toNat q6.2) - 0) (List.drop 0 q6.1)), ([] : List RT), (0 : Int))
         else none
        else none
       else
        bif decide (0 ≤ q6.2) then
         bif Nat.ble (Int.toNat q6.2) q6.1.length then
          (ref22Read (List.take (q6.1.length - (Int.toNat q6.2)) (List.drop (Int.toNat q6.2) q6.1))).bind fun r7 =>
          bif (r7.2 != (0 : Int)) then
           some (([] : List UInt8), ([] : List RT), (220 : Int))
          else
           bif ((RT.kind r7.1) != (10 : Int)) then
            some (([] : List UInt8), ([] : List RT), (220 : Int))
           else
            bif decide (0 ≤ q6.2) then
             bif Nat.ble (Int.toNat q6.2) q6.1.length then
              some ((List.take ((Int.toNat q6.2) - 0) (List.drop 0 q6.1)), (RT.ins r7.1), (0 : Int))
             else none
            else none
         else none
        else none
      else none
     else none
   else none
noncomputable def ref22Named (text : List UInt8) : Option (List UInt8 × List RT × Int) := hide (ref22NamedB text)
theorem ref22Named_eq (text : List UInt8) : ref22Named text = ref22NamedB text := hide_eq _
noncomputable def ref22SignatureL0R (name : List UInt8) (types : List RT) (i : Int) (b40 : List (List UInt8)) : Option ((List UInt8 × List RT × Int × List (List UInt8)) ⊕ (List UInt8 × List RT × List (List UInt8))) :=
 bif (decide (i < ((types.length : Nat) : Int))) then
  bif decide (0 ≤ i) then
   bif Nat.blt (Int.toNat i) types.length then
    (ref22Text (types.getD (Int.toNat i) (RT.mk 0 0 []))).bind fun r3 =>
    bif roomB 16 (b40.length + [r3].length) then
     some (.inl (name, types, (IntKind.wrap .i64 (i + (1 : Int))), (b40 ++ [r3])))
    else none
   else none
  else none
 else
  some (.inr (name, types, b40))
noncomputable def ref22SignatureL0 (name : List UInt8) (types : List RT) (i : Int) (b40 : List (List UInt8)) : Option (List UInt8 × List RT × List (List UInt8)) := hide (iter (fun p : List UInt8 × List RT × Int × List (List UInt8) => ref22SignatureL0R p.1 p.2.1 p.2.2.1 p.2.2.2) (bigFuel) (name, types, i, b40))
theorem ref22SignatureL0_eq (name : List UInt8) (types : List RT) (i : Int) (b40 : List (List UInt8)) : ref22SignatureL0 name types i b40 = iter (fun p : List UInt8 × List RT × Int × List (List UInt8) => ref22SignatureL0R p.1 p.2.1 p.2.2.1 p.2.2.2) (bigFuel) (name, types, i, b40) := hide_eq _
noncomputable def ref22SignatureB (text : List UInt8) : Option (List UInt8 × List (List UInt8) × Int) :=
 (ref22Named text).bind fun r1 =>
 bif (r1.2.2 != (0 : Int)) then
  some (([] : List UInt8), ([] : List (List UInt8)), r1.2.2)
 else
  (ref22SignatureL0 r1.1 r1.2.1 (0 : Int) ([] : List (List UInt8))).bind fun q4 =>
  bif Nat.ble (q4.1.length + strC1.length) 9223372036854775807 then
   (ref22ITexts q4.2.1).bind fun r5 =>
   bif Nat.ble ((q4.1 ++ strC1).length + r5.length) 9223372036854775807 then
    bif Nat.ble (((q4.1 ++ strC1) ++ r5).length + strC2.length) 9223372036854775807 then
     some ((((q4.1 ++ strC1) ++ r5) ++ strC2), q4.2.2, (0 : Int))
    else none
   else none
  else none
noncomputable def ref22Signature (text : List UInt8) : Option (List UInt8 × List (List UInt8) × Int) := hide (ref22SignatureB text)
theorem ref22Signature_eq (text : List UInt8) : ref22Signature text = ref22SignatureB text := hide_eq _
noncomputable def law22IWordsL0R (a : List (List UInt8)) (b : List (List UInt8)) (i : Int) : Option ((List (List UInt8) × List (List UInt8) × Int) ⊕ (Unit ⊕ Unit)) :=
 bif (decide (i < ((a.length : Nat) : Int))) then
  bif decide (0 ≤ i) then
   bif Nat.blt (Int.toNat i) a.length then
    bif decide (0 ≤ i) then
     bif Nat.blt (Int.toNat i) b.length then
      bif (!((a.getD (Int.toNat i) ([] : List UInt8)) == (b.getD (Int.toNat i) ([] : List UInt8)))) then
       some (.inr (.inl ()))
      else
       some (.inl (a, b, (IntKind.wrap .i64 (i + (1 : Int)))))
     else none
    else none
   else none
  else none
 else
  some (.inr (.inr ()))
noncomputable def law22IWordsL0 (a : List (List UInt8)) (b : List (List UInt8)) (i : Int) : Option (Unit ⊕ Unit) := hide (iter (fun p : List (List UInt8) × List (List UInt8) × Int => law22IWordsL0R p.1 p.2.1 p.2.2) (bigFuel) (a, b, i))
theorem law22IWordsL0_eq (a : List (List UInt8)) (b : List (List UInt8)) (i : Int) : law22IWordsL0 a b i = iter (fun p : List (List UInt8) × List (List UInt8) × Int => law22IWordsL0R p.1 p.2.1 p.2.2) (bigFuel) (a, b, i) := hide_eq _
noncomputable def law22IWordsB (a : List (List UInt8)) (b : List (List UInt8)) : Option (Bool) :=
 bif (((a.length : Nat) : Int) != ((b.length : Nat) : Int)) then
  some false
 else
  (law22IWordsL0 a b (0 : Int)).bind fun q1 =>
  sumK q1 (fun q2 =>
   some false)
   (fun q3 =>
   some true)
noncomputable def law22IWords (a : List (List UInt8)) (b : List (List UInt8)) : Option (Bool) := hide (law22IWordsB a b)
theorem law22IWords_eq (a : List (List UInt8)) (b : List (List UInt8)) : law22IWords a b = law22IWordsB a b := hide_eq _
noncomputable def keccakIWaysB  : Option (List Int × List Int) :=
 some (((((((((((((((((((((((((((List.replicate 25 (0 : Int)).set 0 (0 : Int)).set 1 (1 : Int)).set 2 (62 : Int)).set 3 (28 : Int)).set 4 (27 : Int)).set 5 (36 : Int)).set 6 (44 : Int)).set 7 (6 : Int)).set 8 (55 : Int)).set 9 (20 : Int)).set 10 (3 : Int)).set 11 (10 : Int)).set 12 (43 : Int)).set 13 (25 : Int)).set 14 (39 : Int)).set 15 (41 : Int)).set 16 (45 : Int)).set 17 (15 : Int)).set 18 (21 : Int)).set 19 (8 : Int)).set 20 (18 : Int)).set 21 (2 : Int)).set 22 (61 : Int)).set 23 (56 : Int)).set 24 (14 : Int)), ((((((((((((((((((((((((((List.replicate 25 (0 : Int)).set 0 (0 : Int)).set 5 (16 : Int)).set 10 (7 : Int)).set 15 (23 : Int)).set 20 (14 : Int)).set 1 (10 : Int)).set 6 (1 : Int)).set 11 (17 : Int)).set 16 (8 : Int)).set 21 (24 : Int)).set 2 (20 : Int)).set 7 (11 : Int)).set 12 (2 : Int)).set 17 (18 : Int)).set 22 (9 : Int)).set 3 (5 : Int)).set 8 (21 : Int)).set 13 (12 : Int)).set 18 (3 : Int)).set 23 (19 : Int)).set 4 (15 : Int)).set 9 (6 : Int)).set 14 (22 : Int)).set 19 (13 : Int)).set 24 (4 : Int)))
noncomputable def keccakIWays  : Option (List Int × List Int) := hide (keccakIWaysB )
theorem keccakIWays_eq  : keccakIWays  = keccakIWaysB  := hide_eq _
noncomputable def keccakINumbersB  : Option (List Int) :=
 some (((((((((((((((((((((((((List.replicate 24 (0 : Int)).set 0 (1 : Int)).set 1 (32898 : Int)).set 2 (9223372036854808714 : Int)).set 3 (9223372039002292224 : Int)).set 4 (32907 : Int)).set 5 (2147483649 : Int)).set 6 (9223372039002292353 : Int)).set 7 (9223372036854808585 : Int)).set 8 (138 : Int)).set 9 (136 : Int)).set 10 (2147516425 : Int)).set 11 (2147483658 : Int)).set 12 (2147516555 : Int)).set 13 (9223372036854775947 : Int)).set 14 (9223372036854808713 : Int)).set 15 (9223372036854808579 : Int)).set 16 (9223372036854808578 : Int)).set 17 (9223372036854775936 : Int)).set 18 (32778 : Int)).set 19 (9223372039002259466 : Int)).set 20 (9223372039002292353 : Int)).set 21 (9223372036854808704 : Int)).set 22 (2147483649 : Int)).set 23 (9223372039002292232 : Int))
noncomputable def keccakINumbers  : Option (List Int) := hide (keccakINumbersB )
theorem keccakINumbers_eq  : keccakINumbers  = keccakINumbersB  := hide_eq _
noncomputable def bitsRotateLeft64B (x : Int) (k : Int) : Option (Int) :=
 bif decide ((andI .u64 (IntKind.wrap .u64 k) (63 : Int)) < 0) then
  none
 else
  bif decide ((IntKind.wrap .u64 ((64 : Int) - (andI .u64 (IntKind.wrap .u64 k) (63 : Int)))) < 0) then
   none
  else
   some (orI .u64 (shlI .u64 x (andI .u64 (IntKind.wrap .u64 k) (63 : Int))) (shrI .u64 x (IntKind.wrap .u64 ((64 : Int) - (andI .u64 (IntKind.wrap .u64 k) (63 : Int))))))
noncomputable def bitsRotateLeft64 (x : Int) (k : Int) : Option (Int) := hide (bitsRotateLeft64B x k)
theorem bitsRotateLeft64_eq (x : Int) (k : Int) : bitsRotateLeft64 x k = bitsRotateLeft64B x k := hide_eq _
noncomputable def keccakPermuteL1R (number : Int) (s19 : List Int) (s20 : Int) (s23 : List Int) (s24 : Int) (lanes : List Int) (b2 : List Int) (turns : List Int) (goes : List Int) (sums : List Int) : Option ((Int × List Int × Int × List Int × Int × List Int × List Int × List Int × List Int × List Int) ⊕ (Int × List Int × Int × List Int × List Int × List Int × List Int × List Int)) :=
 bif (decide (s24 < (25 : Int))) then
  bif decide (0 ≤ s24) then
   bif Nat.blt (Int.toNat s24) 25 then
    bif Nat.blt (Int.toNat s24) 25 then
     bif decide (0 ≤ (Int.tmod s24 (5 : Int))) then
      bif Nat.blt (Int.toNat (Int.tmod s24 (5 : Int))) 5 then
       bif Nat.blt (Int.toNat (Int.tmod s24 (5 : Int))) 5 then
        bif decide (0 ≤ (Int.tmod s24 (5 : Int))) then
         bif Nat.blt (Int.toNat (Int.tmod s24 (5 : Int))) 5 then
          bif Nat.blt (Int.toNat (Int.tmod s24 (5 : Int))) 5 then
           some (.inl (number, s19, s20, s23, (IntKind.wrap .i64 (s24 + (1 : Int))), lanes, b2, turns, goes, (sums.set (Int.toNat (Int.tmod s24 (5 : Int))) (xorI .u64 (sums.getD (Int.toNat (Int.tmod s24 (5 : Int))) (0 : Int)) (s23.getD (Int.toNat s24) (0 : Int))))))
          else none
         else none
        else none
       else none
      else none
     else none
    else none
   else none
  else none
 else
  some (.inr (number, s19, s20, lanes, b2, turns, goes, sums))
noncomputable def keccakPermuteL1 (number : Int) (s19 : List Int) (s20 : Int) (s23 : List Int) (s24 : Int) (lanes : List Int) (b2 : List Int) (turns : List Int) (goes : List Int) (sums : List Int) : Option (Int × List Int × Int × List Int × List Int × List Int × List Int × List Int) := hide (iter (fun p : Int × List Int × Int × List Int × Int × List Int × List Int × List Int × List Int × List Int => keccakPermuteL1R p.1 p.2.1 p.2.2.1 p.2.2.2.1 p.2.2.2.2.1 p.2.2.2.2.2.1 p.2.2.2.2.2.2.1 p.2.2.2.2.2.2.2.1 p.2.2.2.2.2.2.2.2.1 p.2.2.2.2.2.2.2.2.2) (bigFuel) (number, s19, s20, s23, s24, lanes, b2, turns, goes, sums))
theorem keccakPermuteL1_eq (number : Int) (s19 : List Int) (s20 : Int) (s23 : List Int) (s24 : Int) (lanes : List Int) (b2 : List Int) (turns : List Int) (goes : List Int) (sums : List Int) : keccakPermuteL1 number s19 s20 s23 s24 lanes b2 turns goes sums = iter (fun p : Int × List Int × Int × List Int × Int × List Int × List Int × List Int × List Int × List Int => keccakPermuteL1R p.1 p.2.1 p.2.2.1 p.2.2.2.1 p.2.2.2.2.1 p.2.2.2.2.2.1 p.2.2.2.2.2.2.1 p.2.2.2.2.2.2.2.1 p.2.2.2.2.2.2.2.2.1 p.2.2.2.2.2.2.2.2.2) (bigFuel) (number, s19, s20, s23, s24, lanes, b2, turns, goes, sums) := hide_eq _
noncomputable def keccakPermuteL2R (number : Int) (s19 : List Int) (s20 : Int) (s36 : List Int) (s37 : Int) (lanes : List Int) (b2 : List Int) (turns : List Int) (goes : List Int) (sums : List Int) (turned : List Int) : Option ((Int × List Int × Int × List Int × Int × List Int × List Int × List Int × List Int × List Int × List Int) ⊕ (Int × List Int × Int × List Int × List Int × List Int × List Int × List Int)) :=
 bif (decide (s37 < (25 : Int))) then
  bif decide (0 ≤ s37) then
   bif Nat.blt (Int.toNat s37) 25 then
    bif Nat.blt (Int.toNat s37) 25 then
     bif decide (0 ≤ (Int.tmod (IntKind.wrap .i64 (s37 + (4 : Int))) (5 : Int))) then
      bif Nat.blt (Int.toNat (Int.tmod (IntKind.wrap .i64 (s37 + (4 : Int))) (5 : Int))) 5 then
       bif Nat.blt (Int.toNat (Int.tmod (IntKind.wrap .i64 (s37 + (4 : Int))) (5 : Int))) 5 then
        bif decide (0 ≤ (Int.tmod (IntKind.wrap .i64 (s37 + (1 : Int))) (5 : Int))) then
         bif Nat.blt (Int.toNat (Int.tmod (IntKind.wrap .i64 (s37 + (1 : Int))) (5 : Int))) 5 then
          bif Nat.blt (Int.toNat (Int.tmod (IntKind.wrap .i64 (s37 + (1 : Int))) (5 : Int))) 5 then
           (bitsRotateLeft64 (sums.getD (Int.toNat (Int.tmod (IntKind.wrap .i64 (s37 + (1 : Int))) (5 : Int))) (0 : Int)) (1 : Int)).bind fun r6 =>
           bif decide (0 ≤ s37) then
            bif Nat.blt (Int.toNat s37) 25 then
             bif Nat.blt (Int.toNat s37) 25 then
              bif decide (0 ≤ s37) then
               bif Nat.blt (Int.toNat s37) 25 then
                bif Nat.blt (Int.toNat s37) 25 then
                 (bitsRotateLeft64 (xorI .u64 (s36.getD (Int.toNat s37) (0 : Int)) (xorI .u64 (sums.getD (Int.toNat (Int.tmod (IntKind.wrap .i64 (s37 + (4 : Int))) (5 : Int))) (0 : Int)) r6)) (turns.getD (Int.toNat s37) (0 : Int))).bind fun r7 =>
                 bif decide (0 ≤ (goes.getD (Int.toNat s37) (0 : Int))) then
                  bif Nat.blt (Int.toNat (goes.getD (Int.toNat s37) (0 : Int))) 25 then
                   bif Nat.blt (Int.toNat (goes.getD (Int.toNat s37) (0 : Int))) 25 then
                    some (.inl (number, s19, s20, s36, (IntKind.wrap .i64 (s37 + (1 : Int))), lanes, b2, turns, goes, sums, (turned.set (Int.toNat (goes.getD (Int.toNat s37) (0 : Int))) r7)))
                   else none
                  else none
                 else none
                else none
               else none
              else none
             else none
            else none
           else none
          else none
         else none
        else none
       else none
      else none
     else none
    else none
   else none
  else none
 else
  some (.inr (number, s19, s20, lanes, b2, turns, goes, turned))
noncomputable def keccakPermuteL2 (number : Int) (s19 : List Int) (s20 : Int) (s36 : List Int) (s37 : Int) (lanes : List Int) (b2 : List Int) (turns : List Int) (goes : List Int) (sums : List Int) (turned : List Int) : Option (Int × List Int × Int × List Int × List Int × List Int × List Int × List Int) := hide (iter (fun p : Int × List Int × Int × List Int × Int × List Int × List Int × List Int × List Int × List Int × List Int => keccakPermuteL2R p.1 p.2.1 p.2.2.1 p.2.2.2.1 p.2.2.2.2.1 p.2.2.2.2.2.1 p.2.2.2.2.2.2.1 p.2.2.2.2.2.2.2.1 p.2.2.2.2.2.2.2.2.1 p.2.2.2.2.2.2.2.2.2.1 p.2.2.2.2.2.2.2.2.2.2) (bigFuel) (number, s19, s20, s36, s37, lanes, b2, turns, goes, sums, turned))
theorem keccakPermuteL2_eq (number : Int) (s19 : List Int) (s20 : Int) (s36 : List Int) (s37 : Int) (lanes : List Int) (b2 : List Int) (turns : List Int) (goes : List Int) (sums : List Int) (turned : List Int) : keccakPermuteL2 number s19 s20 s36 s37 lanes b2 turns goes sums turned = iter (fun p : Int × List Int × Int × List Int × Int × List Int × List Int × List Int × List Int × List Int × List Int => keccakPermuteL2R p.1 p.2.1 p.2.2.1 p.2.2.2.1 p.2.2.2.2.1 p.2.2.2.2.2.1 p.2.2.2.2.2.2.1 p.2.2.2.2.2.2.2.1 p.2.2.2.2.2.2.2.2.1 p.2.2.2.2.2.2.2.2.2.1 p.2.2.2.2.2.2.2.2.2.2) (bigFuel) (number, s19, s20, s36, s37, lanes, b2, turns, goes, sums, turned) := hide_eq _
noncomputable def keccakPermuteL3R (number : Int) (y : Int) (s19 : List Int) (s20 : Int) (lanes : List Int) (b2 : List Int) (turns : List Int) (goes : List Int) (turned : List Int) : Option ((Int × Int × List Int × Int × List Int × List Int × List Int × List Int × List Int) ⊕ (Int × List Int × Int × List Int × List Int × List Int × List Int)) :=
 bif (decide (y < (25 : Int))) then
  bif decide (0 ≤ (IntKind.wrap .i64 (y + (0 : Int)))) then
   bif Nat.blt (Int.toNat (IntKind.wrap .i64 (y + (0 : Int)))) 25 then
    bif Nat.blt (Int.toNat (IntKind.wrap .i64 (y + (0 : Int)))) 25 then
     bif decide (0 ≤ (IntKind.wrap .i64 (y + (1 : Int)))) then
      bif Nat.blt (Int.toNat (IntKind.wrap .i64 (y + (1 : Int)))) 25 then
       bif Nat.blt (Int.toNat (IntKind.wrap .i64 (y + (1 : Int)))) 25 then
        bif decide (0 ≤ (IntKind.wrap .i64 (y + (2 : Int)))) then
         bif Nat.blt (Int.toNat (IntKind.wrap .i64 (y + (2 : Int)))) 25 then
          bif Nat.blt (Int.toNat (IntKind.wrap .i64 (y + (2 : Int)))) 25 then
           bif decide (0 ≤ (IntKind.wrap .i64 (y + (0 : Int)))) then
            bif Nat.blt (Int.toNat (IntKind.wrap .i64 (y + (0 : Int)))) 25 then
             bif Nat.blt (Int.toNat (IntKind.wrap .i64 (y + (0 : Int)))) 25 then
              bif decide (0 ≤ (IntKind.wrap .i64 (y + (1 : Int)))) then
               bif Nat.blt (Int.toNat (IntKind.wrap .i64 (y + (1 : Int)))) 25 then
                bif Nat.blt (Int.toNat (IntKind.wrap .i64 (y + (1 : Int)))) 25 then
                 bif decide (0 ≤ (IntKind.wrap .i64 (y + (2 : Int)))) then
                  bif Nat.blt (Int.toNat (IntKind.wrap .i64 (y + (2 : Int)))) 25 then
                   bif Nat.blt (Int.toNat (IntKind.wrap .i64 (y + (2 : Int)))) 25 then
                    bif decide (0 ≤ (IntKind.wrap .i64 (y + (3 : Int)))) then
                     bif Nat.blt (Int.toNat (IntKind.wrap .i64 (y + (3 : Int)))) 25 then
                      bif Nat.blt (Int.toNat (IntKind.wrap .i64 (y + (3 : Int)))) 25 then
                       bif decide (0 ≤ (IntKind.wrap .i64 (y + (1 : Int)))) then
                        bif Nat.blt (Int.toNat (IntKind.wrap .i64 (y + (1 : Int)))) 25 then
                         bif Nat.blt (Int.toNat (IntKind.wrap .i64 (y + (1 : Int)))) 25 then
                          bif decide (0 ≤ (IntKind.wrap .i64 (y + (2 : Int)))) then
                           bif Nat.blt (Int.toNat (IntKind.wrap .i64 (y + (2 : Int)))) 25 then
                            bif Nat.blt (Int.toNat (IntKind.wrap .i64 (y + (2 : Int)))) 25 then
                             bif decide (0 ≤ (IntKind.wrap .i64 (y + (3 : Int)))) then
                              bif Nat.blt (Int.toNat (IntKind.wrap .i64 (y + (3 : Int)))) 25 then
                               bif Nat.blt (Int.toNat (IntKind.wrap .i64 (y + (3 : Int)))) 25 then
                                bif decide (0 ≤ (IntKind.wrap .i64 (y + (4 : Int)))) then
                                 bif Nat.blt (Int.toNat (IntKind.wrap .i64 (y + (4 : Int)))) 25 then
                                  bif Nat.blt (Int.toNat (IntKind.wrap .i64 (y + (4 : Int)))) 25 then
                                   bif decide (0 ≤ (IntKind.wrap .i64 (y + (2 : Int)))) then
                                    bif Nat.blt (Int.toNat (IntKind.wrap .i64 (y + (2 : Int)))) 25 then
                                     bif Nat.blt (Int.toNat (IntKind.wrap .i64 (y + (2 : Int)))) 25 then
                                      bif decide (0 ≤ (IntKind.wrap .i64 (y + (3 : Int)))) then
                                       bif Nat.blt (Int.toNat (IntKind.wrap .i64 (y + (3 : Int)))) 25 then
                                        bif Nat.blt (Int.toNat (IntKind.wrap .i64 (y + (3 : Int)))) 25 then
                                         bif decide (0 ≤ (IntKind.wrap .i64 (y + (4 : Int)))) then
                                          bif Nat.blt (Int.toNat (IntKind.wrap .i64 (y + (4 : Int)))) 25 then
                                           bif Nat.blt (Int.toNat (IntKind.wrap .i64 (y + (4 : Int)))) 25 then
                                            bif decide (0 ≤ (IntKind.wrap .i64 (y + (0 : Int)))) then
                                             bif Nat.blt (Int.toNat (IntKind.wrap .i64 (y + (0 : Int)))) 25 then
                                              bif Nat.blt (Int.toNat (IntKind.wrap .i64 (y + (0 : Int)))) 25 then
                                               bif decide (0 ≤ (IntKind.wrap .i64 (y + (3 : Int)))) then
                                                bif Nat.blt (Int.toNat (IntKind.wrap .i64 (y + (3 : Int)))) 25 then
                                                 bif Nat.blt (Int.toNat (IntKind.wrap .i64 (y + (3 : Int)))) 25 then
                                                  bif decide (0 ≤ (IntKind.wrap .i64 (y + (4 : Int)))) then
                                                   bif Nat.blt (Int.toNat (IntKind.wrap .i64 (y + (4 : Int)))) 25 then
                                                    bif Nat.blt (Int.toNat (IntKind.wrap .i64 (y + (4 : Int)))) 25 then
                                                     bif decide (0 ≤ (IntKind.wrap .i64 (y + (0 : Int)))) then
                                                      bif Nat.blt (Int.toNat (IntKind.wrap .i64 (y + (0 : Int)))) 25 then
                                                       bif Nat.blt (Int.toNat (IntKind.wrap .i64 (y + (0 : Int)))) 25 then
                                                        bif decide (0 ≤ (IntKind.wrap .i64 (y + (1 : Int)))) then
                                                         bif Nat.blt (Int.toNat (IntKind.wrap .i64 (y + (1 : Int)))) 25 then
                                                          bif Nat.blt (Int.toNat (IntKind.wrap .i64 (y + (1 : Int)))) 25 then
                                                           bif decide (0 ≤ (IntKind.wrap .i64 (y + (4 : Int)))) then
                                                            bif Nat.blt (Int.toNat (IntKind.wrap .i64 (y + (4 : Int)))) 25 then
                                                             bif Nat.blt (Int.toNat (IntKind.wrap .i64 (y + (4 : Int)))) 25 then
                                                              some (.inl (number, (IntKind.wrap .i64 (y + (5 : Int))), s19, s20, (((((lanes.set (Int.toNat (IntKind.wrap .i64 (y + (0 : Int)))) (xorI .u64 (turned.getD (Int.toNat (IntKind.wrap .i64 (y + (0 : Int)))) (0 : Int)) (andI .u64 (xorI .u64 (18446744073709551615) (turned.getD (Int.toNat (IntKind.wrap .i64 (y + (1 : Int)))) (0 : Int))) (turned.getD (Int.toNat (IntKind.wrap .i64 (y + (2 : Int)))) (0 : Int))))).set (Int.toNat (IntKind.wrap .i64 (y + (1 : Int)))) (xorI .u64 (turned.getD (Int.toNat (IntKind.wrap .i64 (y + (1 : Int)))) (0 : Int)) (andI .u64 (xorI .u64 (18446744073709551615) (turned.getD (Int.toNat (IntKind.wrap .i64 (y + (2 : Int)))) (0 : Int))) (turned.getD (Int.toNat (IntKind.wrap .i64 (y + (3 : Int)))) (0 : Int))))).set (Int.toNat (IntKind.wrap .i64 (y + (2 : Int)))) (xorI .u64 (turned.getD (Int.toNat (IntKind.wrap .i64 (y + (2 : Int)))) (0 : Int)) (andI .u64 (xorI .u64 (18446744073709551615) (turned.getD (Int.toNat (IntKind.wrap .i64 (y + (3 : Int)))) (0 : Int))) (turned.getD (Int.toNat (IntKind.wrap .i64 (y + (4 : Int)))) (0 : Int))))).set (Int.toNat (IntKind.wrap .i64 (y + (3 : Int)))) (xorI .u64 (turned.getD (Int.toNat (IntKind.wrap .i64 (y + (3 : Int)))) (0 : Int)) (andI .u64 (xorI .u64 (18446744073709551615) (turned.getD (Int.toNat (IntKind.wrap .i64 (y + (4 : Int)))) (0 : Int))) (turned.getD (Int.toNat (IntKind.wrap .i64 (y + (0 : Int)))) (0 : Int))))).set (Int.toNat (IntKind.wrap .i64 (y + (4 : Int)))) (xorI .u64 (turned.getD (Int.toNat (IntKind.wrap .i64 (y + (4 : Int)))) (0 : Int)) (andI .u64 (xorI .u64 (18446744073709551615) (turned.getD (Int.toNat (IntKind.wrap .i64 (y + (0 : Int)))) (0 : Int))) (turned.getD (Int.toNat (IntKind.wrap .i64 (y + (1 : Int)))) (0 : Int))))), b2, turns, goes, turned))
                                                             else none
                                                            else none
                                                           else none
                                                          else none
                                                         else none
                                                        else none
                                                       else none
                                                      else none
                                                     else none
                                                    else none
                                                   else none
                                                  else none
                                                 else none
                                                else none
                                               else none
                                              else none
                                             else none
                                            else none
                                           else none
                                          else none
                                         else none
                                        else none
                                       else none
                                      else none
                                     else none
                                    else none
                                   else none
                                  else none
                                 else none
                                else none
                               else none
                              else none
                             else none
                            else none
                           else none
                          else none
                         else none
                        else none
                       else none
                      else none
                     else none
                    else none
                   else none
                  else none
                 else none
                else none
               else none
              else none
             else none
            else none
           else none
          else none
         else none
        else none
       else none
      else none
     else none
    else none
   else none
  else none
 else
  some (.inr (number, s19, s20, lanes, b2, turns, goes))
noncomputable def keccakPermuteL3 (number : Int) (y : Int) (s19 : List Int) (s20 : Int) (lanes : List Int) (b2 : List Int) (turns : List Int) (goes : List Int) (turned : List Int) : Option (Int × List Int × Int × List Int × List Int × List Int × List Int) := hide (iter (fun p : Int × Int × List Int × Int × List Int × List Int × List Int × List Int × List Int => keccakPermuteL3R p.1 p.2.1 p.2.2.1 p.2.2.2.1 p.2.2.2.2.1 p.2.2.2.2.2.1 p.2.2.2.2.2.2.1 p.2.2.2.2.2.2.2.1 p.2.2.2.2.2.2.2.2) (bigFuel) (number, y, s19, s20, lanes, b2, turns, goes, turned))
theorem keccakPermuteL3_eq (number : Int) (y : Int) (s19 : List Int) (s20 : Int) (lanes : List Int) (b2 : List Int) (turns : List Int) (goes : List Int) (turned : List Int) : keccakPermuteL3 number y s19 s20 lanes b2 turns goes turned = iter (fun p : Int × Int × List Int × Int × List Int × List Int × List Int × List Int × List Int => keccakPermuteL3R p.1 p.2.1 p.2.2.1 p.2.2.2.1 p.2.2.2.2.1 p.2.2.2.2.2.1 p.2.2.2.2.2.2.1 p.2.2.2.2.2.2.2.1 p.2.2.2.2.2.2.2.2) (bigFuel) (number, y, s19, s20, lanes, b2, turns, goes, turned) := hide_eq _
noncomputable def keccakPermuteL0R (s19 : List Int) (s20 : Int) (lanes : List Int) (b2 : List Int) (turns : List Int) (goes : List Int) : Option ((List Int × Int × List Int × List Int × List Int × List Int) ⊕ (List Int × List Int)) :=
 bif (decide (s20 < (24 : Int))) then
  bif decide (0 ≤ s20) then
   bif Nat.blt (Int.toNat s20) 24 then
    bif Nat.blt (Int.toNat s20) 24 then
     (keccakPermuteL1 (s19.getD (Int.toNat s20) (0 : Int)) s19 s20 lanes (0 : Int) lanes b2 turns goes (List.replicate 5 (0 : Int))).bind fun q10 =>
     (keccakPermuteL2 q10.1 q10.2.1 q10.2.2.1 q10.2.2.2.1 (0 : Int) q10.2.2.2.1 q10.2.2.2.2.1 q10.2.2.2.2.2.1 q10.2.2.2.2.2.2.1 q10.2.2.2.2.2.2.2 (List.replicate 25 (0 : Int))).bind fun q11 =>
     (keccakPermuteL3 q11.1 (0 : Int) q11.2.1 q11.2.2.1 q11.2.2.2.1 q11.2.2.2.2.1 q11.2.2.2.2.2.1 q11.2.2.2.2.2.2.1 q11.2.2.2.2.2.2.2).bind fun q12 =>
     some (.inl (q12.2.1, (IntKind.wrap .i64 (q12.2.2.1 + (1 : Int))), (q12.2.2.2.1.set 0 (xorI .u64 (q12.2.2.2.1.getD 0 (0 : Int)) q12.1)), q12.2.2.2.2.1, q12.2.2.2.2.2.1, q12.2.2.2.2.2.2))
    else none
   else none
  else none
 else
  some (.inr (lanes, b2))
noncomputable def keccakPermuteL0 (s19 : List Int) (s20 : Int) (lanes : List Int) (b2 : List Int) (turns : List Int) (goes : List Int) : Option (List Int × List Int) := hide (iter (fun p : List Int × Int × List Int × List Int × List Int × List Int => keccakPermuteL0R p.1 p.2.1 p.2.2.1 p.2.2.2.1 p.2.2.2.2.1 p.2.2.2.2.2) (bigFuel) (s19, s20, lanes, b2, turns, goes))
theorem keccakPermuteL0_eq (s19 : List Int) (s20 : Int) (lanes : List Int) (b2 : List Int) (turns : List Int) (goes : List Int) : keccakPermuteL0 s19 s20 lanes b2 turns goes = iter (fun p : List Int × Int × List Int × List Int × List Int × List Int => keccakPermuteL0R p.1 p.2.1 p.2.2.1 p.2.2.2.1 p.2.2.2.2.1 p.2.2.2.2.2) (bigFuel) (s19, s20, lanes, b2, turns, goes) := hide_eq _
noncomputable def keccakPermuteB (lanes : List Int) : Option (List Int) :=
 (keccakIWays).bind fun r1 =>
 (keccakINumbers).bind fun r2 =>
 (keccakPermuteL0 r2 (0 : Int) lanes (List.replicate 25 (0 : Int)) r1.1 r1.2).bind fun q13 =>
 some q13.1
noncomputable def keccakPermute (lanes : List Int) : Option (List Int) := hide (keccakPermuteB lanes)
theorem keccakPermute_eq (lanes : List Int) : keccakPermute lanes = keccakPermuteB lanes := hide_eq _
noncomputable def keccakSpongeAbsorbL0R (s7 : List Int) (s8 : Int) (s : Int × List Int × List Int × Int × Int) : Option ((List Int × Int × (Int × List Int × List Int × Int × Int)) ⊕ (Int × List Int × List Int × Int × Int)) :=
 bif (decide (s8 < (136 : Int))) then
  bif decide (0 ≤ s8) then
   bif Nat.blt (Int.toNat s8) 136 then
    bif Nat.blt (Int.toNat s8) 136 then
     bif decide (0 ≤ (IntKind.wrap .i64 (Int.tdiv s8 (8 : Int)))) then
      bif Nat.blt (Int.toNat (IntKind.wrap .i64 (Int.tdiv s8 (8 : Int)))) 25 then
       bif Nat.blt (Int.toNat (IntKind.wrap .i64 (Int.tdiv s8 (8 : Int)))) 25 then
        bif decide ((IntKind.wrap .i64 ((8 : Int) * (Int.tmod s8 (8 : Int)))) < 0) then
         none
        else
         bif decide (0 ≤ (IntKind.wrap .i64 (Int.tdiv s8 (8 : Int)))) then
          bif Nat.blt (Int.toNat (IntKind.wrap .i64 (Int.tdiv s8 (8 : Int)))) 25 then
           bif Nat.blt (Int.toNat (IntKind.wrap .i64 (Int.tdiv s8 (8 : Int)))) 25 then
            some (.inl (s7, (IntKind.wrap .i64 (s8 + (1 : Int))), (s.1, (s.2.1.set (Int.toNat (IntKind.wrap .i64 (Int.tdiv s8 (8 : Int)))) (xorI .u64 (s.2.1.getD (Int.toNat (IntKind.wrap .i64 (Int.tdiv s8 (8 : Int)))) (0 : Int)) (shlI .u64 (IntKind.wrap .u64 (s7.getD (Int.toNat s8) (0 : Int))) (IntKind.wrap .i64 ((8 : Int) * (Int.tmod s8 (8 : Int))))))), s.2.2.1, s.2.2.2.1, s.2.2.2.2)))
           else none
          else none
         else none
       else none
      else none
     else none
    else none
   else none
  else none
 else
  some (.inr s)
noncomputable def keccakSpongeAbsorbL0 (s7 : List Int) (s8 : Int) (s : Int × List Int × List Int × Int × Int) : Option (Int × List Int × List Int × Int × Int) := hide (iter (fun p : List Int × Int × (Int × List Int × List Int × Int × Int) => keccakSpongeAbsorbL0R p.1 p.2.1 p.2.2) (bigFuel) (s7, s8, s))
theorem keccakSpongeAbsorbL0_eq (s7 : List Int) (s8 : Int) (s : Int × List Int × List Int × Int × Int) : keccakSpongeAbsorbL0 s7 s8 s = iter (fun p : List Int × Int × (Int × List Int × List Int × Int × Int) => keccakSpongeAbsorbL0R p.1 p.2.1 p.2.2) (bigFuel) (s7, s8, s) := hide_eq _
noncomputable def keccakSpongeAbsorbB (s : Int × List Int × List Int × Int × Int) : Option (Int × List Int × List Int × Int × Int) :=
 (keccakSpongeAbsorbL0 s.2.2.1 (0 : Int) s).bind fun q1 =>
 (keccakPermute q1.2.1).bind fun r2 =>
 some (q1.1, r2, q1.2.2.1, (0 : Int), q1.2.2.2.2)
noncomputable def keccakSpongeAbsorb (s : Int × List Int × List Int × Int × Int) : Option (Int × List Int × List Int × Int × Int) := hide (keccakSpongeAbsorbB s)
theorem keccakSpongeAbsorb_eq (s : Int × List Int × List Int × Int × Int) : keccakSpongeAbsorb s = keccakSpongeAbsorbB s := hide_eq _
noncomputable def keccakSpongeWriteL0R (data : List Int) (s : Int × List Int × List Int × Int × Int) : Option ((List Int × (Int × List Int × List Int × Int × Int)) ⊕ (Int × List Int × List Int × Int × Int)) :=
 bif (decide (((data.length : Nat) : Int) > (0 : Int))) then
  bif decide (0 ≤ s.2.2.2.1) then
   bif Nat.ble (Int.toNat s.2.2.2.1) 136 then
    bif (Nat.ble ((Int.toNat s.2.2.2.1) + (136 - (Int.toNat s.2.2.2.1))) 136 && true) then
     bif decide (0 ≤ ((min data.length (136 - (Int.toNat s.2.2.2.1)) : Nat) : Int)) then
      bif Nat.ble (Int.toNat ((min data.length (136 - (Int.toNat s.2.2.2.1)) : Nat) : Int)) data.length then
       bif ((IntKind.wrap .i64 (s.2.2.2.1 + ((min data.length (136 - (Int.toNat s.2.2.2.1)) : Nat) : Int))) == (136 : Int)) then
        (keccakSpongeAbsorb (s.1, s.2.1, (spliceL s.2.2.1 (Int.toNat s.2.2.2.1) (List.take (136 - (Int.toNat s.2.2.2.1)) data)), (IntKind.wrap .i64 (s.2.2.2.1 + ((min data.length (136 - (Int.toNat s.2.2.2.1)) : Nat) : Int))), s.2.2.2.2)).bind fun r2 =>
        some (.inl ((List.take (data.length - (Int.toNat ((min data.length (136 - (Int.toNat s.2.2.2.1)) : Nat) : Int))) (List.drop (Int.toNat ((min data.length (136 - (Int.toNat s.2.2.2.1)) : Nat) : Int)) data)), r2))
       else
        some (.inl ((List.take (data.length - (Int.toNat ((min data.length (136 - (Int.toNat s.2.2.2.1)) : Nat) : Int))) (List.drop (Int.toNat ((min data.length (136 - (Int.toNat s.2.2.2.1)) : Nat) : Int)) data)), (s.1, s.2.1, (spliceL s.2.2.1 (Int.toNat s.2.2.2.1) (List.take (136 - (Int.toNat s.2.2.2.1)) data)), (IntKind.wrap .i64 (s.2.2.2.1 + ((min data.length (136 - (Int.toNat s.2.2.2.1)) : Nat) : Int))), s.2.2.2.2)))
      else none
     else none
    else none
   else none
  else none
 else
  some (.inr s)
noncomputable def keccakSpongeWriteL0 (data : List Int) (s : Int × List Int × List Int × Int × Int) : Option (Int × List Int × List Int × Int × Int) := hide (iter (fun p : List Int × (Int × List Int × List Int × Int × Int) => keccakSpongeWriteL0R p.1 p.2) (bigFuel) (data, s))
theorem keccakSpongeWriteL0_eq (data : List Int) (s : Int × List Int × List Int × Int × Int) : keccakSpongeWriteL0 data s = iter (fun p : List Int × (Int × List Int × List Int × Int × Int) => keccakSpongeWriteL0R p.1 p.2) (bigFuel) (data, s) := hide_eq _
noncomputable def keccakSpongeWriteB (s : Int × List Int × List Int × Int × Int) (data : List Int) : Option (Int × List Int × List Int × Int × Int) :=
 (keccakSpongeWriteL0 data (s.1, s.2.1, s.2.2.1, s.2.2.2.1, (IntKind.wrap .i64 (s.2.2.2.2 + ((data.length : Nat) : Int))))).bind fun q3 =>
 some q3
noncomputable def keccakSpongeWrite (s : Int × List Int × List Int × Int × Int) (data : List Int) : Option (Int × List Int × List Int × Int × Int) := hide (keccakSpongeWriteB s data)
theorem keccakSpongeWrite_eq (s : Int × List Int × List Int × Int × Int) (data : List Int) : keccakSpongeWrite s data = keccakSpongeWriteB s data := hide_eq _
noncomputable def keccakSpongeSumL0R (s35 : Int) (b2 : List Int) (last : Int × List Int × List Int × Int × Int) (h : List Int) : Option ((Int × List Int × (Int × List Int × List Int × Int × Int) × List Int) ⊕ (List Int × List Int)) :=
 bif (decide (s35 < (32 : Int))) then
  bif decide (0 ≤ (IntKind.wrap .i64 (Int.tdiv s35 (8 : Int)))) then
   bif Nat.blt (Int.toNat (IntKind.wrap .i64 (Int.tdiv s35 (8 : Int)))) 25 then
    bif Nat.blt (Int.toNat (IntKind.wrap .i64 (Int.tdiv s35 (8 : Int)))) 25 then
     bif decide ((IntKind.wrap .i64 ((8 : Int) * (Int.tmod s35 (8 : Int)))) < 0) then
      none
     else
      bif decide (0 ≤ s35) then
       bif Nat.blt (Int.toNat s35) 32 then
        bif Nat.blt (Int.toNat s35) 32 then
         some (.inl ((IntKind.wrap .i64 (s35 + (1 : Int))), b2, last, (h.set (Int.toNat s35) (IntKind.wrap .u8 (shrI .u64 (last.2.1.getD (Int.toNat (IntKind.wrap .i64 (Int.tdiv s35 (8 : Int)))) (0 : Int)) (IntKind.wrap .i64 ((8 : Int) * (Int.tmod s35 (8 : Int)))))))))
        else none
       else none
      else none
    else none
   else none
  else none
 else
  some (.inr (b2, h))
noncomputable def keccakSpongeSumL0 (s35 : Int) (b2 : List Int) (last : Int × List Int × List Int × Int × Int) (h : List Int) : Option (List Int × List Int) := hide (iter (fun p : Int × List Int × (Int × List Int × List Int × Int × Int) × List Int => keccakSpongeSumL0R p.1 p.2.1 p.2.2.1 p.2.2.2) (bigFuel) (s35, b2, last, h))
theorem keccakSpongeSumL0_eq (s35 : Int) (b2 : List Int) (last : Int × List Int × List Int × Int × Int) (h : List Int) : keccakSpongeSumL0 s35 b2 last h = iter (fun p : Int × List Int × (Int × List Int × List Int × Int × Int) × List Int => keccakSpongeSumL0R p.1 p.2.1 p.2.2.1 p.2.2.2) (bigFuel) (s35, b2, last, h) := hide_eq _
noncomputable def keccakSpongeSumB (s : Int × List Int × List Int × Int × Int) : Option (List Int) :=
 bif decide (0 ≤ s.2.2.2.1) then
  bif Nat.ble (Int.toNat s.2.2.2.1) 136 then
   bif (Nat.ble ((Int.toNat s.2.2.2.1) + (136 - (Int.toNat s.2.2.2.1))) 136 && true) then
    bif decide (0 ≤ s.2.2.2.1) then
     bif Nat.blt (Int.toNat s.2.2.2.1) 136 then
      bif Nat.blt (Int.toNat s.2.2.2.1) 136 then
       bif decide (0 ≤ s.1) then
        bif Nat.blt (Int.toNat s.1) 2 then
         bif Nat.blt (Int.toNat s.1) 2 then
          bif decide (0 ≤ s.2.2.2.1) then
           bif Nat.blt (Int.toNat s.2.2.2.1) 136 then
            bif Nat.blt (Int.toNat s.2.2.2.1) 136 then
             (keccakSpongeAbsorb (s.1, s.2.1, (((spliceL s.2.2.1 (Int.toNat s.2.2.2.1) (List.replicate (136 - (Int.toNat s.2.2.2.1)) 0)).set (Int.toNat s.2.2.2.1) (xorI .u8 ((spliceL s.2.2.1 (Int.toNat s.2.2.2.1) (List.replicate (136 - (Int.toNat s.2.2.2.1)) 0)).getD (Int.toNat s.2.2.2.1) (0 : Int)) (kecFirstT.getD (Int.toNat s.1) (0 : Int)))).set 135 (xorI .u8 (((spliceL s.2.2.1 (Int.toNat s.2.2.2.1) (List.replicate (136 - (Int.toNat s.2.2.2.1)) 0)).set (Int.toNat s.2.2.2.1) (xorI .u8 ((spliceL s.2.2.1 (Int.toNat s.2.2.2.1) (List.replicate (136 - (Int.toNat s.2.2.2.1)) 0)).getD (Int.toNat s.2.2.2.1) (0 : Int)) (kecFirstT.getD (Int.toNat s.1) (0 : Int)))).getD 135 (0 : Int)) (128 : Int))), s.2.2.2.1, s.2.2.2.2)).bind fun r1 =>
             (keccakSpongeSumL0 (0 : Int) (List.replicate 32 (0 : Int)) r1 (List.replicate 32 (0 : Int))).bind fun q2 =>
             some q2.2
            else none
           else none
          else none
         else none
        else none
       else none
      else none
     else none
    else none
   else none
  else none
 else none
noncomputable def keccakSpongeSum (s : Int × List Int × List Int × Int × Int) : Option (List Int) := hide (keccakSpongeSumB s)
theorem keccakSpongeSum_eq (s : Int × List Int × List Int × Int × Int) : keccakSpongeSum s = keccakSpongeSumB s := hide_eq _
noncomputable def keccakIDigestL0R (s10 : List (List Int)) (s11 : Int) (s12 : Int) (b4 : List Int) (s : Int × List Int × List Int × Int × Int) : Option ((List (List Int) × Int × Int × List Int × (Int × List Int × List Int × Int × Int)) ⊕ (List Int × Int × List Int × List Int × Int × Int)) :=
 bif (decide (s12 < s11)) then
  bif decide (0 ≤ s12) then
   bif Nat.blt (Int.toNat s12) s10.length then
    (keccakSpongeWrite s (s10.getD (Int.toNat s12) ([] : List Int))).bind fun r2 =>
    some (.inl (s10, s11, (IntKind.wrap .i64 (s12 + (1 : Int))), b4, r2))
   else none
  else none
 else
  some (.inr (b4, s))
noncomputable def keccakIDigestL0 (s10 : List (List Int)) (s11 : Int) (s12 : Int) (b4 : List Int) (s : Int × List Int × List Int × Int × Int) : Option (List Int × Int × List Int × List Int × Int × Int) := hide (iter (fun p : List (List Int) × Int × Int × List Int × (Int × List Int × List Int × Int × Int) => keccakIDigestL0R p.1 p.2.1 p.2.2.1 p.2.2.2.1 p.2.2.2.2) (bigFuel) (s10, s11, s12, b4, s))
theorem keccakIDigestL0_eq (s10 : List (List Int)) (s11 : Int) (s12 : Int) (b4 : List Int) (s : Int × List Int × List Int × Int × Int) : keccakIDigestL0 s10 s11 s12 b4 s = iter (fun p : List (List Int) × Int × Int × List Int × (Int × List Int × List Int × Int × Int) => keccakIDigestL0R p.1 p.2.1 p.2.2.1 p.2.2.2.1 p.2.2.2.2) (bigFuel) (s10, s11, s12, b4, s) := hide_eq _
noncomputable def keccakIDigestB (kind : Int) (parts : List (List Int)) : Option (List Int) :=
 (keccakIDigestL0 parts ((parts.length : Nat) : Int) (0 : Int) (List.replicate 32 (0 : Int)) (kind, (List.replicate 25 (0 : Int)), (List.replicate 136 (0 : Int)), (0 : Int), (0 : Int))).bind fun q3 =>
 (keccakSpongeSum q3.2).bind fun r4 =>
 some r4
noncomputable def keccakIDigest (kind : Int) (parts : List (List Int)) : Option (List Int) := hide (keccakIDigestB kind parts)
theorem keccakIDigest_eq (kind : Int) (parts : List (List Int)) : keccakIDigest kind parts = keccakIDigestB kind parts := hide_eq _
noncomputable def keccakSumB (parts : List (List Int)) : Option (List Int) :=
 (keccakIDigest (0 : Int) parts).bind fun r1 =>
 some r1
noncomputable def keccakSum (parts : List (List Int)) : Option (List Int) := hide (keccakSumB parts)
theorem keccakSum_eq (parts : List (List Int)) : keccakSum parts = keccakSumB parts := hide_eq _
noncomputable def abiTopicB (text : List UInt8) : Option (List Int × Int) :=
 (abiSignature text).bind fun r1 =>
 bif (r1.2.2 != (0 : Int)) then
  some ((List.replicate 32 (0 : Int)), r1.2.2)
 else
  (keccakSum [(List.map (fun (c : UInt8) => ((c.toNat : Nat) : Int)) r1.1)]).bind fun r2 =>
  some (r2, (0 : Int))
noncomputable def abiTopic (text : List UInt8) : Option (List Int × Int) := hide (abiTopicB text)
theorem abiTopic_eq (text : List UInt8) : abiTopic text = abiTopicB text := hide_eq _
noncomputable def abiSelectorB (text : List UInt8) : Option (List Int × Int) :=
 (abiTopic text).bind fun r1 =>
 some ((List.take 4 r1.1), r1.2)
noncomputable def abiSelector (text : List UInt8) : Option (List Int × Int) := hide (abiSelectorB text)
theorem abiSelector_eq (text : List UInt8) : abiSelector text = abiSelectorB text := hide_eq _
noncomputable def ref02IJoinedL0R (parts : List (List Int)) (i : Int) (b18 : List Int) : Option ((List (List Int) × Int × List Int) ⊕ (List Int)) :=
 bif (decide (i < ((parts.length : Nat) : Int))) then
  bif decide (0 ≤ i) then
   bif Nat.blt (Int.toNat i) parts.length then
    bif roomB 1 (b18.length + (parts.getD (Int.toNat i) ([] : List Int)).length) then
     some (.inl (parts, (IntKind.wrap .i64 (i + (1 : Int))), (b18 ++ (parts.getD (Int.toNat i) ([] : List Int)))))
    else none
   else none
  else none
 else
  some (.inr b18)
noncomputable def ref02IJoinedL0 (parts : List (List Int)) (i : Int) (b18 : List Int) : Option (List Int) := hide (iter (fun p : List (List Int) × Int × List Int => ref02IJoinedL0R p.1 p.2.1 p.2.2) (bigFuel) (parts, i, b18))
theorem ref02IJoinedL0_eq (parts : List (List Int)) (i : Int) (b18 : List Int) : ref02IJoinedL0 parts i b18 = iter (fun p : List (List Int) × Int × List Int => ref02IJoinedL0R p.1 p.2.1 p.2.2) (bigFuel) (parts, i, b18) := hide_eq _
noncomputable def ref02IJoinedB (parts : List (List Int)) : Option (List Int) :=
 (ref02IJoinedL0 parts (0 : Int) ([] : List Int)).bind fun q1 =>
 some q1
noncomputable def ref02IJoined (parts : List (List Int)) : Option (List Int) := hide (ref02IJoinedB parts)
theorem ref02IJoined_eq (parts : List (List Int)) : ref02IJoined parts = ref02IJoinedB parts := hide_eq _
noncomputable def ref02IFilledL0R (b12 : List Int) : Option ((List Int) ⊕ (List Int)) :=
 bif ((Int.tmod ((b12.length : Nat) : Int) (136 : Int)) != (0 : Int)) then
  bif roomB 1 (b12.length + [(0 : Int)].length) then
   some (.inl (b12 ++ [(0 : Int)]))
  else none
 else
  some (.inr b12)
noncomputable def ref02IFilledL0 (b12 : List Int) : Option (List Int) := hide (iter (fun p : List Int => ref02IFilledL0R p) (bigFuel) b12)
theorem ref02IFilledL0_eq (b12 : List Int) : ref02IFilledL0 b12 = iter (fun p : List Int => ref02IFilledL0R p) (bigFuel) b12 := hide_eq _
noncomputable def ref02IFilledB (text : List Int) (first : Int) : Option (List Int) :=
 bif roomB 1 text.length then
  bif roomB 1 (text.length + [first].length) then
   (ref02IFilledL0 (text ++ [first])).bind fun q1 =>
   bif decide (0 ≤ (IntKind.wrap .i64 (((q1.length : Nat) : Int) - (1 : Int)))) then
    bif Nat.blt (Int.toNat (IntKind.wrap .i64 (((q1.length : Nat) : Int) - (1 : Int)))) q1.length then
     bif Nat.blt (Int.toNat (IntKind.wrap .i64 (((q1.length : Nat) : Int) - (1 : Int)))) q1.length then
      bif decide (0 ≤ (IntKind.wrap .i64 (((q1.length : Nat) : Int) - (1 : Int)))) then
       bif Nat.blt (Int.toNat (IntKind.wrap .i64 (((q1.length : Nat) : Int) - (1 : Int)))) q1.length then
        bif Nat.blt (Int.toNat (IntKind.wrap .i64 (((q1.length : Nat) : Int) - (1 : Int)))) q1.length then
         some (q1.set (Int.toNat (IntKind.wrap .i64 (((q1.length : Nat) : Int) - (1 : Int)))) (orI .u8 (q1.getD (Int.toNat (IntKind.wrap .i64 (((q1.length : Nat) : Int) - (1 : Int)))) (0 : Int)) (128 : Int)))
        else none
       else none
      else none
     else none
    else none
   else none
  else none
 else none
noncomputable def ref02IFilled (text : List Int) (first : Int) : Option (List Int) := hide (ref02IFilledB text first)
theorem ref02IFilled_eq (text : List Int) (first : Int) : ref02IFilled text first = ref02IFilledB text first := hide_eq _
noncomputable def ref02IAtB (x : Int) (y : Int) : Option (Int) :=
 some (IntKind.wrap .i64 ((Int.tmod x (5 : Int)) + (IntKind.wrap .i64 ((5 : Int) * (Int.tmod y (5 : Int))))))
noncomputable def ref02IAt (x : Int) (y : Int) : Option (Int) := hide (ref02IAtB x y)
theorem ref02IAt_eq (x : Int) (y : Int) : ref02IAt x y = ref02IAtB x y := hide_eq _
noncomputable def ref02RotB (v : Int) (n : Int) : Option (Int) :=
 bif (n == (0 : Int)) then
  some v
 else
  bif decide ((IntKind.wrap .u64 n) < 0) then
   none
  else
   bif decide ((IntKind.wrap .u64 (IntKind.wrap .i64 ((64 : Int) - n))) < 0) then
    none
   else
    some (orI .u64 (shlI .u64 v (IntKind.wrap .u64 n)) (shrI .u64 v (IntKind.wrap .u64 (IntKind.wrap .i64 ((64 : Int) - n)))))
noncomputable def ref02Rot (v : Int) (n : Int) : Option (Int) := hide (ref02RotB v n)
theorem ref02Rot_eq (v : Int) (n : Int) : ref02Rot v n = ref02RotB v n := hide_eq _
noncomputable def ref02IColumnsL0R (x : Int) (a : List Int) (b2 : List Int) (c : List Int) : Option ((Int × List Int × List Int × List Int) ⊕ (List Int × List Int × List Int)) :=
 bif (decide (x < (5 : Int))) then
  (ref02IAt x (0 : Int)).bind fun r6 =>
  bif decide (0 ≤ r6) then
   bif Nat.blt (Int.toNat r6) 25 then
    bif Nat.blt (Int.toNat r6) 25 then
     (ref02IAt x (1 : Int)).bind fun r7 =>
     bif decide (0 ≤ r7) then
      bif Nat.blt (Int.toNat r7) 25 then
       bif Nat.blt (Int.toNat r7) 25 then
        (ref02IAt x (2 : Int)).bind fun r8 =>
        bif decide (0 ≤ r8) then
         bif Nat.blt (Int.toNat r8) 25 then
          bif Nat.blt (Int.toNat r8) 25 then
           (ref02IAt x (3 : Int)).bind fun r9 =>
           bif decide (0 ≤ r9) then
            bif Nat.blt (Int.toNat r9) 25 then
             bif Nat.blt (Int.toNat r9) 25 then
              (ref02IAt x (4 : Int)).bind fun r10 =>
              bif decide (0 ≤ r10) then
               bif Nat.blt (Int.toNat r10) 25 then
                bif Nat.blt (Int.toNat r10) 25 then
                 bif decide (0 ≤ x) then
                  bif Nat.blt (Int.toNat x) 5 then
                   bif Nat.blt (Int.toNat x) 5 then
                    some (.inl ((IntKind.wrap .i64 (x + (1 : Int))), a, b2, (c.set (Int.toNat x) (xorI .u64 (xorI .u64 (xorI .u64 (xorI .u64 (a.getD (Int.toNat r6) (0 : Int)) (a.getD (Int.toNat r7) (0 : Int))) (a.getD (Int.toNat r8) (0 : Int))) (a.getD (Int.toNat r9) (0 : Int))) (a.getD (Int.toNat r10) (0 : Int))))))
                   else none
                  else none
                 else none
                else none
               else none
              else none
             else none
            else none
           else none
          else none
         else none
        else none
       else none
      else none
     else none
    else none
   else none
  else none
 else
  some (.inr (a, b2, c))
noncomputable def ref02IColumnsL0 (x : Int) (a : List Int) (b2 : List Int) (c : List Int) : Option (List Int × List Int × List Int) := hide (iter (fun p : Int × List Int × List Int × List Int => ref02IColumnsL0R p.1 p.2.1 p.2.2.1 p.2.2.2) (bigFuel) (x, a, b2, c))
theorem ref02IColumnsL0_eq (x : Int) (a : List Int) (b2 : List Int) (c : List Int) : ref02IColumnsL0 x a b2 c = iter (fun p : Int × List Int × List Int × List Int => ref02IColumnsL0R p.1 p.2.1 p.2.2.1 p.2.2.2) (bigFuel) (x, a, b2, c) := hide_eq _
noncomputable def ref02IColumnsL2R (x : Int) (y : Int) (a : List Int) (b2 : List Int) (c : List Int) (b : List Int) : Option ((Int × Int × List Int × List Int × List Int × List Int) ⊕ (Int × List Int × List Int × List Int × List Int)) :=
 bif (decide (y < (5 : Int))) then
  (ref02IAt x y).bind fun r15 =>
  (ref02IAt x y).bind fun r16 =>
  bif decide (0 ≤ r16) then
   bif Nat.blt (Int.toNat r16) 25 then
    bif Nat.blt (Int.toNat r16) 25 then
     bif decide (0 ≤ (Int.tmod (IntKind.wrap .i64 (x + (4 : Int))) (5 : Int))) then
      bif Nat.blt (Int.toNat (Int.tmod (IntKind.wrap .i64 (x + (4 : Int))) (5 : Int))) 5 then
       bif Nat.blt (Int.toNat (Int.tmod (IntKind.wrap .i64 (x + (4 : Int))) (5 : Int))) 5 then
        bif decide (0 ≤ (Int.tmod (IntKind.wrap .i64 (x + (1 : Int))) (5 : Int))) then
         bif Nat.blt (Int.toNat (Int.tmod (IntKind.wrap .i64 (x + (1 : Int))) (5 : Int))) 5 then
          bif Nat.blt (Int.toNat (Int.tmod (IntKind.wrap .i64 (x + (1 : Int))) (5 : Int))) 5 then
           (ref02Rot (c.getD (Int.toNat (Int.tmod (IntKind.wrap .i64 (x + (1 : Int))) (5 : Int))) (0 : Int)) (1 : Int)).bind fun r17 =>
           bif decide (0 ≤ r15) then
            bif Nat.blt (Int.toNat r15) 25 then
             bif Nat.blt (Int.toNat r15) 25 then
              some (.inl (x, (IntKind.wrap .i64 (y + (1 : Int))), a, b2, c, (b.set (Int.toNat r15) (xorI .u64 (xorI .u64 (a.getD (Int.toNat r16) (0 : Int)) (c.getD (Int.toNat (Int.tmod (IntKind.wrap .i64 (x + (4 : Int))) (5 : Int))) (0 : Int))) r17))))
             else none
            else none
           else none
          else none
         else none
        else none
       else none
      else none
     else none
    else none
   else none
  else none
 else
  some (.inr (x, a, b2, c, b))
noncomputable def ref02IColumnsL2 (x : Int) (y : Int) (a : List Int) (b2 : List Int) (c : List Int) (b : List Int) : Option (Int × List Int × List Int × List Int × List Int) := hide (iter (fun p : Int × Int × List Int × List Int × List Int × List Int => ref02IColumnsL2R p.1 p.2.1 p.2.2.1 p.2.2.2.1 p.2.2.2.2.1 p.2.2.2.2.2) (bigFuel) (x, y, a, b2, c, b))
theorem ref02IColumnsL2_eq (x : Int) (y : Int) (a : List Int) (b2 : List Int) (c : List Int) (b : List Int) : ref02IColumnsL2 x y a b2 c b = iter (fun p : Int × Int × List Int × List Int × List Int × List Int => ref02IColumnsL2R p.1 p.2.1 p.2.2.1 p.2.2.2.1 p.2.2.2.2.1 p.2.2.2.2.2) (bigFuel) (x, y, a, b2, c, b) := hide_eq _
noncomputable def ref02IColumnsL1R (x : Int) (a : List Int) (b2 : List Int) (c : List Int) (b : List Int) : Option ((Int × List Int × List Int × List Int × List Int) ⊕ (List Int × List Int)) :=
 bif (decide (x < (5 : Int))) then
  (ref02IColumnsL2 x (0 : Int) a b2 c b).bind fun q19 =>
  some (.inl ((IntKind.wrap .i64 (q19.1 + (1 : Int))), q19.2.1, q19.2.2.1, q19.2.2.2.1, q19.2.2.2.2))
 else
  some (.inr (b2, b))
noncomputable def ref02IColumnsL1 (x : Int) (a : List Int) (b2 : List Int) (c : List Int) (b : List Int) : Option (List Int × List Int) := hide (iter (fun p : Int × List Int × List Int × List Int × List Int => ref02IColumnsL1R p.1 p.2.1 p.2.2.1 p.2.2.2.1 p.2.2.2.2) (bigFuel) (x, a, b2, c, b))
theorem ref02IColumnsL1_eq (x : Int) (a : List Int) (b2 : List Int) (c : List Int) (b : List Int) : ref02IColumnsL1 x a b2 c b = iter (fun p : Int × List Int × List Int × List Int × List Int => ref02IColumnsL1R p.1 p.2.1 p.2.2.1 p.2.2.2.1 p.2.2.2.2) (bigFuel) (x, a, b2, c, b) := hide_eq _
noncomputable def ref02IColumnsB (a : List Int) : Option (List Int) :=
 (ref02IColumnsL0 (0 : Int) a (List.replicate 25 (0 : Int)) (List.replicate 5 (0 : Int))).bind fun q11 =>
 (ref02IColumnsL1 (0 : Int) q11.1 q11.2.1 q11.2.2 q11.1).bind fun q20 =>
 some q20.2
noncomputable def ref02IColumns (a : List Int) : Option (List Int) := hide (ref02IColumnsB a)
theorem ref02IColumns_eq (a : List Int) : ref02IColumns a = ref02IColumnsB a := hide_eq _
noncomputable def ref02IMovedL1R (x : Int) (y : Int) (a : List Int) (b2 : List Int) (b : List Int) : Option ((Int × Int × List Int × List Int × List Int) ⊕ (Int × List Int × List Int × List Int)) :=
 bif (decide (y < (5 : Int))) then
  (ref02IAt y (IntKind.wrap .i64 ((IntKind.wrap .i64 ((2 : Int) * x)) + (IntKind.wrap .i64 ((3 : Int) * y))))).bind fun r5 =>
  (ref02IAt x y).bind fun r6 =>
  bif decide (0 ≤ r6) then
   bif Nat.blt (Int.toNat r6) 25 then
    bif Nat.blt (Int.toNat r6) 25 then
     (ref02IAt x y).bind fun r7 =>
     bif decide (0 ≤ r7) then
      bif Nat.blt (Int.toNat r7) 25 then
       bif Nat.blt (Int.toNat r7) 25 then
        (ref02Rot (a.getD (Int.toNat r6) (0 : Int)) (kecTurnsT.getD (Int.toNat r7) (0 : Int))).bind fun r8 =>
        bif decide (0 ≤ r5) then
         bif Nat.blt (Int.toNat r5) 25 then
          bif Nat.blt (Int.toNat r5) 25 then
           some (.inl (x, (IntKind.wrap .i64 (y + (1 : Int))), a, b2, (b.set (Int.toNat r5) r8)))
          else none
         else none
        else none
       else none
      else none
     else none
    else none
   else none
  else none
 else
  some (.inr (x, a, b2, b))
noncomputable def ref02IMovedL1 (x : Int) (y : Int) (a : List Int) (b2 : List Int) (b : List Int) : Option (Int × List Int × List Int × List Int) := hide (iter (fun p : Int × Int × List Int × List Int × List Int => ref02IMovedL1R p.1 p.2.1 p.2.2.1 p.2.2.2.1 p.2.2.2.2) (bigFuel) (x, y, a, b2, b))
theorem ref02IMovedL1_eq (x : Int) (y : Int) (a : List Int) (b2 : List Int) (b : List Int) : ref02IMovedL1 x y a b2 b = iter (fun p : Int × Int × List Int × List Int × List Int => ref02IMovedL1R p.1 p.2.1 p.2.2.1 p.2.2.2.1 p.2.2.2.2) (bigFuel) (x, y, a, b2, b) := hide_eq _
noncomputable def ref02IMovedL0R (x : Int) (a : List Int) (b2 : List Int) (b : List Int) : Option ((Int × List Int × List Int × List Int) ⊕ (List Int × List Int)) :=
 bif (decide (x < (5 : Int))) then
  (ref02IMovedL1 x (0 : Int) a b2 b).bind fun q10 =>
  some (.inl ((IntKind.wrap .i64 (q10.1 + (1 : Int))), q10.2.1, q10.2.2.1, q10.2.2.2))
 else
  some (.inr (b2, b))
noncomputable def ref02IMovedL0 (x : Int) (a : List Int) (b2 : List Int) (b : List Int) : Option (List Int × List Int) := hide (iter (fun p : Int × List Int × List Int × List Int => ref02IMovedL0R p.1 p.2.1 p.2.2.1 p.2.2.2) (bigFuel) (x, a, b2, b))
theorem ref02IMovedL0_eq (x : Int) (a : List Int) (b2 : List Int) (b : List Int) : ref02IMovedL0 x a b2 b = iter (fun p : Int × List Int × List Int × List Int => ref02IMovedL0R p.1 p.2.1 p.2.2.1 p.2.2.2) (bigFuel) (x, a, b2, b) := hide_eq _
noncomputable def ref02IMovedB (a : List Int) : Option (List Int) :=
 (ref02IMovedL0 (0 : Int) a (List.replicate 25 (0 : Int)) (List.replicate 25 (0 : Int))).bind fun q11 =>
 some q11.2
noncomputable def ref02IMoved (a : List Int) : Option (List Int) := hide (ref02IMovedB a)
theorem ref02IMoved_eq (a : List Int) : ref02IMoved a = ref02IMovedB a := hide_eq _
noncomputable def ref02IMixedL1R (x : Int) (y : Int) (a : List Int) (b2 : List Int) (b : List Int) : Option ((Int × Int × List Int × List Int × List Int) ⊕ (Int × List Int × List Int × List Int)) :=
 bif (decide (y < (5 : Int))) then
  (ref02IAt x y).bind fun r5 =>
  (ref02IAt x y).bind fun r6 =>
  bif decide (0 ≤ r6) then
   bif Nat.blt (Int.toNat r6) 25 then
    bif Nat.blt (Int.toNat r6) 25 then
     (ref02IAt (IntKind.wrap .i64 (x + (1 : Int))) y).bind fun r7 =>
     bif decide (0 ≤ r7) then
      bif Nat.blt (Int.toNat r7) 25 then
       bif Nat.blt (Int.toNat r7) 25 then
        (ref02IAt (IntKind.wrap .i64 (x + (2 : Int))) y).bind fun r8 =>
        bif decide (0 ≤ r8) then
         bif Nat.blt (Int.toNat r8) 25 then
          bif Nat.blt (Int.toNat r8) 25 then
           bif decide (0 ≤ r5) then
            bif Nat.blt (Int.toNat r5) 25 then
             bif Nat.blt (Int.toNat r5) 25 then
              some (.inl (x, (IntKind.wrap .i64 (y + (1 : Int))), a, b2, (b.set (Int.toNat r5) (xorI .u64 (a.getD (Int.toNat r6) (0 : Int)) (andI .u64 (xorI .u64 (18446744073709551615) (a.getD (Int.toNat r7) (0 : Int))) (a.getD (Int.toNat r8) (0 : Int)))))))
             else none
            else none
           else none
          else none
         else none
        else none
       else none
      else none
     else none
    else none
   else none
  else none
 else
  some (.inr (x, a, b2, b))
noncomputable def ref02IMixedL1 (x : Int) (y : Int) (a : List Int) (b2 : List Int) (b : List Int) : Option (Int × List Int × List Int × List Int) := hide (iter (fun p : Int × Int × List Int × List Int × List Int => ref02IMixedL1R p.1 p.2.1 p.2.2.1 p.2.2.2.1 p.2.2.2.2) (bigFuel) (x, y, a, b2, b))
theorem ref02IMixedL1_eq (x : Int) (y : Int) (a : List Int) (b2 : List Int) (b : List Int) : ref02IMixedL1 x y a b2 b = iter (fun p : Int × Int × List Int × List Int × List Int => ref02IMixedL1R p.1 p.2.1 p.2.2.1 p.2.2.2.1 p.2.2.2.2) (bigFuel) (x, y, a, b2, b) := hide_eq _
noncomputable def ref02IMixedL0R (x : Int) (a : List Int) (b2 : List Int) (b : List Int) : Option ((Int × List Int × List Int × List Int) ⊕ (List Int × List Int)) :=
 bif (decide (x < (5 : Int))) then
  (ref02IMixedL1 x (0 : Int) a b2 b).bind fun q10 =>
  some (.inl ((IntKind.wrap .i64 (q10.1 + (1 : Int))), q10.2.1, q10.2.2.1, q10.2.2.2))
 else
  some (.inr (b2, b))
noncomputable def ref02IMixedL0 (x : Int) (a : List Int) (b2 : List Int) (b : List Int) : Option (List Int × List Int) := hide (iter (fun p : Int × List Int × List Int × List Int => ref02IMixedL0R p.1 p.2.1 p.2.2.1 p.2.2.2) (bigFuel) (x, a, b2, b))
theorem ref02IMixedL0_eq (x : Int) (a : List Int) (b2 : List Int) (b : List Int) : ref02IMixedL0 x a b2 b = iter (fun p : Int × List Int × List Int × List Int => ref02IMixedL0R p.1 p.2.1 p.2.2.1 p.2.2.2) (bigFuel) (x, a, b2, b) := hide_eq _
noncomputable def ref02IMixedB (a : List Int) : Option (List Int) :=
 (ref02IMixedL0 (0 : Int) a (List.replicate 25 (0 : Int)) (List.replicate 25 (0 : Int))).bind fun q11 =>
 some q11.2
noncomputable def ref02IMixed (a : List Int) : Option (List Int) := hide (ref02IMixedB a)
theorem ref02IMixed_eq (a : List Int) : ref02IMixed a = ref02IMixedB a := hide_eq _
noncomputable def ref02PermuteL0R (i : Int) (b2 : List Int) (a : List Int) : Option ((Int × List Int × List Int) ⊕ (List Int × List Int)) :=
 bif (decide (i < (24 : Int))) then
  (ref02IColumns a).bind fun r4 =>
  (ref02IMoved r4).bind fun r5 =>
  (ref02IMixed r5).bind fun r6 =>
  bif decide (0 ≤ i) then
   bif Nat.blt (Int.toNat i) 24 then
    bif Nat.blt (Int.toNat i) 24 then
     some (.inl ((IntKind.wrap .i64 (i + (1 : Int))), b2, (r6.set 0 (xorI .u64 (r6.getD 0 (0 : Int)) (kecRoundsT.getD (Int.toNat i) (0 : Int))))))
    else none
   else none
  else none
 else
  some (.inr (b2, a))
noncomputable def ref02PermuteL0 (i : Int) (b2 : List Int) (a : List Int) : Option (List Int × List Int) := hide (iter (fun p : Int × List Int × List Int => ref02PermuteL0R p.1 p.2.1 p.2.2) (bigFuel) (i, b2, a))
theorem ref02PermuteL0_eq (i : Int) (b2 : List Int) (a : List Int) : ref02PermuteL0 i b2 a = iter (fun p : Int × List Int × List Int => ref02PermuteL0R p.1 p.2.1 p.2.2) (bigFuel) (i, b2, a) := hide_eq _
noncomputable def ref02PermuteB (lanes : List Int) : Option (List Int) :=
 (ref02PermuteL0 (0 : Int) (List.replicate 25 (0 : Int)) lanes).bind fun q7 =>
 some q7.2
noncomputable def ref02Permute (lanes : List Int) : Option (List Int) := hide (ref02PermuteB lanes)
theorem ref02Permute_eq (lanes : List Int) : ref02Permute lanes = ref02PermuteB lanes := hide_eq _
noncomputable def ref02DigestL1R (l : List Int) (fromV : Int) (k : Int) (b4 : List Int) (a : List Int) : Option ((List Int × Int × Int × List Int × List Int) ⊕ (List Int × Int × List Int × List Int)) :=
 bif (decide (k < (136 : Int))) then
  bif decide (0 ≤ (IntKind.wrap .i64 (Int.tdiv k (8 : Int)))) then
   bif Nat.blt (Int.toNat (IntKind.wrap .i64 (Int.tdiv k (8 : Int)))) 25 then
    bif Nat.blt (Int.toNat (IntKind.wrap .i64 (Int.tdiv k (8 : Int)))) 25 then
     bif decide (0 ≤ (IntKind.wrap .i64 (fromV + k))) then
      bif Nat.blt (Int.toNat (IntKind.wrap .i64 (fromV + k))) l.length then
       bif decide ((IntKind.wrap .u64 (IntKind.wrap .i64 ((8 : Int) * (Int.tmod k (8 : Int))))) < 0) then
        none
       else
        bif decide (0 ≤ (IntKind.wrap .i64 (Int.tdiv k (8 : Int)))) then
         bif Nat.blt (Int.toNat (IntKind.wrap .i64 (Int.tdiv k (8 : Int)))) 25 then
          bif Nat.blt (Int.toNat (IntKind.wrap .i64 (Int.tdiv k (8 : Int)))) 25 then
           some (.inl (l, fromV, (IntKind.wrap .i64 (k + (1 : Int))), b4, (a.set (Int.toNat (IntKind.wrap .i64 (Int.tdiv k (8 : Int)))) (xorI .u64 (a.getD (Int.toNat (IntKind.wrap .i64 (Int.tdiv k (8 : Int)))) (0 : Int)) (shlI .u64 (IntKind.wrap .u64 (l.getD (Int.toNat (IntKind.wrap .i64 (fromV + k))) (0 : Int))) (IntKind.wrap .u64 (IntKind.wrap .i64 ((8 : Int) * (Int.tmod k (8 : Int))))))))))
          else none
         else none
        else none
      else none
     else none
    else none
   else none
  else none
 else
  some (.inr (l, fromV, b4, a))
noncomputable def ref02DigestL1 (l : List Int) (fromV : Int) (k : Int) (b4 : List Int) (a : List Int) : Option (List Int × Int × List Int × List Int) := hide (iter (fun p : List Int × Int × Int × List Int × List Int => ref02DigestL1R p.1 p.2.1 p.2.2.1 p.2.2.2.1 p.2.2.2.2) (bigFuel) (l, fromV, k, b4, a))
theorem ref02DigestL1_eq (l : List Int) (fromV : Int) (k : Int) (b4 : List Int) (a : List Int) : ref02DigestL1 l fromV k b4 a = iter (fun p : List Int × Int × Int × List Int × List Int => ref02DigestL1R p.1 p.2.1 p.2.2.1 p.2.2.2.1 p.2.2.2.2) (bigFuel) (l, fromV, k, b4, a) := hide_eq _
noncomputable def ref02DigestL0R (l : List Int) (fromV : Int) (b4 : List Int) (a : List Int) : Option ((List Int × Int × List Int × List Int) ⊕ (List Int × List Int)) :=
 bif (decide (fromV < ((l.length : Nat) : Int))) then
  (ref02DigestL1 l fromV (0 : Int) b4 a).bind fun q4 =>
  (ref02Permute q4.2.2.2).bind fun r5 =>
  some (.inl (q4.1, (IntKind.wrap .i64 (q4.2.1 + (136 : Int))), q4.2.2.1, r5))
 else
  some (.inr (b4, a))
noncomputable def ref02DigestL0 (l : List Int) (fromV : Int) (b4 : List Int) (a : List Int) : Option (List Int × List Int) := hide (iter (fun p : List Int × Int × List Int × List Int => ref02DigestL0R p.1 p.2.1 p.2.2.1 p.2.2.2) (bigFuel) (l, fromV, b4, a))
theorem ref02DigestL0_eq (l : List Int) (fromV : Int) (b4 : List Int) (a : List Int) : ref02DigestL0 l fromV b4 a = iter (fun p : List Int × Int × List Int × List Int => ref02DigestL0R p.1 p.2.1 p.2.2.1 p.2.2.2) (bigFuel) (l, fromV, b4, a) := hide_eq _
noncomputable def ref02DigestL2R (k : Int) (b4 : List Int) (a : List Int) (h : List Int) : Option ((Int × List Int × List Int × List Int) ⊕ (List Int × List Int)) :=
 bif (decide (k < (32 : Int))) then
  bif decide (0 ≤ (IntKind.wrap .i64 (Int.tdiv k (8 : Int)))) then
   bif Nat.blt (Int.toNat (IntKind.wrap .i64 (Int.tdiv k (8 : Int)))) 25 then
    bif Nat.blt (Int.toNat (IntKind.wrap .i64 (Int.tdiv k (8 : Int)))) 25 then
     bif decide ((IntKind.wrap .u64 (IntKind.wrap .i64 ((8 : Int) * (Int.tmod k (8 : Int))))) < 0) then
      none
     else
      bif decide (0 ≤ k) then
       bif Nat.blt (Int.toNat k) 32 then
        bif Nat.blt (Int.toNat k) 32 then
         some (.inl ((IntKind.wrap .i64 (k + (1 : Int))), b4, a, (h.set (Int.toNat k) (IntKind.wrap .u8 (shrI .u64 (a.getD (Int.toNat (IntKind.wrap .i64 (Int.tdiv k (8 : Int)))) (0 : Int)) (IntKind.wrap .u64 (IntKind.wrap .i64 ((8 : Int) * (Int.tmod k (8 : Int))))))))))
        else none
       else none
      else none
    else none
   else none
  else none
 else
  some (.inr (b4, h))
noncomputable def ref02DigestL2 (k : Int) (b4 : List Int) (a : List Int) (h : List Int) : Option (List Int × List Int) := hide (iter (fun p : Int × List Int × List Int × List Int => ref02DigestL2R p.1 p.2.1 p.2.2.1 p.2.2.2) (bigFuel) (k, b4, a, h))
theorem ref02DigestL2_eq (k : Int) (b4 : List Int) (a : List Int) (h : List Int) : ref02DigestL2 k b4 a h = iter (fun p : Int × List Int × List Int × List Int => ref02DigestL2R p.1 p.2.1 p.2.2.1 p.2.2.2) (bigFuel) (k, b4, a, h) := hide_eq _
noncomputable def ref02DigestB (text : List Int) (first : Int) : Option (List Int) :=
 (ref02IFilled text first).bind fun r1 =>
 (ref02DigestL0 r1 (0 : Int) (List.replicate 32 (0 : Int)) (List.replicate 25 (0 : Int))).bind fun q6 =>
 (ref02DigestL2 (0 : Int) q6.1 q6.2 (List.replicate 32 (0 : Int))).bind fun q7 =>
 some q7.2
noncomputable def ref02Digest (text : List Int) (first : Int) : Option (List Int) := hide (ref02DigestB text first)
theorem ref02Digest_eq (text : List Int) (first : Int) : ref02Digest text first = ref02DigestB text first := hide_eq _
noncomputable def ref02SumB (parts : List (List Int)) : Option (List Int) :=
 (ref02IJoined parts).bind fun r1 =>
 (ref02Digest r1 (1 : Int)).bind fun r2 =>
 some r2
noncomputable def ref02Sum (parts : List (List Int)) : Option (List Int) := hide (ref02SumB parts)
theorem ref02Sum_eq (parts : List (List Int)) : ref02Sum parts = ref02SumB parts := hide_eq _
noncomputable def ref22TopicB (text : List UInt8) : Option (List Int × Int) :=
 (ref22Signature text).bind fun r1 =>
 bif (r1.2.2 != (0 : Int)) then
  some ((List.replicate 32 (0 : Int)), r1.2.2)
 else
  (ref02Sum [(List.map (fun (c : UInt8) => ((c.toNat : Nat) : Int)) r1.1)]).bind fun r2 =>
  some (r2, (0 : Int))
noncomputable def ref22Topic (text : List UInt8) : Option (List Int × Int) := hide (ref22TopicB text)
theorem ref22Topic_eq (text : List UInt8) : ref22Topic text = ref22TopicB text := hide_eq _
noncomputable def ref22SelectorB (text : List UInt8) : Option (List Int × Int) :=
 (ref22Topic text).bind fun r1 =>
 some ((((((List.replicate 4 (0 : Int)).set 0 (r1.1.getD 0 (0 : Int))).set 1 (r1.1.getD 1 (0 : Int))).set 2 (r1.1.getD 2 (0 : Int))).set 3 (r1.1.getD 3 (0 : Int))), r1.2)
noncomputable def ref22Selector (text : List UInt8) : Option (List Int × Int) := hide (ref22SelectorB text)
theorem ref22Selector_eq (text : List UInt8) : ref22Selector text = ref22SelectorB text := hide_eq _
noncomputable def law22AbiNamesB (text : List UInt8) : Option (Bool) :=
 (abiSignature text).bind fun r1 =>
 (ref22Signature text).bind fun r2 =>
 bif (!(r1.1 == r2.1)) then
  some false
 else
  (law22IWords r1.2.1 r2.2.1).bind fun r3 =>
  bif (!r3) then
   some false
  else
   (law22INum r1.2.2).bind fun r4 =>
   bif (r4 != r2.2.2) then
    some false
   else
    (abiSelector text).bind fun r5 =>
    (ref22Selector text).bind fun r6 =>
    bif (!(r5.1 == r6.1)) then
     some false
    else
     (law22INum r5.2).bind fun r7 =>
     bif (r7 != r6.2) then
      some false
     else
      (abiTopic text).bind fun r8 =>
      (ref22Topic text).bind fun r9 =>
      bif (r8.1 == r9.1) then
       (law22INum r8.2).bind fun r10 =>
       some (r10 == r9.2)
      else
       some false
noncomputable def law22AbiNames (text : List UInt8) : Option (Bool) := hide (law22AbiNamesB text)
theorem law22AbiNames_eq (text : List UInt8) : law22AbiNames text = law22AbiNamesB text := hide_eq _
end Go.Sy
