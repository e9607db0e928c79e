/- Typed functions, printed by a program out of the code: what each function of the code computes. -/
import Derived.Test.YtapnedegcnmhgaaDoorSyVlib
set_option linter.unusedVariables false
namespace Go.Sy
open Go
def strC0 : List UInt8 := [44]
def strC1 : List UInt8 := [40]
def strC2 : List UInt8 := [41]
def strC3 : List UInt8 := [91, 93]
def strC4 : List UInt8 := [91]
def strC5 : List UInt8 := [93]
def strC6 : List UInt8 := [117, 105, 110, 116]
def strC7 : List UInt8 := [105, 110, 116]
def strC8 : List UInt8 := [98, 121, 116, 101, 115]
def strC9 : List UInt8 := [97, 100, 100, 114, 101, 115, 115]
def strC10 : List UInt8 := [98, 111, 111, 108]
def strC11 : List UInt8 := [115, 116, 114, 105, 110, 103]
noncomputable def abiReaderFailB (r : List UInt8 × Int) : Option ((Unit) ⊕ (Unit)) :=
 some (.inr ())
noncomputable def abiReaderFail (r : List UInt8 × Int) : Option ((Unit) ⊕ (Unit)) := hide (abiReaderFailB r)
theorem abiReaderFail_eq (r : List UInt8 × Int) : abiReaderFail r = abiReaderFailB r := hide_eq _
noncomputable def abiReaderIsB (r : List UInt8 × Int) (c : Int) : Option (Bool × List UInt8 × Int) :=
 bif (decide (r.2 < ((r.1.length : Nat) : Int))) then
  bif decide (0 ≤ r.2) then
   bif Nat.blt (Int.toNat r.2) r.1.length then
    bif ((((List.getD r.1 (Int.toNat r.2) 0).toNat : Nat) : Int) == c) then
     some (true, (r.1, (IntKind.wrap .i64 (r.2 + (1 : Int)))))
    else
     some (false, r)
   else none
  else none
 else
  some (false, r)
noncomputable def abiReaderIs (r : List UInt8 × Int) (c : Int) : Option (Bool × List UInt8 × Int) := hide (abiReaderIsB r c)
theorem abiReaderIs_eq (r : List UInt8 × Int) (c : Int) : abiReaderIs r c = abiReaderIsB r c := hide_eq _
noncomputable def abiITupleOfL0R (s10 : List KT) (s11 : Int) (s12 : Int) (b9 : Int × Int × List KT × List UInt8 × Bool × Int × Int × Int) (b93 : List (List UInt8)) : Option ((List KT × Int × Int × (Int × Int × List KT × List UInt8 × Bool × Int × Int × Int) × List (List UInt8)) ⊕ ((Int × Int × List KT × List UInt8 × Bool × Int × Int × Int) × List (List UInt8))) :=
 bif (decide (s12 < s11)) then
  bif decide (0 ≤ s12) then
   bif Nat.blt (Int.toNat s12) s10.length then
    bif b9.2.2.2.2.1 then
     bif (KT.ok (s10.getD (Int.toNat s12) KT.none)) then
      bif (KT.ok (s10.getD (Int.toNat s12) KT.none)) then
       bif (KT.ok (s10.getD (Int.toNat s12) KT.none)) then
        bif (KT.ok (s10.getD (Int.toNat s12) KT.none)) then
         bif roomB 16 (b93.length + [(KT.text (s10.getD (Int.toNat s12) KT.none))].length) then
          some (.inl (s10, s11, (IntKind.wrap .i64 (s12 + (1 : Int))), (b9.1, b9.2.1, b9.2.2.1, b9.2.2.2.1, true, (IntKind.wrap .i64 (b9.2.2.2.2.2.1 + (KT.head (s10.getD (Int.toNat s12) KT.none)))), (IntKind.wrap .i64 (b9.2.2.2.2.2.2.1 + (KT.width (s10.getD (Int.toNat s12) KT.none)))), (if b9.2.2.2.2.2.2.2 < (KT.deep (s10.getD (Int.toNat s12) KT.none)) then (KT.deep (s10.getD (Int.toNat s12) KT.none)) else b9.2.2.2.2.2.2.2)), (b93 ++ [(KT.text (s10.getD (Int.toNat s12) KT.none))])))
         else none
        else none
       else none
      else none
     else none
    else
     bif (KT.ok (s10.getD (Int.toNat s12) KT.none)) then
      bif (KT.ok (s10.getD (Int.toNat s12) KT.none)) then
       bif (KT.ok (s10.getD (Int.toNat s12) KT.none)) then
        bif (KT.ok (s10.getD (Int.toNat s12) KT.none)) then
         bif (KT.ok (s10.getD (Int.toNat s12) KT.none)) then
          bif roomB 16 (b93.length + [(KT.text (s10.getD (Int.toNat s12) KT.none))].length) then
           some (.inl (s10, s11, (IntKind.wrap .i64 (s12 + (1 : Int))), (b9.1, b9.2.1, b9.2.2.1, b9.2.2.2.1, (KT.dyn (s10.getD (Int.toNat s12) KT.none)), (IntKind.wrap .i64 (b9.2.2.2.2.2.1 + (KT.head (s10.getD (Int.toNat s12) KT.none)))), (IntKind.wrap .i64 (b9.2.2.2.2.2.2.1 + (KT.width (s10.getD (Int.toNat s12) KT.none)))), (if b9.2.2.2.2.2.2.2 < (KT.deep (s10.getD (Int.toNat s12) KT.none)) then (KT.deep (s10.getD (Int.toNat s12) KT.none)) else b9.2.2.2.2.2.2.2)), (b93 ++ [(KT.text (s10.getD (Int.toNat s12) KT.none))])))
          else none
         else none
        else none
       else none
      else none
     else none
   else none
  else none
 else
  some (.inr (b9, b93))
noncomputable def abiITupleOfL0 (s10 : List KT) (s11 : Int) (s12 : Int) (b9 : Int × Int × List KT × List UInt8 × Bool × Int × Int × Int) (b93 : List (List UInt8)) : Option ((Int × Int × List KT × List UInt8 × Bool × Int × Int × Int) × List (List UInt8)) := hide (iter (fun p : List KT × Int × Int × (Int × Int × List KT × List UInt8 × Bool × Int × Int × Int) × List (List UInt8) => abiITupleOfL0R p.1 p.2.1 p.2.2.1 p.2.2.2.1 p.2.2.2.2) (bigFuel) (s10, s11, s12, b9, b93))
theorem abiITupleOfL0_eq (s10 : List KT) (s11 : Int) (s12 : Int) (b9 : Int × Int × List KT × List UInt8 × Bool × Int × Int × Int) (b93 : List (List UInt8)) : abiITupleOfL0 s10 s11 s12 b9 b93 = iter (fun p : List KT × Int × Int × (Int × Int × List KT × List UInt8 × Bool × Int × Int × Int) × List (List UInt8) => abiITupleOfL0R p.1 p.2.1 p.2.2.1 p.2.2.2.1 p.2.2.2.2) (bigFuel) (s10, s11, s12, b9, b93) := hide_eq _
noncomputable def abiITupleOfB (l : List KT) : Option (KT) :=
 (abiITupleOfL0 l ((l.length : Nat) : Int) (0 : Int) ((9 : Int), (0 : Int), l, ([] : List UInt8), false, (0 : Int), (0 : Int), (0 : Int)) ([] : List (List UInt8))).bind fun q1 =>
 bif q1.1.2.2.2.2.1 then
  (goJoin q1.2 strC0).bind fun r2 =>
  bif Nat.ble (strC1.length + r2.length) 9223372036854775807 then
   bif Nat.ble ((strC1 ++ r2).length + strC2.length) 9223372036854775807 then
    some (KT.mk true q1.1.1 q1.1.2.1 q1.1.2.2.1 ((strC1 ++ r2) ++ strC2) q1.1.2.2.2.2.1 (1 : Int) q1.1.2.2.2.2.2.2.1 (IntKind.wrap .i64 (q1.1.2.2.2.2.2.2.2 + (1 : Int))))
   else none
  else none
 else
  (goJoin q1.2 strC0).bind fun r3 =>
  bif Nat.ble (strC1.length + r3.length) 9223372036854775807 then
   bif Nat.ble ((strC1 ++ r3).length + strC2.length) 9223372036854775807 then
    some (KT.mk true q1.1.1 q1.1.2.1 q1.1.2.2.1 ((strC1 ++ r3) ++ strC2) q1.1.2.2.2.2.1 q1.1.2.2.2.2.2.1 q1.1.2.2.2.2.2.2.1 (IntKind.wrap .i64 (q1.1.2.2.2.2.2.2.2 + (1 : Int))))
   else none
  else none
noncomputable def abiITupleOf (l : List KT) : Option (KT) := hide (abiITupleOfB l)
theorem abiITupleOf_eq (l : List KT) : abiITupleOf l = abiITupleOfB l := hide_eq _
noncomputable def abiReaderSoundB (r : List UInt8 × Int) (k : KT) : Option ((Unit) ⊕ (Unit)) :=
 bif (KT.ok k) then
  bif (decide ((KT.deep k) > (32 : Int))) then
   (abiReaderFail r).bind fun r1 =>
   sumK r1 (fun r2 =>
    some (.inl ()))
    (fun r3 =>
    some (.inr ()))
  else
   bif (KT.ok k) then
    bif (decide ((KT.width k) > (65536 : Int))) then
     (abiReaderFail r).bind fun r4 =>
     sumK r4 (fun r5 =>
      some (.inl ()))
      (fun r6 =>
      some (.inr ()))
    else
     some (.inl ())
   else none
 else none
noncomputable def abiReaderSound (r : List UInt8 × Int) (k : KT) : Option ((Unit) ⊕ (Unit)) := hide (abiReaderSoundB r k)
theorem abiReaderSound_eq (r : List UInt8 × Int) (k : KT) : abiReaderSound r k = abiReaderSoundB r k := hide_eq _
noncomputable def internalstringsliteHasPrefixB (s : List UInt8) (prefixV : List UInt8) : Option (Bool) :=
 bif (decide (((s.length : Nat) : Int) ≥ ((prefixV.length : Nat) : Int))) then
  bif decide (0 ≤ ((prefixV.length : Nat) : Int)) then
   bif Nat.ble (Int.toNat ((prefixV.length : Nat) : Int)) s.length then
    some ((List.take ((Int.toNat ((prefixV.length : Nat) : Int)) - 0) (List.drop 0 s)) == prefixV)
   else none
  else none
 else
  some false
noncomputable def internalstringsliteHasPrefix (s : List UInt8) (prefixV : List UInt8) : Option (Bool) := hide (internalstringsliteHasPrefixB s prefixV)
theorem internalstringsliteHasPrefix_eq (s : List UInt8) (prefixV : List UInt8) : internalstringsliteHasPrefix s prefixV = internalstringsliteHasPrefixB s prefixV := hide_eq _
noncomputable def stringsHasPrefixB (s : List UInt8) (prefixV : List UInt8) : Option (Bool) :=
 (internalstringsliteHasPrefix s prefixV).bind fun r1 =>
 some r1
noncomputable def stringsHasPrefix (s : List UInt8) (prefixV : List UInt8) : Option (Bool) := hide (stringsHasPrefixB s prefixV)
theorem stringsHasPrefix_eq (s : List UInt8) (prefixV : List UInt8) : stringsHasPrefix s prefixV = stringsHasPrefixB s prefixV := hide_eq _
noncomputable def abiReaderNumberL0R (bound : Int) (n : Int) (fromV : Int) (r : List UInt8 × Int) : Option ((Int × Int × Int × (List UInt8 × Int)) ⊕ ((Unit × List UInt8 × Int) ⊕ (Int × List UInt8 × Int))) :=
 bif (decide (r.2 < ((r.1.length : Nat) : Int))) then
  bif decide (0 ≤ r.2) then
   bif Nat.blt (Int.toNat r.2) r.1.length then
    bif (decide ((((List.getD r.1 (Int.toNat r.2) 0).toNat : Nat) : Int) ≥ (48 : Int))) then
     bif decide (0 ≤ r.2) then
      bif Nat.blt (Int.toNat r.2) r.1.length then
       bif (decide ((((List.getD r.1 (Int.toNat r.2) 0).toNat : Nat) : Int) ≤ (57 : Int))) then
        bif decide (0 ≤ r.2) then
         bif Nat.blt (Int.toNat r.2) r.1.length then
          bif (decide ((IntKind.wrap .i64 ((IntKind.wrap .i64 ((10 : Int) * n)) + (IntKind.wrap .i64 (IntKind.wrap .u8 ((((List.getD r.1 (Int.toNat r.2) 0).toNat : Nat) : Int) - (48 : Int)))))) > bound)) then
           (abiReaderFail r).bind fun r7 =>
           sumK r7 (fun r8 =>
            some (.inl (bound, (IntKind.wrap .i64 ((IntKind.wrap .i64 ((10 : Int) * n)) + (IntKind.wrap .i64 (IntKind.wrap .u8 ((((List.getD r.1 (Int.toNat r.2) 0).toNat : Nat) : Int) - (48 : Int)))))), fromV, (r.1, (IntKind.wrap .i64 (r.2 + (1 : Int)))))))
            (fun r9 =>
            some (.inr (.inl ((), r))))
          else
           bif decide (0 ≤ fromV) then
            bif Nat.blt (Int.toNat fromV) r.1.length then
             bif ((((List.getD r.1 (Int.toNat fromV) 0).toNat : Nat) : Int) == (48 : Int)) then
              (abiReaderFail r).bind fun r10 =>
              sumK r10 (fun r11 =>
               some (.inl (bound, (IntKind.wrap .i64 ((IntKind.wrap .i64 ((10 : Int) * n)) + (IntKind.wrap .i64 (IntKind.wrap .u8 ((((List.getD r.1 (Int.toNat r.2) 0).toNat : Nat) : Int) - (48 : Int)))))), fromV, (r.1, (IntKind.wrap .i64 (r.2 + (1 : Int)))))))
               (fun r12 =>
               some (.inr (.inl ((), r))))
             else
              some (.inl (bound, (IntKind.wrap .i64 ((IntKind.wrap .i64 ((10 : Int) * n)) + (IntKind.wrap .i64 (IntKind.wrap .u8 ((((List.getD r.1 (Int.toNat r.2) 0).toNat : Nat) : Int) - (48 : Int)))))), fromV, (r.1, (IntKind.wrap .i64 (r.2 + (1 : Int))))))
            else none
           else none
         else none
        else none
       else
        some (.inr (.inr (n, r)))
      else none
     else none
    else
     some (.inr (.inr (n, r)))
   else none
  else none
 else
  some (.inr (.inr (n, r)))
noncomputable def abiReaderNumberL0 (bound : Int) (n : Int) (fromV : Int) (r : List UInt8 × Int) : Option ((Unit × List UInt8 × Int) ⊕ (Int × List UInt8 × Int)) := hide (iter (fun p : Int × Int × Int × (List UInt8 × Int) => abiReaderNumberL0R p.1 p.2.1 p.2.2.1 p.2.2.2) (bigFuel) (bound, n, fromV, r))
theorem abiReaderNumberL0_eq (bound : Int) (n : Int) (fromV : Int) (r : List UInt8 × Int) : abiReaderNumberL0 bound n fromV r = iter (fun p : Int × Int × Int × (List UInt8 × Int) => abiReaderNumberL0R p.1 p.2.1 p.2.2.1 p.2.2.2) (bigFuel) (bound, n, fromV, r) := hide_eq _
noncomputable def abiReaderNumberB (r : List UInt8 × Int) (bound : Int) : Option ((Int × List UInt8 × Int) ⊕ (Unit)) :=
 (abiReaderNumberL0 bound (0 : Int) r.2 r).bind fun q13 =>
 sumK q13 (fun q14 =>
  some (.inr ()))
  (fun q15 =>
  some (.inl q15))
noncomputable def abiReaderNumber (r : List UInt8 × Int) (bound : Int) : Option ((Int × List UInt8 × Int) ⊕ (Unit)) := hide (abiReaderNumberB r bound)
theorem abiReaderNumber_eq (r : List UInt8 × Int) (bound : Int) : abiReaderNumber r bound = abiReaderNumberB r bound := hide_eq _
noncomputable def abiReaderRestB (r : List UInt8 × Int) (b : List UInt8 × Int × Int × Int × Int × Int) : Option ((KT × List UInt8 × Int) ⊕ (Unit)) :=
 bif (b.2.2.2.1 == (0 : Int)) then
  some (.inl ((KT.mk true b.2.1 (0 : Int) ([] : List KT) b.1 (b.2.1 == (6 : Int)) (1 : Int) (1 : Int) (0 : Int)), r))
 else
  (abiReaderNumber r b.2.2.2.1).bind fun r1 =>
  sumK r1 (fun r2 =>
   bif (r2.1 == (0 : Int)) then
    bif (decide (b.2.2.2.2.2 > (0 : Int))) then
     (goItoa b.2.2.2.2.2).bind fun r4 =>
     bif Nat.ble (b.1.length + r4.length) 9223372036854775807 then
      some (.inl ((KT.mk true b.2.1 b.2.2.2.2.2 ([] : List KT) (b.1 ++ r4) (b.2.1 == (6 : Int)) (1 : Int) (1 : Int) (0 : Int)), r2.2))
     else none
    else
     bif (r2.1 == (0 : Int)) then
      some (.inl ((KT.mk true (5 : Int) (0 : Int) ([] : List KT) b.1 true (1 : Int) (1 : Int) (0 : Int)), r2.2))
     else
      bif (b.2.2.2.2.1 == 0) then
       none
      else
       bif ((Int.tmod r2.1 b.2.2.2.2.1) != (0 : Int)) then
        (abiReaderFail r2.2).bind fun r5 =>
        sumK r5 (fun r6 =>
         (goItoa r2.1).bind fun r8 =>
         bif Nat.ble (b.1.length + r8.length) 9223372036854775807 then
          some (.inl ((KT.mk true b.2.1 r2.1 ([] : List KT) (b.1 ++ r8) (b.2.1 == (6 : Int)) (1 : Int) (1 : Int) (0 : Int)), r2.2))
         else none)
         (fun r7 =>
         some (.inr ()))
       else
        bif (decide (r2.1 < b.2.2.1)) then
         (abiReaderFail r2.2).bind fun r9 =>
         sumK r9 (fun r10 =>
          (goItoa r2.1).bind fun r12 =>
          bif Nat.ble (b.1.length + r12.length) 9223372036854775807 then
           some (.inl ((KT.mk true b.2.1 r2.1 ([] : List KT) (b.1 ++ r12) (b.2.1 == (6 : Int)) (1 : Int) (1 : Int) (0 : Int)), r2.2))
          else none)
          (fun r11 =>
          some (.inr ()))
        else
         (goItoa r2.1).bind fun r13 =>
         bif Nat.ble (b.1.length + r13.length) 9223372036854775807 then
          some (.inl ((KT.mk true b.2.1 r2.1 ([] : List KT) (b.1 ++ r13) (b.2.1 == (6 : Int)) (1 : Int) (1 : Int) (0 : Int)), r2.2))
         else none
   else
    bif (r2.1 == (0 : Int)) then
     some (.inl ((KT.mk true (5 : Int) (0 : Int) ([] : List KT) b.1 true (1 : Int) (1 : Int) (0 : Int)), r2.2))
    else
     bif (b.2.2.2.2.1 == 0) then
      none
     else
      bif ((Int.tmod r2.1 b.2.2.2.2.1) != (0 : Int)) then
       (abiReaderFail r2.2).bind fun r14 =>
       sumK r14 (fun r15 =>
        (goItoa r2.1).bind fun r17 =>
        bif Nat.ble (b.1.length + r17.length) 9223372036854775807 then
         some (.inl ((KT.mk true b.2.1 r2.1 ([] : List KT) (b.1 ++ r17) (b.2.1 == (6 : Int)) (1 : Int) (1 : Int) (0 : Int)), r2.2))
        else none)
        (fun r16 =>
        some (.inr ()))
      else
       bif (decide (r2.1 < b.2.2.1)) then
        (abiReaderFail r2.2).bind fun r18 =>
        sumK r18 (fun r19 =>
         (goItoa r2.1).bind fun r21 =>
         bif Nat.ble (b.1.length + r21.length) 9223372036854775807 then
          some (.inl ((KT.mk true b.2.1 r2.1 ([] : List KT) (b.1 ++ r21) (b.2.1 == (6 : Int)) (1 : Int) (1 : Int) (0 : Int)), r2.2))
         else none)
         (fun r20 =>
         some (.inr ()))
       else
        (goItoa r2.1).bind fun r22 =>
        bif Nat.ble (b.1.length + r22.length) 9223372036854775807 then
         some (.inl ((KT.mk true b.2.1 r2.1 ([] : List KT) (b.1 ++ r22) (b.2.1 == (6 : Int)) (1 : Int) (1 : Int) (0 : Int)), r2.2))
        else none)
   (fun r3 =>
   some (.inr ()))
noncomputable def abiReaderRest (r : List UInt8 × Int) (b : List UInt8 × Int × Int × Int × Int × Int) : Option ((KT × List UInt8 × Int) ⊕ (Unit)) := hide (abiReaderRestB r b)
theorem abiReaderRest_eq (r : List UInt8 × Int) (b : List UInt8 × Int × Int × Int × Int × Int) : abiReaderRest r b = abiReaderRestB r b := hide_eq _
noncomputable def abiIListOfB (k : KT) (n : Int) : Option (KT) :=
 bif (KT.ok k) then
  bif Nat.ble ((KT.text k).length + strC3.length) 9223372036854775807 then
   bif (KT.ok k) then
    bif (decide (n > (0 : Int))) then
     bif (KT.ok k) then
      bif Nat.ble ((KT.text k).length + strC4.length) 9223372036854775807 then
       (goItoa n).bind fun r1 =>
       bif Nat.ble (((KT.text k) ++ strC4).length + r1.length) 9223372036854775807 then
        bif Nat.ble ((((KT.text k) ++ strC4) ++ r1).length + strC5.length) 9223372036854775807 then
         bif (KT.ok k) then
          bif (KT.ok k) then
           bif (KT.ok k) then
            bif (!(KT.dyn k)) then
             bif (KT.ok k) then
              some (KT.mk true (8 : Int) n [k] ((((KT.text k) ++ strC4) ++ r1) ++ strC5) (KT.dyn k) (IntKind.wrap .i64 (n * (KT.head k))) (IntKind.wrap .i64 (n * (KT.width k))) (IntKind.wrap .i64 ((KT.deep k) + (1 : Int))))
             else none
            else
             some (KT.mk true (8 : Int) n [k] ((((KT.text k) ++ strC4) ++ r1) ++ strC5) (KT.dyn k) (1 : Int) (IntKind.wrap .i64 (n * (KT.width k))) (IntKind.wrap .i64 ((KT.deep k) + (1 : Int))))
           else none
          else none
         else none
        else none
       else none
      else none
     else none
    else
     some (KT.mk true (7 : Int) (0 : Int) [k] ((KT.text k) ++ strC3) true (1 : Int) (1 : Int) (IntKind.wrap .i64 ((KT.deep k) + (1 : Int))))
   else none
  else none
 else none
noncomputable def abiIListOf (k : KT) (n : Int) : Option (KT) := hide (abiIListOfB k n)
theorem abiIListOf_eq (k : KT) (n : Int) : abiIListOf k n = abiIListOfB k n := hide_eq _
structure ringAbiReaderKind where
 abiReaderKind : (List UInt8 × Int) → Option ((KT × List UInt8 × Int) ⊕ (Unit))
 abiReaderRow : (List UInt8 × Int) → Option ((List KT × List UInt8 × Int) ⊕ (Unit))
 abiReaderFirst : (List UInt8 × Int) → Option ((KT × List UInt8 × Int) ⊕ (Unit))
noncomputable def abiReaderKindL0R (g : ringAbiReaderKind) (k : KT) (r : List UInt8 × Int) : Option ((KT × (List UInt8 × Int)) ⊕ (Unit ⊕ (KT × List UInt8 × Int))) :=
 (abiReaderIs r (91 : Int)).bind fun r20 =>
 bif r20.1 then
  (abiReaderNumber r20.2 (65535 : Int)).bind fun r21 =>
  sumK r21 (fun r22 =>
   (abiReaderIs r22.2 (93 : Int)).bind fun r24 =>
   bif (!r24.1) then
    (abiReaderFail r24.2).bind fun r25 =>
    sumK r25 (fun r26 =>
     (abiIListOf k r22.1).bind fun r28 =>
     (abiReaderSound r24.2 r28).bind fun r29 =>
     sumK r29 (fun r30 =>
      some (.inl (r28, r24.2)))
      (fun r31 =>
      some (.inr (.inl ()))))
     (fun r27 =>
     some (.inr (.inl ())))
   else
    (abiIListOf k r22.1).bind fun r32 =>
    (abiReaderSound r24.2 r32).bind fun r33 =>
    sumK r33 (fun r34 =>
     some (.inl (r32, r24.2)))
     (fun r35 =>
     some (.inr (.inl ()))))
   (fun r23 =>
   some (.inr (.inl ())))
 else
  some (.inr (.inr (k, r20.2)))
noncomputable def abiReaderKindL0 (g : ringAbiReaderKind) (k : KT) (r : List UInt8 × Int) : Option (Unit ⊕ (KT × List UInt8 × Int)) := hide (iter (fun p : KT × (List UInt8 × Int) => abiReaderKindL0R g p.1 p.2) (bigFuel) (k, r))
theorem abiReaderKindL0_eq (g : ringAbiReaderKind) (k : KT) (r : List UInt8 × Int) : abiReaderKindL0 g k r = iter (fun p : KT × (List UInt8 × Int) => abiReaderKindL0R g p.1 p.2) (bigFuel) (k, r) := hide_eq _
noncomputable def abiReaderKindB (g : ringAbiReaderKind) (r : List UInt8 × Int) : Option ((KT × List UInt8 × Int) ⊕ (Unit)) :=
 (g.abiReaderFirst r).bind fun r1 =>
 sumK r1 (fun r2 =>
  (abiReaderKindL0 g r2.1 r2.2).bind fun q36 =>
  sumK q36 (fun q37 =>
   some (.inr ()))
   (fun q38 =>
   some (.inl q38)))
  (fun r3 =>
  some (.inr ()))
noncomputable def abiReaderRowL0R (g : ringAbiReaderKind) (r : List UInt8 × Int) (b24 : List KT) : Option (((List UInt8 × Int) × List KT) ⊕ ((List KT × List UInt8 × Int) ⊕ Unit)) :=
 (g.abiReaderKind r).bind fun r14 =>
 sumK r14 (fun r15 =>
  bif roomB 8 (b24.length + [r15.1].length) then
   (abiReaderIs r15.2 (41 : Int)).bind fun r17 =>
   bif r17.1 then
    some (.inr (.inl ((b24 ++ [r15.1]), r17.2)))
   else
    (abiReaderIs r17.2 (44 : Int)).bind fun r18 =>
    bif (!r18.1) then
     (abiReaderFail r18.2).bind fun r19 =>
     sumK r19 (fun r20 =>
      some (.inl (r18.2, (b24 ++ [r15.1]))))
      (fun r21 =>
      some (.inr (.inr ())))
    else
     some (.inl (r18.2, (b24 ++ [r15.1])))
  else none)
  (fun r16 =>
  some (.inr (.inr ())))
noncomputable def abiReaderRowL0 (g : ringAbiReaderKind) (r : List UInt8 × Int) (b24 : List KT) : Option ((List KT × List UInt8 × Int) ⊕ Unit) := hide (iter (fun p : (List UInt8 × Int) × List KT => abiReaderRowL0R g p.1 p.2) (bigFuel) (r, b24))
theorem abiReaderRowL0_eq (g : ringAbiReaderKind) (r : List UInt8 × Int) (b24 : List KT) : abiReaderRowL0 g r b24 = iter (fun p : (List UInt8 × Int) × List KT => abiReaderRowL0R g p.1 p.2) (bigFuel) (r, b24) := hide_eq _
noncomputable def abiReaderRowB (g : ringAbiReaderKind) (r : List UInt8 × Int) : Option ((List KT × List UInt8 × Int) ⊕ (Unit)) :=
 (abiReaderIs r (40 : Int)).bind fun r1 =>
 bif (!r1.1) then
  (abiReaderFail r1.2).bind fun r2 =>
  sumK r2 (fun r3 =>
   (abiReaderIs r1.2 (41 : Int)).bind fun r5 =>
   bif r5.1 then
    some (.inl (([] : List KT), r5.2))
   else
    (abiReaderRowL0 g r5.2 ([] : List KT)).bind fun q22 =>
    sumK q22 (fun q23 =>
     some (.inl q23))
     (fun q24 =>
     some (.inr ())))
   (fun r4 =>
   some (.inr ()))
 else
  (abiReaderIs r1.2 (41 : Int)).bind fun r25 =>
  bif r25.1 then
   some (.inl (([] : List KT), r25.2))
  else
   (abiReaderRowL0 g r25.2 ([] : List KT)).bind fun q26 =>
   sumK q26 (fun q27 =>
    some (.inl q27))
    (fun q28 =>
    some (.inr ()))
noncomputable def abiReaderFirstL0R (g : ringAbiReaderKind) (s43 : List (List UInt8 × Int × Int × Int × Int × Int)) (s44 : Int) (r : List UInt8 × Int) : Option (((List (List UInt8 × Int × Int × Int × Int × Int)) × Int × (List UInt8 × Int)) ⊕ ((KT × List UInt8 × Int) ⊕ Unit ⊕ (List UInt8 × Int))) :=
 bif (decide (s44 < (6 : Int))) then
  bif decide (0 ≤ s44) then
   bif Nat.blt (Int.toNat s44) 6 then
    bif Nat.blt (Int.toNat s44) 6 then
     bif decide (0 ≤ r.2) then
      bif Nat.ble (Int.toNat r.2) r.1.length then
       (stringsHasPrefix (List.take (r.1.length - (Int.toNat r.2)) (List.drop (Int.toNat r.2) r.1)) ((s43.getD (Int.toNat s44) (([], 0, 0, 0, 0, 0) : List UInt8 × Int × Int × Int × Int × Int)).1)).bind fun r18 =>
       bif r18 then
        (abiReaderRest (r.1, (IntKind.wrap .i64 (r.2 + ((((s43.getD (Int.toNat s44) (([], 0, 0, 0, 0, 0) : List UInt8 × Int × Int × Int × Int × Int)).1).length : Nat) : Int)))) (s43.getD (Int.toNat s44) (([], 0, 0, 0, 0, 0) : List UInt8 × Int × Int × Int × Int × Int))).bind fun r19 =>
        sumK r19 (fun r20 =>
         some (.inr (.inl r20)))
         (fun r21 =>
         some (.inr (.inr (.inl ()))))
       else
        some (.inl (s43, (IntKind.wrap .i64 (s44 + (1 : Int))), r))
      else none
     else none
    else none
   else none
  else none
 else
  some (.inr (.inr (.inr r)))
noncomputable def abiReaderFirstL0 (g : ringAbiReaderKind) (s43 : List (List UInt8 × Int × Int × Int × Int × Int)) (s44 : Int) (r : List UInt8 × Int) : Option ((KT × List UInt8 × Int) ⊕ Unit ⊕ (List UInt8 × Int)) := hide (iter (fun p : (List (List UInt8 × Int × Int × Int × Int × Int)) × Int × (List UInt8 × Int) => abiReaderFirstL0R g p.1 p.2.1 p.2.2) (bigFuel) (s43, s44, r))
theorem abiReaderFirstL0_eq (g : ringAbiReaderKind) (s43 : List (List UInt8 × Int × Int × Int × Int × Int)) (s44 : Int) (r : List UInt8 × Int) : abiReaderFirstL0 g s43 s44 r = iter (fun p : (List (List UInt8 × Int × Int × Int × Int × Int)) × Int × (List UInt8 × Int) => abiReaderFirstL0R g p.1 p.2.1 p.2.2) (bigFuel) (s43, s44, r) := hide_eq _
noncomputable def abiReaderFirstB (g : ringAbiReaderKind) (r : List UInt8 × Int) : Option ((KT × List UInt8 × Int) ⊕ (Unit)) :=
 bif (decide (r.2 < ((r.1.length : Nat) : Int))) then
  bif decide (0 ≤ r.2) then
   bif Nat.blt (Int.toNat r.2) r.1.length then
    bif ((((List.getD r.1 (Int.toNat r.2) 0).toNat : Nat) : Int) == (40 : Int)) then
     (g.abiReaderRow r).bind fun r1 =>
     sumK r1 (fun r2 =>
      (abiITupleOf r2.1).bind fun r4 =>
      bif (KT.ok r4) then
       bif ((((KT.of r4).length : Nat) : Int) == (0 : Int)) then
        (abiReaderFail r2.2).bind fun r5 =>
        sumK r5 (fun r6 =>
         (abiReaderSound r2.2 r4).bind fun r8 =>
         sumK r8 (fun r9 =>
          some (.inl (r4, r2.2)))
          (fun r10 =>
          some (.inr ())))
         (fun r7 =>
         some (.inr ()))
       else
        (abiReaderSound r2.2 r4).bind fun r11 =>
        sumK r11 (fun r12 =>
         some (.inl (r4, r2.2)))
         (fun r13 =>
         some (.inr ()))
      else none)
      (fun r3 =>
      some (.inr ()))
    else
     (abiReaderFirstL0 g abiBases (0 : Int) r).bind fun q22 =>
     sumK q22 (fun q23 =>
      some (.inl q23))
      (fun q24 =>
      sumK q24 (fun q25 =>
       some (.inr ()))
       (fun q26 =>
       (abiReaderFail q26).bind fun r27 =>
       sumK r27 (fun r28 =>
        some (.inl (KT.none, q26)))
        (fun r29 =>
        some (.inr ()))))
   else none
  else none
 else
  (abiReaderFirstL0 g abiBases (0 : Int) r).bind fun q30 =>
  sumK q30 (fun q31 =>
   some (.inl q31))
   (fun q32 =>
   sumK q32 (fun q33 =>
    some (.inr ()))
    (fun q34 =>
    (abiReaderFail q34).bind fun r35 =>
    sumK r35 (fun r36 =>
     some (.inl (KT.none, q34)))
     (fun r37 =>
     some (.inr ()))))
noncomputable def ringAbiReaderKindS (g : ringAbiReaderKind) : ringAbiReaderKind := ⟨abiReaderKindB g, abiReaderRowB g, abiReaderFirstB g⟩
noncomputable def ringAbiReaderKindI : Nat → ringAbiReaderKind
 | 0 => ⟨fun _ => none, fun _ => none, fun _ => none⟩
 | n + 1 => ringAbiReaderKindS (ringAbiReaderKindI n)
theorem abiReaderKind_S (n : Nat) : (ringAbiReaderKindI (n + 1)).abiReaderKind = abiReaderKindB (ringAbiReaderKindI n) := rfl
theorem abiReaderRow_S (n : Nat) : (ringAbiReaderKindI (n + 1)).abiReaderRow = abiReaderRowB (ringAbiReaderKindI n) := rfl
theorem abiReaderFirst_S (n : Nat) : (ringAbiReaderKindI (n + 1)).abiReaderFirst = abiReaderFirstB (ringAbiReaderKindI n) := rfl
noncomputable def abiReaderKind (r : List UInt8 × Int) : Option ((KT × List UInt8 × Int) ⊕ (Unit)) := hide ((ringAbiReaderKindI bigFuel).abiReaderKind r)
noncomputable def abiReaderRow (r : List UInt8 × Int) : Option ((List KT × List UInt8 × Int) ⊕ (Unit)) := hide ((ringAbiReaderKindI bigFuel).abiReaderRow r)
theorem abiReaderRow_eq (r : List UInt8 × Int) : abiReaderRow r = (ringAbiReaderKindI bigFuel).abiReaderRow r := hide_eq _
noncomputable def abiReaderFirst (r : List UInt8 × Int) : Option ((KT × List UInt8 × Int) ⊕ (Unit)) := hide ((ringAbiReaderKindI bigFuel).abiReaderFirst r)
noncomputable def ref22IStartsB (s : List UInt8) (atV : Int) (word : List UInt8) : Option (Bool) :=
 bif (decide ((IntKind.wrap .i64 (atV + ((word.length : Nat) : Int))) ≤ ((s.length : Nat) : Int))) then
  bif decide (0 ≤ (IntKind.wrap .i64 (atV + ((word.length : Nat) : Int)))) then
   bif Nat.ble (Int.toNat (IntKind.wrap .i64 (atV + ((word.length : Nat) : Int)))) s.length then
    bif decide (0 ≤ atV) then
     bif Nat.ble (Int.toNat atV) (Int.toNat (IntKind.wrap .i64 (atV + ((word.length : Nat) : Int)))) then
      some ((List.take ((Int.toNat (IntKind.wrap .i64 (atV + ((word.length : Nat) : Int)))) - (Int.toNat atV)) (List.drop (Int.toNat atV) s)) == word)
     else none
    else none
   else none
  else none
 else
  some false
noncomputable def ref22IStarts (s : List UInt8) (atV : Int) (word : List UInt8) : Option (Bool) := hide (ref22IStartsB s atV word)
theorem ref22IStarts_eq (s : List UInt8) (atV : Int) (word : List UInt8) : ref22IStarts s atV word = ref22IStartsB s atV word := hide_eq _
noncomputable def ref22IDigitB (c : Int) : Option (Bool) :=
 bif (decide (c ≥ (48 : Int))) then
  some (decide (c ≤ (57 : Int)))
 else
  some false
noncomputable def ref22IDigit (c : Int) : Option (Bool) := hide (ref22IDigitB c)
theorem ref22IDigit_eq (c : Int) : ref22IDigit c = ref22IDigitB c := hide_eq _
noncomputable def ref22INumberL0R (s : List UInt8) (atV : Int) (v : Int) (i : Int) : Option ((List UInt8 × Int × Int × Int) ⊕ (List UInt8 × Int × Int × Int)) :=
 bif (decide (i < ((s.length : Nat) : Int))) then
  bif decide (0 ≤ i) then
   bif Nat.blt (Int.toNat i) s.length then
    (ref22IDigit (((List.getD s (Int.toNat i) 0).toNat : Nat) : Int)).bind fun r2 =>
    bif r2 then
     bif decide (0 ≤ i) then
      bif Nat.blt (Int.toNat i) s.length then
       some (.inl (s, atV, (if (65537 : Int) < (IntKind.wrap .i64 ((IntKind.wrap .i64 ((10 : Int) * v)) + (IntKind.wrap .i64 (IntKind.wrap .u8 ((((List.getD s (Int.toNat i) 0).toNat : Nat) : Int) - (48 : Int)))))) then (65537 : Int) else (IntKind.wrap .i64 ((IntKind.wrap .i64 ((10 : Int) * v)) + (IntKind.wrap .i64 (IntKind.wrap .u8 ((((List.getD s (Int.toNat i) 0).toNat : Nat) : Int) - (48 : Int))))))), (IntKind.wrap .i64 (i + (1 : Int)))))
      else none
     else none
    else
     some (.inr (s, atV, v, i))
   else none
  else none
 else
  some (.inr (s, atV, v, i))
noncomputable def ref22INumberL0 (s : List UInt8) (atV : Int) (v : Int) (i : Int) : Option (List UInt8 × Int × Int × Int) := hide (iter (fun p : List UInt8 × Int × Int × Int => ref22INumberL0R p.1 p.2.1 p.2.2.1 p.2.2.2) (bigFuel) (s, atV, v, i))
theorem ref22INumberL0_eq (s : List UInt8) (atV : Int) (v : Int) (i : Int) : ref22INumberL0 s atV v i = iter (fun p : List UInt8 × Int × Int × Int => ref22INumberL0R p.1 p.2.1 p.2.2.1 p.2.2.2) (bigFuel) (s, atV, v, i) := hide_eq _
noncomputable def ref22INumberB (s : List UInt8) (atV : Int) : Option (Int × Int) :=
 (ref22INumberL0 s atV (0 : Int) atV).bind fun q3 =>
 bif (q3.2.2.2 == q3.2.1) then
  some ((0 : Int), q3.2.1)
 else
  bif decide (0 ≤ q3.2.1) then
   bif Nat.blt (Int.toNat q3.2.1) q3.1.length then
    bif ((((List.getD q3.1 (Int.toNat q3.2.1) 0).toNat : Nat) : Int) == (48 : Int)) then
     some ((0 : Int), q3.2.1)
    else
     bif (decide (q3.2.2.1 > (65536 : Int))) then
      some ((0 : Int), q3.2.1)
     else
      some q3.2.2
   else none
  else none
noncomputable def ref22INumber (s : List UInt8) (atV : Int) : Option (Int × Int) := hide (ref22INumberB s atV)
theorem ref22INumber_eq (s : List UInt8) (atV : Int) : ref22INumber s atV = ref22INumberB s atV := hide_eq _
noncomputable def ref22ISizedB (s : List UInt8) (atV : Int) (withV : Int) (without : Int) (usual : Int) (step : Int) (most : Int) : Option (RT × Int × Bool) :=
 bif (decide (atV ≥ ((s.length : Nat) : Int))) then
  some ((RT.mk without usual ([] : List RT)), atV, true)
 else
  bif decide (0 ≤ atV) then
   bif Nat.blt (Int.toNat atV) s.length then
    (ref22IDigit (((List.getD s (Int.toNat atV) 0).toNat : Nat) : Int)).bind fun r1 =>
    bif (!r1) then
     some ((RT.mk without usual ([] : List RT)), atV, true)
    else
     (ref22INumber s atV).bind fun r2 =>
     bif (r2.2 == atV) then
      some ((RT.mk (0 : Int) (0 : Int) ([] : List RT)), (0 : Int), false)
     else
      bif (step == 0) then
       none
      else
       bif ((Int.tmod r2.1 step) != (0 : Int)) then
        some ((RT.mk (0 : Int) (0 : Int) ([] : List RT)), (0 : Int), false)
       else
        bif (decide (r2.1 > most)) then
         some ((RT.mk (0 : Int) (0 : Int) ([] : List RT)), (0 : Int), false)
        else
         some ((RT.mk withV r2.1 ([] : List RT)), r2.2, true)
   else none
  else none
noncomputable def ref22ISized (s : List UInt8) (atV : Int) (withV : Int) (without : Int) (usual : Int) (step : Int) (most : Int) : Option (RT × Int × Bool) := hide (ref22ISizedB s atV withV without usual step most)
theorem ref22ISized_eq (s : List UInt8) (atV : Int) (withV : Int) (without : Int) (usual : Int) (step : Int) (most : Int) : ref22ISized s atV withV without usual step most = ref22ISizedB s atV withV without usual step most := hide_eq _
structure ringRef22ITyped where
 ref22ITyped : (List UInt8) → Int → Option (RT × Int × Bool)
 ref22IBase : (List UInt8) → Int → Option (RT × Int × Bool)
 ref22ITuple : (List UInt8) → Int → Option (RT × Int × Bool)
noncomputable def ref22ITypedL0R (g : ringRef22ITyped) (s : List UInt8) (endV : Int) (b4 : RT) (t : RT) : Option ((List UInt8 × Int × RT × RT) ⊕ ((Int × Int × Unit) ⊕ (Int × RT × RT))) :=
 (ref22IStarts s endV strC4).bind fun r6 =>
 bif r6 then
  (ref22IStarts s endV strC3).bind fun r7 =>
  bif r7 then
   some (.inl (s, (IntKind.wrap .i64 (endV + (2 : Int))), b4, (RT.mk (8 : Int) (0 : Int) [t])))
  else
   (ref22INumber s (IntKind.wrap .i64 (endV + (1 : Int)))).bind fun r8 =>
   bif (r8.2 == (IntKind.wrap .i64 (endV + (1 : Int)))) then
    some (.inr (.inl ((0 : Int), (0 : Int), ())))
   else
    bif (decide (r8.1 > (65535 : Int))) then
     some (.inr (.inl ((0 : Int), (0 : Int), ())))
    else
     (ref22IStarts s r8.2 strC5).bind fun r9 =>
     bif (!r9) then
      some (.inr (.inl ((0 : Int), (0 : Int), ())))
     else
      some (.inl (s, (IntKind.wrap .i64 (r8.2 + (1 : Int))), b4, (RT.mk (9 : Int) r8.1 [t])))
 else
  some (.inr (.inr (endV, b4, t)))
noncomputable def ref22ITypedL0 (g : ringRef22ITyped) (s : List UInt8) (endV : Int) (b4 : RT) (t : RT) : Option ((Int × Int × Unit) ⊕ (Int × RT × RT)) := hide (iter (fun p : List UInt8 × Int × RT × RT => ref22ITypedL0R g p.1 p.2.1 p.2.2.1 p.2.2.2) (bigFuel) (s, endV, b4, t))
theorem ref22ITypedL0_eq (g : ringRef22ITyped) (s : List UInt8) (endV : Int) (b4 : RT) (t : RT) : ref22ITypedL0 g s endV b4 t = iter (fun p : List UInt8 × Int × RT × RT => ref22ITypedL0R g p.1 p.2.1 p.2.2.1 p.2.2.2) (bigFuel) (s, endV, b4, t) := hide_eq _
noncomputable def ref22ITypedB (g : ringRef22ITyped) (s : List UInt8) (atV : Int) : Option (RT × Int × Bool) :=
 (g.ref22IBase s atV).bind fun r1 =>
 bif (!r1.2.2) then
  some ((RT.mk (0 : Int) (0 : Int) ([] : List RT)), (0 : Int), false)
 else
  (ref22ITypedL0 g s r1.2.1 (RT.mk (0 : Int) (0 : Int) ([] : List RT)) r1.1).bind fun q10 =>
  sumK q10 (fun q11 =>
   some ((RT.mk q11.1 q11.2.1 ([] : List RT)), (0 : Int), false))
   (fun q12 =>
   some (q12.2.2, q12.1, true))
noncomputable def ref22IBaseB (g : ringRef22ITyped) (s : List UInt8) (atV : Int) : Option (RT × Int × Bool) :=
 (ref22IStarts s atV strC6).bind fun r1 =>
 bif r1 then
  (ref22ISized s (IntKind.wrap .i64 (atV + (4 : Int))) (1 : Int) (1 : Int) (256 : Int) (8 : Int) (256 : Int)).bind fun r2 =>
  some r2
 else
  (ref22IStarts s atV strC7).bind fun r3 =>
  bif r3 then
   (ref22ISized s (IntKind.wrap .i64 (atV + (3 : Int))) (2 : Int) (2 : Int) (256 : Int) (8 : Int) (256 : Int)).bind fun r4 =>
   some r4
  else
   (ref22IStarts s atV strC8).bind fun r5 =>
   bif r5 then
    (ref22ISized s (IntKind.wrap .i64 (atV + (5 : Int))) (5 : Int) (6 : Int) (0 : Int) (1 : Int) (32 : Int)).bind fun r6 =>
    some r6
   else
    (ref22IStarts s atV strC9).bind fun r7 =>
    bif r7 then
     some ((RT.mk (3 : Int) (0 : Int) ([] : List RT)), (IntKind.wrap .i64 (atV + (7 : Int))), true)
    else
     (ref22IStarts s atV strC10).bind fun r8 =>
     bif r8 then
      some ((RT.mk (4 : Int) (0 : Int) ([] : List RT)), (IntKind.wrap .i64 (atV + (4 : Int))), true)
     else
      (ref22IStarts s atV strC11).bind fun r9 =>
      bif r9 then
       some ((RT.mk (7 : Int) (0 : Int) ([] : List RT)), (IntKind.wrap .i64 (atV + (6 : Int))), true)
      else
       (ref22IStarts s atV strC1).bind fun r10 =>
       bif r10 then
        (g.ref22ITuple s (IntKind.wrap .i64 (atV + (1 : Int)))).bind fun r11 =>
        some r11
       else
        some ((RT.mk (0 : Int) (0 : Int) ([] : List RT)), (0 : Int), false)
noncomputable def ref22ITupleL0R (g : ringRef22ITyped) (s : List UInt8) (atV : Int) (b4 : Int × Int × Unit) (t : Int × Int × Unit) (b46 : List RT) : Option ((List UInt8 × Int × (Int × Int × Unit) × (Int × Int × Unit) × List RT) ⊕ ((Int × Bool × (Int × Int × Unit) × List RT) ⊕ (Int × Int × Unit))) :=
 bif (decide (atV < ((s.length : Nat) : Int))) then
  (g.ref22ITyped s atV).bind fun r4 =>
  bif (!r4.2.2) then
   some (.inr (.inl ((0 : Int), false, ((0 : Int), (0 : Int), ()), ([] : List RT))))
  else
   bif roomB 40 (b46.length + [r4.1].length) then
    (ref22IStarts s r4.2.1 strC2).bind fun r5 =>
    bif r5 then
     some (.inr (.inl ((IntKind.wrap .i64 (r4.2.1 + (1 : Int))), true, (t.1, t.2.1, ()), (b46 ++ [r4.1]))))
    else
     (ref22IStarts s r4.2.1 strC0).bind fun r6 =>
     bif (!r6) then
      some (.inr (.inl ((0 : Int), false, ((0 : Int), (0 : Int), ()), ([] : List RT))))
     else
      some (.inl (s, (IntKind.wrap .i64 (r4.2.1 + (1 : Int))), (b4.1, b4.2.1, ()), (t.1, t.2.1, ()), (b46 ++ [r4.1])))
   else none
 else
  some (.inr (.inr (b4.1, b4.2.1, ())))
noncomputable def ref22ITupleL0 (g : ringRef22ITyped) (s : List UInt8) (atV : Int) (b4 : Int × Int × Unit) (t : Int × Int × Unit) (b46 : List RT) : Option ((Int × Bool × (Int × Int × Unit) × List RT) ⊕ (Int × Int × Unit)) := hide (iter (fun p : List UInt8 × Int × (Int × Int × Unit) × (Int × Int × Unit) × List RT => ref22ITupleL0R g p.1 p.2.1 p.2.2.1 p.2.2.2.1 p.2.2.2.2) (bigFuel) (s, atV, b4, t, b46))
theorem ref22ITupleL0_eq (g : ringRef22ITyped) (s : List UInt8) (atV : Int) (b4 : Int × Int × Unit) (t : Int × Int × Unit) (b46 : List RT) : ref22ITupleL0 g s atV b4 t b46 = iter (fun p : List UInt8 × Int × (Int × Int × Unit) × (Int × Int × Unit) × List RT => ref22ITupleL0R g p.1 p.2.1 p.2.2.1 p.2.2.2.1 p.2.2.2.2) (bigFuel) (s, atV, b4, t, b46) := hide_eq _
noncomputable def ref22ITupleB (g : ringRef22ITyped) (s : List UInt8) (atV : Int) : Option (RT × Int × Bool) :=
 (ref22ITupleL0 g s atV ((0 : Int), (0 : Int), ()) ((10 : Int), (0 : Int), ()) ([] : List RT)).bind fun q7 =>
 sumK q7 (fun q8 =>
  some ((RT.mk q8.2.2.1.1 q8.2.2.1.2.1 q8.2.2.2), q8.1, q8.2.1))
  (fun q9 =>
  some ((RT.mk (0 : Int) (0 : Int) ([] : List RT)), (0 : Int), false))
noncomputable def ringRef22ITypedS (g : ringRef22ITyped) : ringRef22ITyped := ⟨ref22ITypedB g, ref22IBaseB g, ref22ITupleB g⟩
noncomputable def ringRef22ITypedI : Nat → ringRef22ITyped
 | 0 => ⟨fun _ _ => none, fun _ _ => none, fun _ _ => none⟩
 | n + 1 => ringRef22ITypedS (ringRef22ITypedI n)
theorem ref22ITyped_S (n : Nat) : (ringRef22ITypedI (n + 1)).ref22ITyped = ref22ITypedB (ringRef22ITypedI n) := rfl
theorem ref22IBase_S (n : Nat) : (ringRef22ITypedI (n + 1)).ref22IBase = ref22IBaseB (ringRef22ITypedI n) := rfl
theorem ref22ITuple_S (n : Nat) : (ringRef22ITypedI (n + 1)).ref22ITuple = ref22ITupleB (ringRef22ITypedI n) := rfl
noncomputable def ref22ITyped (s : List UInt8) (atV : Int) : Option (RT × Int × Bool) := hide ((ringRef22ITypedI bigFuel).ref22ITyped s atV)
theorem ref22ITyped_eq (s : List UInt8) (atV : Int) : ref22ITyped s atV = (ringRef22ITypedI bigFuel).ref22ITyped s atV := hide_eq _
noncomputable def ref22IBase (s : List UInt8) (atV : Int) : Option (RT × Int × Bool) := hide ((ringRef22ITypedI bigFuel).ref22IBase s atV)
noncomputable def ref22ITuple (s : List UInt8) (atV : Int) : Option (RT × Int × Bool) := hide ((ringRef22ITypedI bigFuel).ref22ITuple s atV)
structure ringRef22IDeep where
 ref22IDeep : RT → Option (Int)
noncomputable def ref22IDeepL0R (g : ringRef22IDeep) (n : Int) (i : Int) (t : RT) : Option ((Int × Int × RT) ⊕ (Int)) :=
 bif (decide (i < (((RT.ins t).length : Nat) : Int))) then
  bif decide (0 ≤ i) then
   bif Nat.blt (Int.toNat i) ((RT.ins t).length) then
    (g.ref22IDeep ((RT.ins t).getD (Int.toNat i) (RT.mk 0 0 []))).bind fun r2 =>
    some (.inl ((if n < r2 then r2 else n), (IntKind.wrap .i64 (i + (1 : Int))), t))
   else none
  else none
 else
  some (.inr n)
noncomputable def ref22IDeepL0 (g : ringRef22IDeep) (n : Int) (i : Int) (t : RT) : Option (Int) := hide (iter (fun p : Int × Int × RT => ref22IDeepL0R g p.1 p.2.1 p.2.2) (bigFuel) (n, i, t))
theorem ref22IDeepL0_eq (g : ringRef22IDeep) (n : Int) (i : Int) (t : RT) : ref22IDeepL0 g n i t = iter (fun p : Int × Int × RT => ref22IDeepL0R g p.1 p.2.1 p.2.2) (bigFuel) (n, i, t) := hide_eq _
noncomputable def ref22IDeepB (g : ringRef22IDeep) (t : RT) : Option (Int) :=
 bif ((((RT.ins t).length : Nat) : Int) == (0 : Int)) then
  some (0 : Int)
 else
  (ref22IDeepL0 g (0 : Int) (0 : Int) t).bind fun q3 =>
  some (IntKind.wrap .i64 (q3 + (1 : Int)))
noncomputable def ringRef22IDeepS (g : ringRef22IDeep) : ringRef22IDeep := ⟨ref22IDeepB g⟩
noncomputable def ringRef22IDeepI : Nat → ringRef22IDeep
 | 0 => ⟨fun _ => none⟩
 | n + 1 => ringRef22IDeepS (ringRef22IDeepI n)
theorem ref22IDeep_S (n : Nat) : (ringRef22IDeepI (n + 1)).ref22IDeep = ref22IDeepB (ringRef22IDeepI n) := rfl
noncomputable def ref22IDeep (t : RT) : Option (Int) := hide ((ringRef22IDeepI bigFuel).ref22IDeep t)
theorem ref22IDeep_eq (t : RT) : ref22IDeep t = (ringRef22IDeepI bigFuel).ref22IDeep t := hide_eq _
structure ringRef22IWidth where
 ref22IWidth : RT → Option (Int)
 ref22IWidths : (List RT) → Option (Int)
noncomputable def ref22IWidthB (g : ringRef22IWidth) (t : RT) : Option (Int) :=
 bif ((RT.kind t) == (9 : Int)) then
  bif Nat.blt 0 ((RT.ins t).length) then
   (g.ref22IWidth ((RT.ins t).getD 0 (RT.mk 0 0 []))).bind fun r1 =>
   bif ((RT.kind t) == (10 : Int)) then
    (g.ref22IWidths (RT.ins t)).bind fun r2 =>
    some (if (65537 : Int) < r2 then (65537 : Int) else r2)
   else
    some (if (65537 : Int) < (IntKind.wrap .i64 ((RT.n t) * r1)) then (65537 : Int) else (IntKind.wrap .i64 ((RT.n t) * r1)))
  else none
 else
  bif ((RT.kind t) == (10 : Int)) then
   (g.ref22IWidths (RT.ins t)).bind fun r3 =>
   some (if (65537 : Int) < r3 then (65537 : Int) else r3)
  else
   some (1 : Int)
noncomputable def ref22IWidthsL0R (g : ringRef22IWidth) (types : List RT) (n : Int) (i : Int) : Option ((List RT × Int × Int) ⊕ (Int)) :=
 bif (decide (i < ((types.length : Nat) : Int))) then
  bif decide (0 ≤ i) then
   bif Nat.blt (Int.toNat i) types.length then
    (g.ref22IWidth (types.getD (Int.toNat i) (RT.mk 0 0 []))).bind fun r2 =>
    some (.inl (types, (if (65537 : Int) < (IntKind.wrap .i64 (n + r2)) then (65537 : Int) else (IntKind.wrap .i64 (n + r2))), (IntKind.wrap .i64 (i + (1 : Int)))))
   else none
  else none
 else
  some (.inr n)
noncomputable def ref22IWidthsL0 (g : ringRef22IWidth) (types : List RT) (n : Int) (i : Int) : Option (Int) := hide (iter (fun p : List RT × Int × Int => ref22IWidthsL0R g p.1 p.2.1 p.2.2) (bigFuel) (types, n, i))
theorem ref22IWidthsL0_eq (g : ringRef22IWidth) (types : List RT) (n : Int) (i : Int) : ref22IWidthsL0 g types n i = iter (fun p : List RT × Int × Int => ref22IWidthsL0R g p.1 p.2.1 p.2.2) (bigFuel) (types, n, i) := hide_eq _
noncomputable def ref22IWidthsB (g : ringRef22IWidth) (types : List RT) : Option (Int) :=
 (ref22IWidthsL0 g types (0 : Int) (0 : Int)).bind fun q3 =>
 some q3
noncomputable def ringRef22IWidthS (g : ringRef22IWidth) : ringRef22IWidth := ⟨ref22IWidthB g, ref22IWidthsB g⟩
noncomputable def ringRef22IWidthI : Nat → ringRef22IWidth
 | 0 => ⟨fun _ => none, fun _ => none⟩
 | n + 1 => ringRef22IWidthS (ringRef22IWidthI n)
theorem ref22IWidth_S (n : Nat) : (ringRef22IWidthI (n + 1)).ref22IWidth = ref22IWidthB (ringRef22IWidthI n) := rfl
theorem ref22IWidths_S (n : Nat) : (ringRef22IWidthI (n + 1)).ref22IWidths = ref22IWidthsB (ringRef22IWidthI n) := rfl
noncomputable def ref22IWidth (t : RT) : Option (Int) := hide ((ringRef22IWidthI bigFuel).ref22IWidth t)
theorem ref22IWidth_eq (t : RT) : ref22IWidth t = (ringRef22IWidthI bigFuel).ref22IWidth t := hide_eq _
noncomputable def ref22IWidths (types : List RT) : Option (Int) := hide ((ringRef22IWidthI bigFuel).ref22IWidths types)
structure ringRef22INarrow where
 ref22INarrow : RT → Option (Bool)
noncomputable def ref22INarrowL0R (g : ringRef22INarrow) (i : Int) (t : RT) : Option ((Int × RT) ⊕ (Unit ⊕ Unit)) :=
 bif (decide (i < (((RT.ins t).length : Nat) : Int))) then
  bif decide (0 ≤ i) then
   bif Nat.blt (Int.toNat i) ((RT.ins t).length) then
    (g.ref22INarrow ((RT.ins t).getD (Int.toNat i) (RT.mk 0 0 []))).bind fun r3 =>
    bif (!r3) then
     some (.inr (.inl ()))
    else
     some (.inl ((IntKind.wrap .i64 (i + (1 : Int))), t))
   else none
  else none
 else
  some (.inr (.inr ()))
noncomputable def ref22INarrowL0 (g : ringRef22INarrow) (i : Int) (t : RT) : Option (Unit ⊕ Unit) := hide (iter (fun p : Int × RT => ref22INarrowL0R g p.1 p.2) (bigFuel) (i, t))
theorem ref22INarrowL0_eq (g : ringRef22INarrow) (i : Int) (t : RT) : ref22INarrowL0 g i t = iter (fun p : Int × RT => ref22INarrowL0R g p.1 p.2) (bigFuel) (i, t) := hide_eq _
noncomputable def ref22INarrowB (g : ringRef22INarrow) (t : RT) : Option (Bool) :=
 (ref22IWidth t).bind fun r1 =>
 bif (decide (r1 > (65536 : Int))) then
  some false
 else
  (ref22INarrowL0 g (0 : Int) t).bind fun q4 =>
  sumK q4 (fun q5 =>
   some false)
   (fun q6 =>
   some true)
noncomputable def ringRef22INarrowS (g : ringRef22INarrow) : ringRef22INarrow := ⟨ref22INarrowB g⟩
noncomputable def ringRef22INarrowI : Nat → ringRef22INarrow
 | 0 => ⟨fun _ => none⟩
 | n + 1 => ringRef22INarrowS (ringRef22INarrowI n)
theorem ref22INarrow_S (n : Nat) : (ringRef22INarrowI (n + 1)).ref22INarrow = ref22INarrowB (ringRef22INarrowI n) := rfl
noncomputable def ref22INarrow (t : RT) : Option (Bool) := hide ((ringRef22INarrowI bigFuel).ref22INarrow t)
theorem ref22INarrow_eq (t : RT) : ref22INarrow t = (ringRef22INarrowI bigFuel).ref22INarrow t := hide_eq _
noncomputable def ref22ReadB (s : List UInt8) : Option (RT × Int) :=
 bif (decide (((s.length : Nat) : Int) > (4096 : Int))) then
  some ((RT.mk (0 : Int) (0 : Int) ([] : List RT)), (220 : Int))
 else
  (ref22ITyped s (0 : Int)).bind fun r1 =>
  bif (!r1.2.2) then
   some ((RT.mk (0 : Int) (0 : Int) ([] : List RT)), (220 : Int))
  else
   bif (r1.2.1 != ((s.length : Nat) : Int)) then
    some ((RT.mk (0 : Int) (0 : Int) ([] : List RT)), (220 : Int))
   else
    (ref22IDeep r1.1).bind fun r2 =>
    bif (decide (r2 > (32 : Int))) then
     some ((RT.mk (0 : Int) (0 : Int) ([] : List RT)), (220 : Int))
    else
     (ref22INarrow r1.1).bind fun r3 =>
     bif (!r3) then
      some ((RT.mk (0 : Int) (0 : Int) ([] : List RT)), (220 : Int))
     else
      some (r1.1, (0 : Int))
noncomputable def ref22Read (s : List UInt8) : Option (RT × Int) := hide (ref22ReadB s)
theorem ref22Read_eq (s : List UInt8) : ref22Read s = ref22ReadB s := hide_eq _
structure ringRef22IDecimal where
 ref22IDecimal : Int → Option (List UInt8)
noncomputable def ref22IDecimalB (g : ringRef22IDecimal) (n : Int) : Option (List UInt8) :=
 bif (decide (n < (10 : Int))) then
  some (List.map (fun (n : Int) => UInt8.ofNat n.toNat) [(IntKind.wrap .u8 (IntKind.wrap .i64 ((48 : Int) + n)))])
 else
  (g.ref22IDecimal (IntKind.wrap .i64 (Int.tdiv n (10 : Int)))).bind fun r1 =>
  (g.ref22IDecimal (Int.tmod n (10 : Int))).bind fun r2 =>
  bif Nat.ble (r1.length + r2.length) 9223372036854775807 then
   some (r1 ++ r2)
  else none
noncomputable def ringRef22IDecimalS (g : ringRef22IDecimal) : ringRef22IDecimal := ⟨ref22IDecimalB g⟩
noncomputable def ringRef22IDecimalI : Nat → ringRef22IDecimal
 | 0 => ⟨fun _ => none⟩
 | n + 1 => ringRef22IDecimalS (ringRef22IDecimalI n)
theorem ref22IDecimal_S (n : Nat) : (ringRef22IDecimalI (n + 1)).ref22IDecimal = ref22IDecimalB (ringRef22IDecimalI n) := rfl
noncomputable def ref22IDecimal (n : Int) : Option (List UInt8) := hide ((ringRef22IDecimalI bigFuel).ref22IDecimal n)
theorem ref22IDecimal_eq (n : Int) : ref22IDecimal n = (ringRef22IDecimalI bigFuel).ref22IDecimal n := hide_eq _
structure ringRef22Text where
 ref22Text : RT → Option (List UInt8)
 ref22ITexts : (List RT) → Option (List UInt8)
noncomputable def ref22TextB (g : ringRef22Text) (t : RT) : Option (List UInt8) :=
 bif ((RT.kind t) == (1 : Int)) then
  (ref22IDecimal (RT.n t)).bind fun r1 =>
  bif Nat.ble (strC6.length + r1.length) 9223372036854775807 then
   some (strC6 ++ r1)
  else none
 else
  bif ((RT.kind t) == (2 : Int)) then
   (ref22IDecimal (RT.n t)).bind fun r2 =>
   bif Nat.ble (strC7.length + r2.length) 9223372036854775807 then
    some (strC7 ++ r2)
   else none
  else
   bif ((RT.kind t) == (3 : Int)) then
    some strC9
   else
    bif ((RT.kind t) == (4 : Int)) then
     some strC10
    else
     bif ((RT.kind t) == (5 : Int)) then
      (ref22IDecimal (RT.n t)).bind fun r3 =>
      bif Nat.ble (strC8.length + r3.length) 9223372036854775807 then
       some (strC8 ++ r3)
      else none
     else
      bif ((RT.kind t) == (6 : Int)) then
       some strC8
      else
       bif ((RT.kind t) == (7 : Int)) then
        some strC11
       else
        bif ((RT.kind t) == (8 : Int)) then
         bif Nat.blt 0 ((RT.ins t).length) then
          (g.ref22Text ((RT.ins t).getD 0 (RT.mk 0 0 []))).bind fun r4 =>
          bif Nat.ble (r4.length + strC3.length) 9223372036854775807 then
           some (r4 ++ strC3)
          else none
         else none
        else
         bif ((RT.kind t) == (9 : Int)) then
          bif Nat.blt 0 ((RT.ins t).length) then
           (g.ref22Text ((RT.ins t).getD 0 (RT.mk 0 0 []))).bind fun r5 =>
           bif Nat.ble (r5.length + strC4.length) 9223372036854775807 then
            (ref22IDecimal (RT.n t)).bind fun r6 =>
            bif Nat.ble ((r5 ++ strC4).length + r6.length) 9223372036854775807 then
             bif Nat.ble (((r5 ++ strC4) ++ r6).length + strC5.length) 9223372036854775807 then
              some (((r5 ++ strC4) ++ r6) ++ strC5)
             else none
            else none
           else none
          else none
         else
          (g.ref22ITexts (RT.ins t)).bind fun r7 =>
          bif Nat.ble (strC1.length + r7.length) 9223372036854775807 then
           bif Nat.ble ((strC1 ++ r7).length + strC2.length) 9223372036854775807 then
            some ((strC1 ++ r7) ++ strC2)
           else none
          else none
noncomputable def ref22ITextsL0R (g : ringRef22Text) (types : List RT) (s : List UInt8) (i : Int) : Option ((List RT × List UInt8 × Int) ⊕ (List UInt8)) :=
 bif (decide (i < ((types.length : Nat) : Int))) then
  bif (decide (i > (0 : Int))) then
   bif Nat.ble (s.length + strC0.length) 9223372036854775807 then
    bif decide (0 ≤ i) then
     bif Nat.blt (Int.toNat i) types.length then
      (g.ref22Text (types.getD (Int.toNat i) (RT.mk 0 0 []))).bind fun r3 =>
      bif Nat.ble ((s ++ strC0).length + r3.length) 9223372036854775807 then
       some (.inl (types, ((s ++ strC0) ++ r3), (IntKind.wrap .i64 (i + (1 : Int)))))
      else none
     else none
    else none
   else none
  else
   bif decide (0 ≤ i) then
    bif Nat.blt (Int.toNat i) types.length then
     (g.ref22Text (types.getD (Int.toNat i) (RT.mk 0 0 []))).bind fun r4 =>
     bif Nat.ble (s.length + r4.length) 9223372036854775807 then
      some (.inl (types, (s ++ r4), (IntKind.wrap .i64 (i + (1 : Int)))))
     else none
    else none
   else none
 else
  some (.inr s)
noncomputable def ref22ITextsL0 (g : ringRef22Text) (types : List RT) (s : List UInt8) (i : Int) : Option (List UInt8) := hide (iter (fun p : List RT × List UInt8 × Int => ref22ITextsL0R g p.1 p.2.1 p.2.2) (bigFuel) (types, s, i))
theorem ref22ITextsL0_eq (g : ringRef22Text) (types : List RT) (s : List UInt8) (i : Int) : ref22ITextsL0 g types s i = iter (fun p : List RT × List UInt8 × Int => ref22ITextsL0R g p.1 p.2.1 p.2.2) (bigFuel) (types, s, i) := hide_eq _
noncomputable def ref22ITextsB (g : ringRef22Text) (types : List RT) : Option (List UInt8) :=
 (ref22ITextsL0 g types ([] : List UInt8) (0 : Int)).bind fun q5 =>
 some q5
noncomputable def ringRef22TextS (g : ringRef22Text) : ringRef22Text := ⟨ref22TextB g, ref22ITextsB g⟩
noncomputable def ringRef22TextI : Nat → ringRef22Text
 | 0 => ⟨fun _ => none, fun _ => none⟩
 | n + 1 => ringRef22TextS (ringRef22TextI n)
theorem ref22Text_S (n : Nat) : (ringRef22TextI (n + 1)).ref22Text = ref22TextB (ringRef22TextI n) := rfl
theorem ref22ITexts_S (n : Nat) : (ringRef22TextI (n + 1)).ref22ITexts = ref22ITextsB (ringRef22TextI n) := rfl
noncomputable def ref22Text (t : RT) : Option (List UInt8) := hide ((ringRef22TextI bigFuel).ref22Text t)
theorem ref22Text_eq (t : RT) : ref22Text t = (ringRef22TextI bigFuel).ref22Text t := hide_eq _
noncomputable def ref22ITexts (types : List RT) : Option (List UInt8) := hide ((ringRef22TextI bigFuel).ref22ITexts types)
theorem ref22ITexts_eq (types : List RT) : ref22ITexts types = (ringRef22TextI bigFuel).ref22ITexts types := hide_eq _
structure ringRef22IDynamic where
 ref22IDynamic : RT → Option (Bool)
noncomputable def ref22IDynamicL0R (g : ringRef22IDynamic) (i : Int) (t : RT) : Option ((Int × RT) ⊕ (Unit ⊕ Unit)) :=
 bif (decide (i < (((RT.ins t).length : Nat) : Int))) then
  bif decide (0 ≤ i) then
   bif Nat.blt (Int.toNat i) ((RT.ins t).length) then
    (g.ref22IDynamic ((RT.ins t).getD (Int.toNat i) (RT.mk 0 0 []))).bind fun r2 =>
    bif r2 then
     some (.inr (.inl ()))
    else
     some (.inl ((IntKind.wrap .i64 (i + (1 : Int))), t))
   else none
  else none
 else
  some (.inr (.inr ()))
noncomputable def ref22IDynamicL0 (g : ringRef22IDynamic) (i : Int) (t : RT) : Option (Unit ⊕ Unit) := hide (iter (fun p : Int × RT => ref22IDynamicL0R g p.1 p.2) (bigFuel) (i, t))
noncomputable def ref22IDynamicB (g : ringRef22IDynamic) (t : RT) : Option (Bool) :=
 bif ((RT.kind t) == (6 : Int)) then
  some true
 else
  bif ((RT.kind t) == (7 : Int)) then
   some true
  else
   bif ((RT.kind t) == (8 : Int)) then
    some true
   else
    (ref22IDynamicL0 g (0 : Int) t).bind fun q3 =>
    sumK q3 (fun q4 =>
     some true)
     (fun q5 =>
     some false)
noncomputable def ringRef22IDynamicS (g : ringRef22IDynamic) : ringRef22IDynamic := ⟨ref22IDynamicB g⟩
noncomputable def ringRef22IDynamicI : Nat → ringRef22IDynamic
 | 0 => ⟨fun _ => none⟩
 | n + 1 => ringRef22IDynamicS (ringRef22IDynamicI n)
noncomputable def ref22IDynamic (t : RT) : Option (Bool) := hide ((ringRef22IDynamicI bigFuel).ref22IDynamic t)
noncomputable def law22INumB (e : Int) : Option (Int) :=
 some e
noncomputable def law22INum (e : Int) : Option (Int) := hide (law22INumB e)
theorem law22INum_eq (e : Int) : law22INum e = law22INumB e := hide_eq _
end Go.Sy
