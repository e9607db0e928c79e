/- Typed functions, printed by a program out of the code: what each function of the code computes. -/
import Derived.Test.YtfappeeggccicaaDoorSyVE
set_option linter.unusedVariables false
noncomputable section
namespace Go.Sy
open Go
def ecdsaPackB (s : Nat × Nat × Bool) : Option (Int × List Int) :=
 (ecdsaCheck s).bind fun r1 =>
 bif (r1 != (0 : Int)) then
  some (r1, ([] : List Int))
 else
  (u256Put s.1).bind fun r2 =>
  (u256Put s.2.1).bind fun r3 =>
  bif s.2.2 then
   bif roomB 1 (32 + (List.take 32 (List.drop 0 (r3.set 0 (orI .u8 (r3.getD 0 (0 : Int)) (128 : Int))))).length) then
    some ((0 : Int), ((List.take 32 (List.drop 0 r2)) ++ (List.take 32 (List.drop 0 (r3.set 0 (orI .u8 (r3.getD 0 (0 : Int)) (128 : Int)))))))
   else none
  else
   bif roomB 1 (32 + (List.take 32 (List.drop 0 r3)).length) then
    some ((0 : Int), ((List.take 32 (List.drop 0 r2)) ++ (List.take 32 (List.drop 0 r3))))
   else none
def ecdsaPack (s : Nat × Nat × Bool) : Option (Int × List Int) := hide (ecdsaPackB s)
theorem ecdsaPack_eq (s : Nat × Nat × Bool) : ecdsaPack s = ecdsaPackB s := hide_eq _
def ecdsaUnpackB (data : List Int) : Option ((Nat × Nat × Bool) × Int) :=
 bif (((data.length : Nat) : Int) != (64 : Int)) then
  some ((0, 0, false), (66 : Int))
 else
  bif Nat.ble 32 data.length then
   bif Nat.ble 32 data.length then
    (u256Get (List.take 32 (List.drop 0 data))).bind fun r1 =>
    (u256Get (List.take 32 (List.drop 0 ((spliceL (List.replicate 32 (0 : Int)) 0 (List.take 32 (List.take (data.length - 32) (List.drop 32 data)))).set 0 (andNotI .u8 ((spliceL (List.replicate 32 (0 : Int)) 0 (List.take 32 (List.take (data.length - 32) (List.drop 32 data)))).getD 0 (0 : Int)) (128 : Int)))))).bind fun r2 =>
    (ecdsaCheck (r1.1, r2.1, ((andI .u8 ((spliceL (List.replicate 32 (0 : Int)) 0 (List.take 32 (List.take (data.length - 32) (List.drop 32 data)))).getD 0 (0 : Int)) (128 : Int)) != (0 : Int)))).bind fun r3 =>
    bif (r3 != (0 : Int)) then
     some ((0, 0, false), r3)
    else
     some ((r1.1, r2.1, ((andI .u8 ((spliceL (List.replicate 32 (0 : Int)) 0 (List.take 32 (List.take (data.length - 32) (List.drop 32 data)))).getD 0 (0 : Int)) (128 : Int)) != (0 : Int))), (0 : Int))
   else none
  else none
def ecdsaUnpack (data : List Int) : Option ((Nat × Nat × Bool) × Int) := hide (ecdsaUnpackB data)
theorem ecdsaUnpack_eq (data : List Int) : ecdsaUnpack data = ecdsaUnpackB data := hide_eq _
def ref06PackL0R (i : Int) (s : Nat × Nat × Bool) (r : List Int) (t : List Int) (b50 : List Int) : Option ((Int × (Nat × Nat × Bool) × List Int × List Int × List Int) ⊕ ((Nat × Nat × Bool) × List Int × List Int)) :=
 bif (decide (i < (32 : Int))) then
  bif decide (0 ≤ i) then
   bif Nat.blt (Int.toNat i) 32 then
    bif Nat.blt (Int.toNat i) 32 then
     bif roomB 1 (b50.length + [(r.getD (Int.toNat i) (0 : Int))].length) then
      some (.inl ((IntKind.wrap .i64 (i + (1 : Int))), s, r, t, (b50 ++ [(r.getD (Int.toNat i) (0 : Int))])))
     else none
    else none
   else none
  else none
 else
  some (.inr (s, t, b50))
def ref06PackL0 (i : Int) (s : Nat × Nat × Bool) (r : List Int) (t : List Int) (b50 : List Int) : Option ((Nat × Nat × Bool) × List Int × List Int) := hide (iter (fun p : Int × (Nat × Nat × Bool) × List Int × List Int × List Int => ref06PackL0R p.1 p.2.1 p.2.2.1 p.2.2.2.1 p.2.2.2.2) (1000) (i, s, r, t, b50))
theorem ref06PackL0_eq (i : Int) (s : Nat × Nat × Bool) (r : List Int) (t : List Int) (b50 : List Int) : ref06PackL0 i s r t b50 = iter (fun p : Int × (Nat × Nat × Bool) × List Int × List Int × List Int => ref06PackL0R p.1 p.2.1 p.2.2.1 p.2.2.2.1 p.2.2.2.2) (1000) (i, s, r, t, b50) := hide_eq _
def ref06PackL1R (i : Int) (s : Nat × Nat × Bool) (t : List Int) (b50 : List Int) : Option ((Int × (Nat × Nat × Bool) × List Int × List Int) ⊕ ((Nat × Nat × Bool) × List Int)) :=
 bif (decide (i < (32 : Int))) then
  bif decide (0 ≤ i) then
   bif Nat.blt (Int.toNat i) 32 then
    bif Nat.blt (Int.toNat i) 32 then
     bif roomB 1 (b50.length + [(t.getD (Int.toNat i) (0 : Int))].length) then
      some (.inl ((IntKind.wrap .i64 (i + (1 : Int))), s, t, (b50 ++ [(t.getD (Int.toNat i) (0 : Int))])))
     else none
    else none
   else none
  else none
 else
  some (.inr (s, b50))
def ref06PackL1 (i : Int) (s : Nat × Nat × Bool) (t : List Int) (b50 : List Int) : Option ((Nat × Nat × Bool) × List Int) := hide (iter (fun p : Int × (Nat × Nat × Bool) × List Int × List Int => ref06PackL1R p.1 p.2.1 p.2.2.1 p.2.2.2) (1000) (i, s, t, b50))
theorem ref06PackL1_eq (i : Int) (s : Nat × Nat × Bool) (t : List Int) (b50 : List Int) : ref06PackL1 i s t b50 = iter (fun p : Int × (Nat × Nat × Bool) × List Int × List Int => ref06PackL1R p.1 p.2.1 p.2.2.1 p.2.2.2) (1000) (i, s, t, b50) := hide_eq _
def ref06PackB (s : Nat × Nat × Bool) : Option (Int × List Int) :=
 (ref06Check s).bind fun r1 =>
 bif (r1 != (0 : Int)) then
  some (r1, ([] : List Int))
 else
  (ref01Put s.1).bind fun r2 =>
  (ref01Put s.2.1).bind fun r3 =>
  (ref06PackL0 (0 : Int) s r2 r3 ([] : List Int)).bind fun q4 =>
  (ref06PackL1 (0 : Int) q4.1 q4.2.1 q4.2.2).bind fun q5 =>
  bif q5.1.2.2 then
   bif Nat.blt 32 q5.2.length then
    bif Nat.blt 32 q5.2.length then
     bif Nat.blt 32 q5.2.length then
      bif Nat.blt 32 q5.2.length then
       some ((0 : Int), (q5.2.set 32 (IntKind.wrap .u8 ((q5.2.getD 32 (0 : Int)) + (128 : Int)))))
      else none
     else none
    else none
   else none
  else
   some ((0 : Int), q5.2)
def ref06Pack (s : Nat × Nat × Bool) : Option (Int × List Int) := hide (ref06PackB s)
theorem ref06Pack_eq (s : Nat × Nat × Bool) : ref06Pack s = ref06PackB s := hide_eq _
def ref06UnpackL0R (data : List Int) (i : Int) (b2 : Nat × Nat × Bool) (b58 : List Int) : Option ((List Int × Int × (Nat × Nat × Bool) × List Int) ⊕ (List Int × (Nat × Nat × Bool) × List Int)) :=
 bif (decide (i < (64 : Int))) then
  bif decide (0 ≤ i) then
   bif Nat.blt (Int.toNat i) data.length then
    bif roomB 1 (b58.length + [(data.getD (Int.toNat i) (0 : Int))].length) then
     some (.inl (data, (IntKind.wrap .i64 (i + (1 : Int))), b2, (b58 ++ [(data.getD (Int.toNat i) (0 : Int))])))
    else none
   else none
  else none
 else
  some (.inr (data, b2, b58))
def ref06UnpackL0 (data : List Int) (i : Int) (b2 : Nat × Nat × Bool) (b58 : List Int) : Option (List Int × (Nat × Nat × Bool) × List Int) := hide (iter (fun p : List Int × Int × (Nat × Nat × Bool) × List Int => ref06UnpackL0R p.1 p.2.1 p.2.2.1 p.2.2.2) (1000) (data, i, b2, b58))
theorem ref06UnpackL0_eq (data : List Int) (i : Int) (b2 : Nat × Nat × Bool) (b58 : List Int) : ref06UnpackL0 data i b2 b58 = iter (fun p : List Int × Int × (Nat × Nat × Bool) × List Int => ref06UnpackL0R p.1 p.2.1 p.2.2.1 p.2.2.2) (1000) (data, i, b2, b58) := hide_eq _
def ref06UnpackB (data : List Int) : Option ((Nat × Nat × Bool) × Int) :=
 bif (((data.length : Nat) : Int) != (64 : Int)) then
  some ((0, 0, false), (66 : Int))
 else
  (ref06UnpackL0 data (32 : Int) (0, 0, false) ([] : List Int)).bind fun q1 =>
  bif Nat.blt 0 q1.2.2.length then
   bif Nat.blt 0 q1.2.2.length then
    bif Nat.blt 0 q1.2.2.length then
     bif Nat.blt 0 q1.2.2.length then
      bif Nat.ble 32 q1.1.length then
       (ref01Get (List.take 32 (List.drop 0 q1.1))).bind fun r2 =>
       (ref01Get (q1.2.2.set 0 (Int.tmod (q1.2.2.getD 0 (0 : Int)) (128 : Int)))).bind fun r3 =>
       bif Nat.blt 32 q1.1.length then
        (ref06Check (r2.1, r3.1, (decide ((q1.1.getD 32 (0 : Int)) ≥ (128 : Int))))).bind fun r4 =>
        bif (r4 != (0 : Int)) then
         some ((0, 0, false), r4)
        else
         some ((r2.1, r3.1, (decide ((q1.1.getD 32 (0 : Int)) ≥ (128 : Int)))), (0 : Int))
       else none
      else none
     else none
    else none
   else none
  else none
def ref06Unpack (data : List Int) : Option ((Nat × Nat × Bool) × Int) := hide (ref06UnpackB data)
theorem ref06Unpack_eq (data : List Int) : ref06Unpack data = ref06UnpackB data := hide_eq _
def law06ICopiedL0R (a : List Int) (i : Int) (b19 : List Int) : Option ((List Int × Int × List Int) ⊕ (List Int)) :=
 bif (decide (i < ((a.length : Nat) : Int))) then
  bif decide (0 ≤ i) then
   bif Nat.blt (Int.toNat i) a.length then
    bif roomB 1 (b19.length + [(a.getD (Int.toNat i) (0 : Int))].length) then
     some (.inl (a, (IntKind.wrap .i64 (i + (1 : Int))), (b19 ++ [(a.getD (Int.toNat i) (0 : Int))])))
    else none
   else none
  else none
 else
  some (.inr b19)
def law06ICopiedL0 (a : List Int) (i : Int) (b19 : List Int) : Option (List Int) := hide (iter (fun p : List Int × Int × List Int => law06ICopiedL0R p.1 p.2.1 p.2.2) (bigFuel) (a, i, b19))
theorem law06ICopiedL0_eq (a : List Int) (i : Int) (b19 : List Int) : law06ICopiedL0 a i b19 = iter (fun p : List Int × Int × List Int => law06ICopiedL0R p.1 p.2.1 p.2.2) (bigFuel) (a, i, b19) := hide_eq _
def law06ICopiedB (a : List Int) : Option (List Int) :=
 (law06ICopiedL0 a (0 : Int) ([] : List Int)).bind fun q1 =>
 some q1
def law06ICopied (a : List Int) : Option (List Int) := hide (law06ICopiedB a)
theorem law06ICopied_eq (a : List Int) : law06ICopied a = law06ICopiedB a := hide_eq _
def law06ISameL0R (a : List Int) (b : List Int) (i : Int) : Option ((List Int × List Int × Int) ⊕ (Unit ⊕ Unit)) :=
 bif (decide (i < ((a.length : Nat) : Int))) then
  bif decide (0 ≤ i) then
   bif Nat.blt (Int.toNat i) a.length then
    bif decide (0 ≤ i) then
     bif Nat.blt (Int.toNat i) b.length then
      bif ((a.getD (Int.toNat i) (0 : Int)) != (b.getD (Int.toNat i) (0 : Int))) then
       some (.inr (.inl ()))
      else
       some (.inl (a, b, (IntKind.wrap .i64 (i + (1 : Int)))))
     else none
    else none
   else none
  else none
 else
  some (.inr (.inr ()))
def law06ISameL0 (a : List Int) (b : List Int) (i : Int) : Option (Unit ⊕ Unit) := hide (iter (fun p : List Int × List Int × Int => law06ISameL0R p.1 p.2.1 p.2.2) (bigFuel) (a, b, i))
theorem law06ISameL0_eq (a : List Int) (b : List Int) (i : Int) : law06ISameL0 a b i = iter (fun p : List Int × List Int × Int => law06ISameL0R p.1 p.2.1 p.2.2) (bigFuel) (a, b, i) := hide_eq _
def law06ISameB (a : List Int) (b : List Int) : Option (Bool) :=
 bif (((a.length : Nat) : Int) != ((b.length : Nat) : Int)) then
  some false
 else
  (law06ISameL0 a b (0 : Int)).bind fun q1 =>
  sumK q1 (fun q2 =>
   some false)
   (fun q3 =>
   some true)
def law06ISame (a : List Int) (b : List Int) : Option (Bool) := hide (law06ISameB a b)
theorem law06ISame_eq (a : List Int) (b : List Int) : law06ISame a b = law06ISameB a b := hide_eq _
def law06ILentL0R (a : List Int) (i : Int) (b1000006 : List Int) : Option ((List Int × Int × List Int) ⊕ (List Int × List Int)) :=
 bif (decide (i < (70 : Int))) then
  bif roomB 1 (b1000006.length + [(165 : Int)].length) then
   some (.inl (a, (IntKind.wrap .i64 (i + (1 : Int))), (b1000006 ++ [(165 : Int)])))
  else none
 else
  some (.inr (a, b1000006))
def law06ILentL0 (a : List Int) (i : Int) (b1000006 : List Int) : Option (List Int × List Int) := hide (iter (fun p : List Int × Int × List Int => law06ILentL0R p.1 p.2.1 p.2.2) (1000) (a, i, b1000006))
theorem law06ILentL0_eq (a : List Int) (i : Int) (b1000006 : List Int) : law06ILentL0 a i b1000006 = iter (fun p : List Int × Int × List Int => law06ILentL0R p.1 p.2.1 p.2.2) (1000) (a, i, b1000006) := hide_eq _
def law06ILentB (a : List Int) : Option ((Nat × Nat) × List Int) :=
 (law06ICopied a).bind fun r1 =>
 (law06ILentL0 a (0 : Int) r1).bind fun q2 =>
 bif decide (0 ≤ ((q2.1.length : Nat) : Int)) then
  bif Nat.ble (Int.toNat ((q2.1.length : Nat) : Int)) q2.2.length then
   some ((0, ((Int.toNat ((q2.1.length : Nat) : Int)) - 0)), q2.2)
  else none
 else none
def law06ILent (a : List Int) : Option ((Nat × Nat) × List Int) := hide (law06ILentB a)
theorem law06ILent_eq (a : List Int) : law06ILent a = law06ILentB a := hide_eq _
def law06IStillL0R (a : List Int) (full : Nat × Nat) (i : Int) (given : List Int) : Option ((List Int × (Nat × Nat) × Int × List Int) ⊕ (List Int ⊕ List Int)) :=
 bif (decide (i < ((full.2 : Nat) : Int))) then
  bif (decide (i < ((a.length : Nat) : Int))) then
   bif decide (0 ≤ i) then
    bif Nat.blt (Int.toNat i) full.2 then
     bif Nat.blt (full.1 + (Int.toNat i)) given.length then
      bif decide (0 ≤ i) then
       bif Nat.blt (Int.toNat i) a.length then
        bif ((given.getD (full.1 + (Int.toNat i)) (0 : Int)) != (a.getD (Int.toNat i) (0 : Int))) then
         some (.inr (.inl given))
        else
         bif (decide (i ≥ ((a.length : Nat) : Int))) then
          bif decide (0 ≤ i) then
           bif Nat.blt (Int.toNat i) full.2 then
            bif Nat.blt (full.1 + (Int.toNat i)) given.length then
             bif ((given.getD (full.1 + (Int.toNat i)) (0 : Int)) != (165 : Int)) then
              some (.inr (.inl given))
             else
              some (.inl (a, full, (IntKind.wrap .i64 (i + (1 : Int))), given))
            else none
           else none
          else none
         else
          some (.inl (a, full, (IntKind.wrap .i64 (i + (1 : Int))), given))
       else none
      else none
     else none
    else none
   else none
  else
   bif (decide (i ≥ ((a.length : Nat) : Int))) then
    bif decide (0 ≤ i) then
     bif Nat.blt (Int.toNat i) full.2 then
      bif Nat.blt (full.1 + (Int.toNat i)) given.length then
       bif ((given.getD (full.1 + (Int.toNat i)) (0 : Int)) != (165 : Int)) then
        some (.inr (.inl given))
       else
        some (.inl (a, full, (IntKind.wrap .i64 (i + (1 : Int))), given))
      else none
     else none
    else none
   else
    some (.inl (a, full, (IntKind.wrap .i64 (i + (1 : Int))), given))
 else
  some (.inr (.inr given))
def law06IStillL0 (a : List Int) (full : Nat × Nat) (i : Int) (given : List Int) : Option (List Int ⊕ List Int) := hide (iter (fun p : List Int × (Nat × Nat) × Int × List Int => law06IStillL0R p.1 p.2.1 p.2.2.1 p.2.2.2) (bigFuel) (a, full, i, given))
theorem law06IStillL0_eq (a : List Int) (full : Nat × Nat) (i : Int) (given : List Int) : law06IStillL0 a full i given = iter (fun p : List Int × (Nat × Nat) × Int × List Int => law06IStillL0R p.1 p.2.1 p.2.2.1 p.2.2.2) (bigFuel) (a, full, i, given) := hide_eq _
def law06IStillB (given : Nat × Nat) (b0 : List Int) (a : List Int) : Option (Bool × List Int) :=
 bif (((given.2 : Nat) : Int) != ((a.length : Nat) : Int)) then
  some (false, b0)
 else
  bif decide (0 ≤ (IntKind.wrap .i64 (((a.length : Nat) : Int) + (70 : Int)))) then
   bif Nat.ble (Int.toNat (IntKind.wrap .i64 (((a.length : Nat) : Int) + (70 : Int)))) (b0.length - given.1) then
    (law06IStillL0 a ((given.1 + 0), ((Int.toNat (IntKind.wrap .i64 (((a.length : Nat) : Int) + (70 : Int)))) - 0)) (0 : Int) b0).bind fun q1 =>
    sumK q1 (fun q2 =>
     some (false, q2))
     (fun q3 =>
     some (true, q3))
   else none
  else none
def law06IStill (given : Nat × Nat) (b0 : List Int) (a : List Int) : Option (Bool × List Int) := hide (law06IStillB given b0 a)
theorem law06IStill_eq (given : Nat × Nat) (b0 : List Int) (a : List Int) : law06IStill given b0 a = law06IStillB given b0 a := hide_eq _
end Go.Sy
