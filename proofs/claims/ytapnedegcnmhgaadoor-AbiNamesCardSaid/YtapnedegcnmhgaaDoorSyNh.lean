/- Plain law: one round of Keccak, as the program and as the document have it (printed by nk0.py). -/
import Derived.Test.YtapnedegcnmhgaaDoorSyNg
import Derived.Test.YtapnedegcnmhgaaDoorSyVN
import Derived.KernelRfl
set_option linter.unusedVariables false
set_option linter.unusedSimpArgs false
namespace Go.Sy
open Go
theorem keccakIWays_un : keccakIWays = keccakIWaysB := by
 refine (keccakIWays_eq ).trans ?_
 rfl
theorem keccakINumbers_un : keccakINumbers = keccakINumbersB := by
 refine (keccakINumbers_eq ).trans ?_
 rfl
theorem bitsRotateLeft64_un : bitsRotateLeft64 = bitsRotateLeft64B := by
 funext x k
 refine (bitsRotateLeft64_eq x k).trans ?_
 rfl
noncomputable def keccakPermuteL1U (number : Int) (s19 : List Int) (s20 : Int) (s23 : List Int) (s24 : Int) (lanes : List Int) (b2 : List Int) (turns : List Int) (goes : List Int) (sums : List Int) : Option (Int × List Int × Int × List Int × List Int × List Int × List Int × List Int) := iter (fun p : Int × List Int × Int × List Int × Int × List Int × List Int × List Int × List Int × List Int => keccakPermuteL1R p.1 p.2.1 p.2.2.1 p.2.2.2.1 p.2.2.2.2.1 p.2.2.2.2.2.1 p.2.2.2.2.2.2.1 p.2.2.2.2.2.2.2.1 p.2.2.2.2.2.2.2.2.1 p.2.2.2.2.2.2.2.2.2) (1152921504606846976) (number, s19, s20, s23, s24, lanes, b2, turns, goes, sums)
theorem keccakPermuteL1_un : keccakPermuteL1 = keccakPermuteL1U := by
 funext number s19 s20 s23 s24 lanes b2 turns goes sums
 refine (keccakPermuteL1_eq number s19 s20 s23 s24 lanes b2 turns goes sums).trans ?_
 rw [bigFuel_eq] <;> rfl
noncomputable def keccakPermuteL2RU (number : Int) (s19 : List Int) (s20 : Int) (s36 : List Int) (s37 : Int) (lanes : List Int) (b2 : List Int) (turns : List Int) (goes : List Int) (sums : List Int) (turned : List Int) : Option ((Int × List Int × Int × List Int × Int × List Int × List Int × List Int × List Int × List Int × List Int) ⊕ (Int × List Int × Int × List Int × List Int × List Int × List Int × List Int)) :=
 bif (decide (s37 < (25 : Int))) then
  bif decide (0 ≤ s37) then
   bif Nat.blt (Int.toNat s37) 25 then
    bif Nat.blt (Int.toNat s37) 25 then
     bif decide (0 ≤ (Int.tmod (IntKind.wrap .i64 (s37 + (4 : Int))) (5 : Int))) then
      bif Nat.blt (Int.toNat (Int.tmod (IntKind.wrap .i64 (s37 + (4 : Int))) (5 : Int))) 5 then
       bif Nat.blt (Int.toNat (Int.tmod (IntKind.wrap .i64 (s37 + (4 : Int))) (5 : Int))) 5 then
        bif decide (0 ≤ (Int.tmod (IntKind.wrap .i64 (s37 + (1 : Int))) (5 : Int))) then
         bif Nat.blt (Int.toNat (Int.tmod (IntKind.wrap .i64 (s37 + (1 : Int))) (5 : Int))) 5 then
          bif Nat.blt (Int.toNat (Int.tmod (IntKind.wrap .i64 (s37 + (1 : Int))) (5 : Int))) 5 then
           (bitsRotateLeft64B (sums.getD (Int.toNat (Int.tmod (IntKind.wrap .i64 (s37 + (1 : Int))) (5 : Int))) (0 : Int)) (1 : Int)).bind fun r6 =>
           bif decide (0 ≤ s37) then
            bif Nat.blt (Int.toNat s37) 25 then
             bif Nat.blt (Int.toNat s37) 25 then
              bif decide (0 ≤ s37) then
               bif Nat.blt (Int.toNat s37) 25 then
                bif Nat.blt (Int.toNat s37) 25 then
                 (bitsRotateLeft64B (xorI .u64 (s36.getD (Int.toNat s37) (0 : Int)) (xorI .u64 (sums.getD (Int.toNat (Int.tmod (IntKind.wrap .i64 (s37 + (4 : Int))) (5 : Int))) (0 : Int)) r6)) (turns.getD (Int.toNat s37) (0 : Int))).bind fun r7 =>
                 bif decide (0 ≤ (goes.getD (Int.toNat s37) (0 : Int))) then
                  bif Nat.blt (Int.toNat (goes.getD (Int.toNat s37) (0 : Int))) 25 then
                   bif Nat.blt (Int.toNat (goes.getD (Int.toNat s37) (0 : Int))) 25 then
                    some (.inl (number, s19, s20, s36, (IntKind.wrap .i64 (s37 + (1 : Int))), lanes, b2, turns, goes, sums, (turned.set (Int.toNat (goes.getD (Int.toNat s37) (0 : Int))) r7)))
                   else none
                  else none
                 else none
                else none
               else none
              else none
             else none
            else none
           else none
          else none
         else none
        else none
       else none
      else none
     else none
    else none
   else none
  else none
 else
  some (.inr (number, s19, s20, lanes, b2, turns, goes, turned))
theorem keccakPermuteL2R_un : keccakPermuteL2R = keccakPermuteL2RU := by
 delta keccakPermuteL2R keccakPermuteL2RU
 rw [bitsRotateLeft64_un]
noncomputable def keccakPermuteL2U (number : Int) (s19 : List Int) (s20 : Int) (s36 : List Int) (s37 : Int) (lanes : List Int) (b2 : List Int) (turns : List Int) (goes : List Int) (sums : List Int) (turned : List Int) : Option (Int × List Int × Int × List Int × List Int × List Int × List Int × List Int) := iter (fun p : Int × List Int × Int × List Int × Int × List Int × List Int × List Int × List Int × List Int × List Int => keccakPermuteL2RU p.1 p.2.1 p.2.2.1 p.2.2.2.1 p.2.2.2.2.1 p.2.2.2.2.2.1 p.2.2.2.2.2.2.1 p.2.2.2.2.2.2.2.1 p.2.2.2.2.2.2.2.2.1 p.2.2.2.2.2.2.2.2.2.1 p.2.2.2.2.2.2.2.2.2.2) (1152921504606846976) (number, s19, s20, s36, s37, lanes, b2, turns, goes, sums, turned)
theorem keccakPermuteL2_un : keccakPermuteL2 = keccakPermuteL2U := by
 funext number s19 s20 s36 s37 lanes b2 turns goes sums turned
 refine (keccakPermuteL2_eq number s19 s20 s36 s37 lanes b2 turns goes sums turned).trans ?_
 rw [keccakPermuteL2R_un, bigFuel_eq] <;> rfl
noncomputable def keccakPermuteL3U (number : Int) (y : Int) (s19 : List Int) (s20 : Int) (lanes : List Int) (b2 : List Int) (turns : List Int) (goes : List Int) (turned : List Int) : Option (Int × List Int × Int × List Int × List Int × List Int × List Int) := iter (fun p : Int × Int × List Int × Int × List Int × List Int × List Int × List Int × List Int => keccakPermuteL3R p.1 p.2.1 p.2.2.1 p.2.2.2.1 p.2.2.2.2.1 p.2.2.2.2.2.1 p.2.2.2.2.2.2.1 p.2.2.2.2.2.2.2.1 p.2.2.2.2.2.2.2.2) (1152921504606846976) (number, y, s19, s20, lanes, b2, turns, goes, turned)
theorem keccakPermuteL3_un : keccakPermuteL3 = keccakPermuteL3U := by
 funext number y s19 s20 lanes b2 turns goes turned
 refine (keccakPermuteL3_eq number y s19 s20 lanes b2 turns goes turned).trans ?_
 rw [bigFuel_eq] <;> rfl
theorem ref02IAt_un : ref02IAt = ref02IAtB := by
 funext x y
 refine (ref02IAt_eq x y).trans ?_
 rfl
theorem ref02Rot_un : ref02Rot = ref02RotB := by
 funext v n
 refine (ref02Rot_eq v n).trans ?_
 rfl
noncomputable def ref02IColumnsL0RU (x : Int) (a : List Int) (b2 : List Int) (c : List Int) : Option ((Int × List Int × List Int × List Int) ⊕ (List Int × List Int × List Int)) :=
 bif (decide (x < (5 : Int))) then
  (ref02IAtB x (0 : Int)).bind fun r6 =>
  bif decide (0 ≤ r6) then
   bif Nat.blt (Int.toNat r6) 25 then
    bif Nat.blt (Int.toNat r6) 25 then
     (ref02IAtB x (1 : Int)).bind fun r7 =>
     bif decide (0 ≤ r7) then
      bif Nat.blt (Int.toNat r7) 25 then
       bif Nat.blt (Int.toNat r7) 25 then
        (ref02IAtB x (2 : Int)).bind fun r8 =>
        bif decide (0 ≤ r8) then
         bif Nat.blt (Int.toNat r8) 25 then
          bif Nat.blt (Int.toNat r8) 25 then
           (ref02IAtB x (3 : Int)).bind fun r9 =>
           bif decide (0 ≤ r9) then
            bif Nat.blt (Int.toNat r9) 25 then
             bif Nat.blt (Int.toNat r9) 25 then
              (ref02IAtB x (4 : Int)).bind fun r10 =>
              bif decide (0 ≤ r10) then
               bif Nat.blt (Int.toNat r10) 25 then
                bif Nat.blt (Int.toNat r10) 25 then
                 bif decide (0 ≤ x) then
                  bif Nat.blt (Int.toNat x) 5 then
                   bif Nat.blt (Int.toNat x) 5 then
                    some (.inl ((IntKind.wrap .i64 (x + (1 : Int))), a, b2, (c.set (Int.toNat x) (xorI .u64 (xorI .u64 (xorI .u64 (xorI .u64 (a.getD (Int.toNat r6) (0 : Int)) (a.getD (Int.toNat r7) (0 : Int))) (a.getD (Int.toNat r8) (0 : Int))) (a.getD (Int.toNat r9) (0 : Int))) (a.getD (Int.toNat r10) (0 : Int))))))
                   else none
                  else none
                 else none
                else none
               else none
              else none
             else none
            else none
           else none
          else none
         else none
        else none
       else none
      else none
     else none
    else none
   else none
  else none
 else
  some (.inr (a, b2, c))
theorem ref02IColumnsL0R_un : ref02IColumnsL0R = ref02IColumnsL0RU := by
 delta ref02IColumnsL0R ref02IColumnsL0RU
 rw [ref02IAt_un]
noncomputable def ref02IColumnsL0U (x : Int) (a : List Int) (b2 : List Int) (c : List Int) : Option (List Int × List Int × List Int) := iter (fun p : Int × List Int × List Int × List Int => ref02IColumnsL0RU p.1 p.2.1 p.2.2.1 p.2.2.2) (1152921504606846976) (x, a, b2, c)
theorem ref02IColumnsL0_un : ref02IColumnsL0 = ref02IColumnsL0U := by
 funext x a b2 c
 refine (ref02IColumnsL0_eq x a b2 c).trans ?_
 rw [ref02IColumnsL0R_un, bigFuel_eq] <;> rfl
noncomputable def ref02IColumnsL2RU (x : Int) (y : Int) (a : List Int) (b2 : List Int) (c : List Int) (b : List Int) : Option ((Int × Int × List Int × List Int × List Int × List Int) ⊕ (Int × List Int × List Int × List Int × List Int)) :=
 bif (decide (y < (5 : Int))) then
  (ref02IAtB x y).bind fun r15 =>
  (ref02IAtB x y).bind fun r16 =>
  bif decide (0 ≤ r16) then
   bif Nat.blt (Int.toNat r16) 25 then
    bif Nat.blt (Int.toNat r16) 25 then
     bif decide (0 ≤ (Int.tmod (IntKind.wrap .i64 (x + (4 : Int))) (5 : Int))) then
      bif Nat.blt (Int.toNat (Int.tmod (IntKind.wrap .i64 (x + (4 : Int))) (5 : Int))) 5 then
       bif Nat.blt (Int.toNat (Int.tmod (IntKind.wrap .i64 (x + (4 : Int))) (5 : Int))) 5 then
        bif decide (0 ≤ (Int.tmod (IntKind.wrap .i64 (x + (1 : Int))) (5 : Int))) then
         bif Nat.blt (Int.toNat (Int.tmod (IntKind.wrap .i64 (x + (1 : Int))) (5 : Int))) 5 then
          bif Nat.blt (Int.toNat (Int.tmod (IntKind.wrap .i64 (x + (1 : Int))) (5 : Int))) 5 then
           (ref02RotB (c.getD (Int.toNat (Int.tmod (IntKind.wrap .i64 (x + (1 : Int))) (5 : Int))) (0 : Int)) (1 : Int)).bind fun r17 =>
           bif decide (0 ≤ r15) then
            bif Nat.blt (Int.toNat r15) 25 then
             bif Nat.blt (Int.toNat r15) 25 then
              some (.inl (x, (IntKind.wrap .i64 (y + (1 : Int))), a, b2, c, (b.set (Int.toNat r15) (xorI .u64 (xorI .u64 (a.getD (Int.toNat r16) (0 : Int)) (c.getD (Int.toNat (Int.tmod (IntKind.wrap .i64 (x + (4 : Int))) (5 : Int))) (0 : Int))) r17))))
             else none
            else none
           else none
          else none
         else none
        else none
       else none
      else none
     else none
    else none
   else none
  else none
 else
  some (.inr (x, a, b2, c, b))
theorem ref02IColumnsL2R_un : ref02IColumnsL2R = ref02IColumnsL2RU := by
 delta ref02IColumnsL2R ref02IColumnsL2RU
 rw [ref02IAt_un, ref02Rot_un]
noncomputable def ref02IColumnsL2U (x : Int) (y : Int) (a : List Int) (b2 : List Int) (c : List Int) (b : List Int) : Option (Int × List Int × List Int × List Int × List Int) := iter (fun p : Int × Int × List Int × List Int × List Int × List Int => ref02IColumnsL2RU p.1 p.2.1 p.2.2.1 p.2.2.2.1 p.2.2.2.2.1 p.2.2.2.2.2) (1152921504606846976) (x, y, a, b2, c, b)
theorem ref02IColumnsL2_un : ref02IColumnsL2 = ref02IColumnsL2U := by
 funext x y a b2 c b
 refine (ref02IColumnsL2_eq x y a b2 c b).trans ?_
 rw [ref02IColumnsL2R_un, bigFuel_eq] <;> rfl
noncomputable def ref02IColumnsL1RU (x : Int) (a : List Int) (b2 : List Int) (c : List Int) (b : List Int) : Option ((Int × List Int × List Int × List Int × List Int) ⊕ (List Int × List Int)) :=
 bif (decide (x < (5 : Int))) then
  (ref02IColumnsL2U x (0 : Int) a b2 c b).bind fun q19 =>
  some (.inl ((IntKind.wrap .i64 (q19.1 + (1 : Int))), q19.2.1, q19.2.2.1, q19.2.2.2.1, q19.2.2.2.2))
 else
  some (.inr (b2, b))
theorem ref02IColumnsL1R_un : ref02IColumnsL1R = ref02IColumnsL1RU := by
 delta ref02IColumnsL1R ref02IColumnsL1RU
 rw [ref02IColumnsL2_un]
noncomputable def ref02IColumnsL1U (x : Int) (a : List Int) (b2 : List Int) (c : List Int) (b : List Int) : Option (List Int × List Int) := iter (fun p : Int × List Int × List Int × List Int × List Int => ref02IColumnsL1RU p.1 p.2.1 p.2.2.1 p.2.2.2.1 p.2.2.2.2) (1152921504606846976) (x, a, b2, c, b)
theorem ref02IColumnsL1_un : ref02IColumnsL1 = ref02IColumnsL1U := by
 funext x a b2 c b
 refine (ref02IColumnsL1_eq x a b2 c b).trans ?_
 rw [ref02IColumnsL1R_un, bigFuel_eq] <;> rfl
noncomputable def ref02IMovedL1RU (x : Int) (y : Int) (a : List Int) (b2 : List Int) (b : List Int) : Option ((Int × Int × List Int × List Int × List Int) ⊕ (Int × List Int × List Int × List Int)) :=
 bif (decide (y < (5 : Int))) then
  (ref02IAtB y (IntKind.wrap .i64 ((IntKind.wrap .i64 ((2 : Int) * x)) + (IntKind.wrap .i64 ((3 : Int) * y))))).bind fun r5 =>
  (ref02IAtB x y).bind fun r6 =>
  bif decide (0 ≤ r6) then
   bif Nat.blt (Int.toNat r6) 25 then
    bif Nat.blt (Int.toNat r6) 25 then
     (ref02IAtB x y).bind fun r7 =>
     bif decide (0 ≤ r7) then
      bif Nat.blt (Int.toNat r7) 25 then
       bif Nat.blt (Int.toNat r7) 25 then
        (ref02RotB (a.getD (Int.toNat r6) (0 : Int)) (kecTurnsT.getD (Int.toNat r7) (0 : Int))).bind fun r8 =>
        bif decide (0 ≤ r5) then
         bif Nat.blt (Int.toNat r5) 25 then
          bif Nat.blt (Int.toNat r5) 25 then
           some (.inl (x, (IntKind.wrap .i64 (y + (1 : Int))), a, b2, (b.set (Int.toNat r5) r8)))
          else none
         else none
        else none
       else none
      else none
     else none
    else none
   else none
  else none
 else
  some (.inr (x, a, b2, b))
theorem ref02IMovedL1R_un : ref02IMovedL1R = ref02IMovedL1RU := by
 delta ref02IMovedL1R ref02IMovedL1RU
 rw [ref02IAt_un, ref02Rot_un]
noncomputable def ref02IMovedL1U (x : Int) (y : Int) (a : List Int) (b2 : List Int) (b : List Int) : Option (Int × List Int × List Int × List Int) := iter (fun p : Int × Int × List Int × List Int × List Int => ref02IMovedL1RU p.1 p.2.1 p.2.2.1 p.2.2.2.1 p.2.2.2.2) (1152921504606846976) (x, y, a, b2, b)
theorem ref02IMovedL1_un : ref02IMovedL1 = ref02IMovedL1U := by
 funext x y a b2 b
 refine (ref02IMovedL1_eq x y a b2 b).trans ?_
 rw [ref02IMovedL1R_un, bigFuel_eq] <;> rfl
noncomputable def ref02IMovedL0RU (x : Int) (a : List Int) (b2 : List Int) (b : List Int) : Option ((Int × List Int × List Int × List Int) ⊕ (List Int × List Int)) :=
 bif (decide (x < (5 : Int))) then
  (ref02IMovedL1U x (0 : Int) a b2 b).bind fun q10 =>
  some (.inl ((IntKind.wrap .i64 (q10.1 + (1 : Int))), q10.2.1, q10.2.2.1, q10.2.2.2))
 else
  some (.inr (b2, b))
theorem ref02IMovedL0R_un : ref02IMovedL0R = ref02IMovedL0RU := by
 delta ref02IMovedL0R ref02IMovedL0RU
 rw [ref02IMovedL1_un]
noncomputable def ref02IMovedL0U (x : Int) (a : List Int) (b2 : List Int) (b : List Int) : Option (List Int × List Int) := iter (fun p : Int × List Int × List Int × List Int => ref02IMovedL0RU p.1 p.2.1 p.2.2.1 p.2.2.2) (1152921504606846976) (x, a, b2, b)
theorem ref02IMovedL0_un : ref02IMovedL0 = ref02IMovedL0U := by
 funext x a b2 b
 refine (ref02IMovedL0_eq x a b2 b).trans ?_
 rw [ref02IMovedL0R_un, bigFuel_eq] <;> rfl
noncomputable def ref02IMovedBU (a : List Int) : Option (List Int) :=
 (ref02IMovedL0U (0 : Int) a (List.replicate 25 (0 : Int)) (List.replicate 25 (0 : Int))).bind fun q11 =>
 some q11.2
theorem ref02IMovedB_un : ref02IMovedB = ref02IMovedBU := by
 delta ref02IMovedB ref02IMovedBU
 rw [ref02IMovedL0_un]
theorem ref02IMoved_un : ref02IMoved = ref02IMovedBU := by
 funext a
 refine (ref02IMoved_eq a).trans ?_
 rw [ref02IMovedB_un]
noncomputable def ref02IMixedL1RU (x : Int) (y : Int) (a : List Int) (b2 : List Int) (b : List Int) : Option ((Int × Int × List Int × List Int × List Int) ⊕ (Int × List Int × List Int × List Int)) :=
 bif (decide (y < (5 : Int))) then
  (ref02IAtB x y).bind fun r5 =>
  (ref02IAtB x y).bind fun r6 =>
  bif decide (0 ≤ r6) then
   bif Nat.blt (Int.toNat r6) 25 then
    bif Nat.blt (Int.toNat r6) 25 then
     (ref02IAtB (IntKind.wrap .i64 (x + (1 : Int))) y).bind fun r7 =>
     bif decide (0 ≤ r7) then
      bif Nat.blt (Int.toNat r7) 25 then
       bif Nat.blt (Int.toNat r7) 25 then
        (ref02IAtB (IntKind.wrap .i64 (x + (2 : Int))) y).bind fun r8 =>
        bif decide (0 ≤ r8) then
         bif Nat.blt (Int.toNat r8) 25 then
          bif Nat.blt (Int.toNat r8) 25 then
           bif decide (0 ≤ r5) then
            bif Nat.blt (Int.toNat r5) 25 then
             bif Nat.blt (Int.toNat r5) 25 then
              some (.inl (x, (IntKind.wrap .i64 (y + (1 : Int))), a, b2, (b.set (Int.toNat r5) (xorI .u64 (a.getD (Int.toNat r6) (0 : Int)) (andI .u64 (xorI .u64 (18446744073709551615) (a.getD (Int.toNat r7) (0 : Int))) (a.getD (Int.toNat r8) (0 : Int)))))))
             else none
            else none
           else none
          else none
         else none
        else none
       else none
      else none
     else none
    else none
   else none
  else none
 else
  some (.inr (x, a, b2, b))
theorem ref02IMixedL1R_un : ref02IMixedL1R = ref02IMixedL1RU := by
 delta ref02IMixedL1R ref02IMixedL1RU
 rw [ref02IAt_un]
noncomputable def ref02IMixedL1U (x : Int) (y : Int) (a : List Int) (b2 : List Int) (b : List Int) : Option (Int × List Int × List Int × List Int) := iter (fun p : Int × Int × List Int × List Int × List Int => ref02IMixedL1RU p.1 p.2.1 p.2.2.1 p.2.2.2.1 p.2.2.2.2) (1152921504606846976) (x, y, a, b2, b)
theorem ref02IMixedL1_un : ref02IMixedL1 = ref02IMixedL1U := by
 funext x y a b2 b
 refine (ref02IMixedL1_eq x y a b2 b).trans ?_
 rw [ref02IMixedL1R_un, bigFuel_eq] <;> rfl
noncomputable def ref02IMixedL0RU (x : Int) (a : List Int) (b2 : List Int) (b : List Int) : Option ((Int × List Int × List Int × List Int) ⊕ (List Int × List Int)) :=
 bif (decide (x < (5 : Int))) then
  (ref02IMixedL1U x (0 : Int) a b2 b).bind fun q10 =>
  some (.inl ((IntKind.wrap .i64 (q10.1 + (1 : Int))), q10.2.1, q10.2.2.1, q10.2.2.2))
 else
  some (.inr (b2, b))
theorem ref02IMixedL0R_un : ref02IMixedL0R = ref02IMixedL0RU := by
 delta ref02IMixedL0R ref02IMixedL0RU
 rw [ref02IMixedL1_un]
noncomputable def ref02IMixedL0U (x : Int) (a : List Int) (b2 : List Int) (b : List Int) : Option (List Int × List Int) := iter (fun p : Int × List Int × List Int × List Int => ref02IMixedL0RU p.1 p.2.1 p.2.2.1 p.2.2.2) (1152921504606846976) (x, a, b2, b)
theorem ref02IMixedL0_un : ref02IMixedL0 = ref02IMixedL0U := by
 funext x a b2 b
 refine (ref02IMixedL0_eq x a b2 b).trans ?_
 rw [ref02IMixedL0R_un, bigFuel_eq] <;> rfl
noncomputable def ref02IMixedBU (a : List Int) : Option (List Int) :=
 (ref02IMixedL0U (0 : Int) a (List.replicate 25 (0 : Int)) (List.replicate 25 (0 : Int))).bind fun q11 =>
 some q11.2
theorem ref02IMixedB_un : ref02IMixedB = ref02IMixedBU := by
 delta ref02IMixedB ref02IMixedBU
 rw [ref02IMixedL0_un]
theorem ref02IMixed_un : ref02IMixed = ref02IMixedBU := by
 funext a
 refine (ref02IMixed_eq a).trans ?_
 rw [ref02IMixedB_un]
def kg (l : List Int) (i : Nat) : Int := l.getD i 0
noncomputable def rotI (x k : Int) : Int := orI .u64 (shlI .u64 x k) (shrI .u64 x (64 - k))
def kecSrc : List Nat := [0, 6, 12, 18, 24, 3, 9, 10, 16, 22, 1, 7, 13, 19, 20, 4, 5, 11, 17, 23, 2, 8, 14, 15, 21]
def kecGoesT : List Int := [0, 10, 20, 5, 15, 16, 1, 11, 21, 6, 7, 17, 2, 12, 22, 23, 8, 18, 3, 13, 14, 24, 9, 19, 4]
def sumsP (l : List Int) : List Int := [0, 1, 2, 3, 4].map fun x => xorI .u64 (xorI .u64 (xorI .u64 (xorI .u64 (xorI .u64 0 (kg l x)) (kg l (x + 5))) (kg l (x + 10))) (kg l (x + 15))) (kg l (x + 20))
def csumP (l : List Int) : List Int := [0, 1, 2, 3, 4].map fun x => xorI .u64 (xorI .u64 (xorI .u64 (xorI .u64 (kg l x) (kg l (x + 5))) (kg l (x + 10))) (kg l (x + 15))) (kg l (x + 20))
noncomputable def colP (l s : List Int) : List Int := [0, 1, 2, 3, 4, 5, 6, 7, 8, 9, 10, 11, 12, 13, 14, 15, 16, 17, 18, 19, 20, 21, 22, 23, 24].map fun i => xorI .u64 (xorI .u64 (kg l i) (kg s ((i + 4) % 5))) (rotI (kg s ((i + 1) % 5)) 1)
noncomputable def movP (b : List Int) : List Int := kecSrc.map fun i => bif (kg kecTurnsT i == 0) then kg b i else rotI (kg b i) (kg kecTurnsT i)
noncomputable def turnP (l s : List Int) : List Int := kecSrc.map fun i => rotI (xorI .u64 (kg l i) (xorI .u64 (kg s ((i + 4) % 5)) (rotI (kg s ((i + 1) % 5)) 1))) (kg kecTurnsT i)
def mixP (b : List Int) : List Int := [0, 1, 2, 3, 4, 5, 6, 7, 8, 9, 10, 11, 12, 13, 14, 15, 16, 17, 18, 19, 20, 21, 22, 23, 24].map fun i => xorI .u64 (kg b i) (andI .u64 (xorI .u64 18446744073709551615 (kg b ((i % 5 + 1) % 5 + 5 * (i / 5)))) (kg b ((i % 5 + 2) % 5 + 5 * (i / 5))))
theorem ways_val : keccakIWays = some (kecTurnsT, kecGoesT) := by rw [keccakIWays_un]; kernel_rfl
theorem numbers_val : keccakINumbers = some kecRoundsT := by rw [keccakINumbers_un]; kernel_rfl
theorem pL1 (k s20 : Int) (s19 b2 u g : List Int) (x0 x1 x2 x3 x4 x5 x6 x7 x8 x9 x10 x11 x12 x13 x14 x15 x16 x17 x18 x19 x20 x21 x22 x23 x24 : Int) : keccakPermuteL1 k s19 s20 [x0, x1, x2, x3, x4, x5, x6, x7, x8, x9, x10, x11, x12, x13, x14, x15, x16, x17, x18, x19, x20, x21, x22, x23, x24] 0 [x0, x1, x2, x3, x4, x5, x6, x7, x8, x9, x10, x11, x12, x13, x14, x15, x16, x17, x18, x19, x20, x21, x22, x23, x24] b2 u g (List.replicate 5 0) = some (k, s19, s20, [x0, x1, x2, x3, x4, x5, x6, x7, x8, x9, x10, x11, x12, x13, x14, x15, x16, x17, x18, x19, x20, x21, x22, x23, x24], b2, u, g, sumsP [x0, x1, x2, x3, x4, x5, x6, x7, x8, x9, x10, x11, x12, x13, x14, x15, x16, x17, x18, x19, x20, x21, x22, x23, x24]) := by
 rw [keccakPermuteL1_un]; kernel_rfl
theorem pL2 (k s20 : Int) (s19 b2 : List Int) (x0 x1 x2 x3 x4 x5 x6 x7 x8 x9 x10 x11 x12 x13 x14 x15 x16 x17 x18 x19 x20 x21 x22 x23 x24 s0 s1 s2 s3 s4 : Int) : keccakPermuteL2 k s19 s20 [x0, x1, x2, x3, x4, x5, x6, x7, x8, x9, x10, x11, x12, x13, x14, x15, x16, x17, x18, x19, x20, x21, x22, x23, x24] 0 [x0, x1, x2, x3, x4, x5, x6, x7, x8, x9, x10, x11, x12, x13, x14, x15, x16, x17, x18, x19, x20, x21, x22, x23, x24] b2 kecTurnsT kecGoesT [s0, s1, s2, s3, s4] (List.replicate 25 0) = some (k, s19, s20, [x0, x1, x2, x3, x4, x5, x6, x7, x8, x9, x10, x11, x12, x13, x14, x15, x16, x17, x18, x19, x20, x21, x22, x23, x24], b2, kecTurnsT, kecGoesT, turnP [x0, x1, x2, x3, x4, x5, x6, x7, x8, x9, x10, x11, x12, x13, x14, x15, x16, x17, x18, x19, x20, x21, x22, x23, x24] [s0, s1, s2, s3, s4]) := by
 rw [keccakPermuteL2_un]; kernel_rfl
theorem pL3 (k s20 : Int) (s19 b2 u g : List Int) (x0 x1 x2 x3 x4 x5 x6 x7 x8 x9 x10 x11 x12 x13 x14 x15 x16 x17 x18 x19 x20 x21 x22 x23 x24 t0 t1 t2 t3 t4 t5 t6 t7 t8 t9 t10 t11 t12 t13 t14 t15 t16 t17 t18 t19 t20 t21 t22 t23 t24 : Int) : keccakPermuteL3 k 0 s19 s20 [x0, x1, x2, x3, x4, x5, x6, x7, x8, x9, x10, x11, x12, x13, x14, x15, x16, x17, x18, x19, x20, x21, x22, x23, x24] b2 u g [t0, t1, t2, t3, t4, t5, t6, t7, t8, t9, t10, t11, t12, t13, t14, t15, t16, t17, t18, t19, t20, t21, t22, t23, t24] = some (k, s19, s20, mixP [t0, t1, t2, t3, t4, t5, t6, t7, t8, t9, t10, t11, t12, t13, t14, t15, t16, t17, t18, t19, t20, t21, t22, t23, t24], b2, u, g) := by
 rw [keccakPermuteL3_un]; kernel_rfl
theorem rCol0 (x0 x1 x2 x3 x4 x5 x6 x7 x8 x9 x10 x11 x12 x13 x14 x15 x16 x17 x18 x19 x20 x21 x22 x23 x24 : Int) : ref02IColumnsL0 0 [x0, x1, x2, x3, x4, x5, x6, x7, x8, x9, x10, x11, x12, x13, x14, x15, x16, x17, x18, x19, x20, x21, x22, x23, x24] (List.replicate 25 0) (List.replicate 5 0) = some ([x0, x1, x2, x3, x4, x5, x6, x7, x8, x9, x10, x11, x12, x13, x14, x15, x16, x17, x18, x19, x20, x21, x22, x23, x24], List.replicate 25 0, csumP [x0, x1, x2, x3, x4, x5, x6, x7, x8, x9, x10, x11, x12, x13, x14, x15, x16, x17, x18, x19, x20, x21, x22, x23, x24]) := by
 rw [ref02IColumnsL0_un]; kernel_rfl
theorem rCol1 (x0 x1 x2 x3 x4 x5 x6 x7 x8 x9 x10 x11 x12 x13 x14 x15 x16 x17 x18 x19 x20 x21 x22 x23 x24 s0 s1 s2 s3 s4 : Int) : ref02IColumnsL1 0 [x0, x1, x2, x3, x4, x5, x6, x7, x8, x9, x10, x11, x12, x13, x14, x15, x16, x17, x18, x19, x20, x21, x22, x23, x24] (List.replicate 25 0) [s0, s1, s2, s3, s4] [x0, x1, x2, x3, x4, x5, x6, x7, x8, x9, x10, x11, x12, x13, x14, x15, x16, x17, x18, x19, x20, x21, x22, x23, x24] = some (List.replicate 25 0, colP [x0, x1, x2, x3, x4, x5, x6, x7, x8, x9, x10, x11, x12, x13, x14, x15, x16, x17, x18, x19, x20, x21, x22, x23, x24] [s0, s1, s2, s3, s4]) := by
 rw [ref02IColumnsL1_un]; kernel_rfl
theorem rMov (x0 x1 x2 x3 x4 x5 x6 x7 x8 x9 x10 x11 x12 x13 x14 x15 x16 x17 x18 x19 x20 x21 x22 x23 x24 : Int) : ref02IMoved [x0, x1, x2, x3, x4, x5, x6, x7, x8, x9, x10, x11, x12, x13, x14, x15, x16, x17, x18, x19, x20, x21, x22, x23, x24] = some (movP [x0, x1, x2, x3, x4, x5, x6, x7, x8, x9, x10, x11, x12, x13, x14, x15, x16, x17, x18, x19, x20, x21, x22, x23, x24]) := by
 rw [ref02IMoved_un]; kernel_rfl
theorem rMix (x0 x1 x2 x3 x4 x5 x6 x7 x8 x9 x10 x11 x12 x13 x14 x15 x16 x17 x18 x19 x20 x21 x22 x23 x24 : Int) : ref02IMixed [x0, x1, x2, x3, x4, x5, x6, x7, x8, x9, x10, x11, x12, x13, x14, x15, x16, x17, x18, x19, x20, x21, x22, x23, x24] = some (mixP [x0, x1, x2, x3, x4, x5, x6, x7, x8, x9, x10, x11, x12, x13, x14, x15, x16, x17, x18, x19, x20, x21, x22, x23, x24]) := by
 rw [ref02IMixed_un]; kernel_rfl
theorem len25 {l : List Int} (h : l.length = 25) : ∃ x0 x1 x2 x3 x4 x5 x6 x7 x8 x9 x10 x11 x12 x13 x14 x15 x16 x17 x18 x19 x20 x21 x22 x23 x24, l = [x0, x1, x2, x3, x4, x5, x6, x7, x8, x9, x10, x11, x12, x13, x14, x15, x16, x17, x18, x19, x20, x21, x22, x23, x24] := by
 match l, h with
 | [x0, x1, x2, x3, x4, x5, x6, x7, x8, x9, x10, x11, x12, x13, x14, x15, x16, x17, x18, x19, x20, x21, x22, x23, x24], _ => exact ⟨x0, x1, x2, x3, x4, x5, x6, x7, x8, x9, x10, x11, x12, x13, x14, x15, x16, x17, x18, x19, x20, x21, x22, x23, x24, rfl⟩
theorem len5 {l : List Int} (h : l.length = 5) : ∃ s0 s1 s2 s3 s4, l = [s0, s1, s2, s3, s4] := by
 match l, h with
 | [s0, s1, s2, s3, s4], _ => exact ⟨s0, s1, s2, s3, s4, rfl⟩
end Go.Sy
set_option linter.unusedVariables false
set_option linter.unusedSimpArgs false
namespace Go.Sy
open Go
def R64 (l : List Int) : Prop := ∀ v ∈ l, 0 ≤ v ∧ v < 18446744073709551616
theorem wU64 (z : Int) (h1 : 0 ≤ z) (h2 : z < 18446744073709551616) : IntKind.wrap .u64 z = z := by
 have g1 : (IntKind.u64).signed = false := rfl
 have g2 : (2 : Int) ^ (IntKind.u64).bits = 18446744073709551616 := rfl
 simp only [IntKind.wrap, g1, g2, Bool.false_eq_true, if_false, false_and]
 exact Int.emod_eq_of_lt h1 h2
theorem xorI_eq (a b : Int) : xorI .u64 a b = ((BitVec.ofInt 64 a ^^^ BitVec.ofInt 64 b).toNat : Int) := by
 show IntKind.wrap .u64 _ = _
 have h := (BitVec.ofInt 64 a ^^^ BitVec.ofInt 64 b).isLt
 exact wU64 _ (Int.natCast_nonneg _) (by
  exact Int.lt_of_lt_of_le (Int.ofNat_lt.2 h) (by decide))
theorem xorI_r (a b : Int) : 0 ≤ xorI .u64 a b ∧ xorI .u64 a b < 18446744073709551616 := by
 rw [xorI_eq]
 have h := (BitVec.ofInt 64 a ^^^ BitVec.ofInt 64 b).isLt
 refine ⟨Int.natCast_nonneg _, ?_⟩
 have : ((BitVec.ofInt 64 a ^^^ BitVec.ofInt 64 b).toNat : Int) < ((2 ^ 64 : Nat) : Int) := Int.ofNat_lt.2 h
 simpa using this
theorem xorI_of (a b : Int) : BitVec.ofInt 64 (xorI .u64 a b) = BitVec.ofInt 64 a ^^^ BitVec.ofInt 64 b := by
 rw [xorI_eq, BitVec.ofInt_natCast, BitVec.ofNat_toNat, BitVec.setWidth_eq]
theorem xorI_assoc (a b c : Int) : xorI .u64 a (xorI .u64 b c) = xorI .u64 (xorI .u64 a b) c := by
 rw [xorI_eq, xorI_eq (xorI .u64 a b), xorI_of, xorI_of, BitVec.xor_assoc]
theorem xorI_zero {a : Int} (h1 : 0 ≤ a) (h2 : a < 18446744073709551616) : xorI .u64 0 a = a := by
 obtain ⟨n, rfl⟩ := Int.eq_ofNat_of_zero_le h1
 rw [xorI_eq]
 have hz : BitVec.ofInt 64 (0 : Int) = 0#64 := by decide
 rw [hz, BitVec.zero_xor, BitVec.ofInt_natCast, BitVec.toNat_ofNat]
 congr 1
 omega
theorem rotI_zero {x : Int} (h1 : 0 ≤ x) (h2 : x < 18446744073709551616) : rotI x 0 = x := by
 obtain ⟨n, rfl⟩ := Int.eq_ofNat_of_zero_le h1
 have e1 : shlI .u64 (n : Int) 0 = (n : Int) := by
  show IntKind.wrap .u64 ((n : Int) * 2 ^ (min (0 : Int).toNat 64)) = _
  have : (2 : Int) ^ (min (0 : Int).toNat 64) = 1 := by decide
  rw [this, Int.mul_one]
  exact wU64 _ h1 h2
 have e2 : shrI .u64 (n : Int) (64 - 0) = 0 := by
  show (n : Int).fdiv (2 ^ (min ((64 : Int) - 0).toNat 64)) = 0
  have : (2 : Int) ^ (min ((64 : Int) - 0).toNat 64) = 18446744073709551616 := by decide
  rw [this, Int.fdiv_eq_ediv_of_nonneg _ (by omega)]
  omega
 unfold rotI
 rw [e1, e2, orI_eq]
 have hz : BitVec.ofInt (IntKind.u64).bits (0 : Int) = (0#64 : BitVec 64) := rfl
 have hn : BitVec.ofInt (IntKind.u64).bits (n : Int) = BitVec.ofNat 64 n := BitVec.ofInt_natCast 64 n
 rw [hz, hn]
 show IntKind.wrap .u64 ((BitVec.ofNat 64 n ||| 0#64).toNat : Int) = _
 rw [BitVec.or_zero, BitVec.toNat_ofNat]
 have : n % 2 ^ 64 = n := by omega
 rw [this]
 exact wU64 _ h1 h2
theorem kg_r {l : List Int} (h : R64 l) (i : Nat) : 0 ≤ kg l i ∧ kg l i < 18446744073709551616 := by
 unfold kg
 rw [List.getD_eq_getElem?_getD]
 cases hq : l[i]? with
 | none => simp
 | some v => simpa using h v (List.mem_of_getElem? hq)
theorem csum_sums {l : List Int} (h : R64 l) : csumP l = sumsP l := by
 unfold csumP sumsP
 refine List.map_congr_left fun x _ => ?_
 rw [xorI_zero (kg_r h x).1 (kg_r h x).2]
theorem col_get (l s : List Int) : ∀ i, i < 25 → kg (colP l s) i = xorI .u64 (xorI .u64 (kg l i) (kg s ((i + 4) % 5))) (rotI (kg s ((i + 1) % 5)) 1) := by
 intro i hi
 have : ∀ i, i < 25 → ([0, 1, 2, 3, 4, 5, 6, 7, 8, 9, 10, 11, 12, 13, 14, 15, 16, 17, 18, 19, 20, 21, 22, 23, 24] : List Nat)[i]? = some i := by decide
 unfold kg colP
 rw [List.getD_eq_getElem?_getD, List.getElem?_map, this i hi]
 rfl
theorem src_lt : ∀ i ∈ kecSrc, i < 25 := by decide
theorem mov_turn (l s : List Int) : movP (colP l s) = turnP l s := by
 unfold movP turnP
 refine List.map_congr_left fun i hi => ?_
 have hlt := src_lt i hi
 rw [col_get l s i hlt, xorI_assoc]
 cases hz : (kg kecTurnsT i == 0)
 ·rfl
 ·have hz : kg kecTurnsT i = 0 := by simpa using hz
  rw [hz, rotI_zero (xorI_r _ _).1 (xorI_r _ _).2]
  rfl
noncomputable def rndP (k : Int) (l : List Int) : List Int := (mixP (turnP l (sumsP l))).set 0 (xorI .u64 (kg (mixP (turnP l (sumsP l))) 0) k)
noncomputable def permP (l : List Int) : List Int := kecRoundsT.foldl (fun l k => rndP k l) l
theorem mix_r (b : List Int) : R64 (mixP b) := by
 intro v hv
 simp only [mixP, List.mem_map] at hv
 obtain ⟨i, _, rfl⟩ := hv
 exact xorI_r _ _
theorem rnd_r (k : Int) (l : List Int) : R64 (rndP k l) := by
 intro v hv
 rcases List.mem_or_eq_of_mem_set hv with h | h
 ·exact mix_r _ v h
 ·rw [h]; exact xorI_r _ _
theorem rnd_len (k : Int) (l : List Int) : (rndP k l).length = 25 := by
 unfold rndP
 rw [List.length_set]
 rfl
theorem sums_len (l : List Int) : (sumsP l).length = 5 := rfl
theorem turn_len (l s : List Int) : (turnP l s).length = 25 := rfl
theorem col_len (l s : List Int) : (colP l s).length = 25 := rfl
theorem pL1' (k s20 : Int) (s19 b2 u g : List Int) {l : List Int} (h : l.length = 25) : keccakPermuteL1 k s19 s20 l 0 l b2 u g (List.replicate 5 0) = some (k, s19, s20, l, b2, u, g, sumsP l) := by
 obtain ⟨x0, x1, x2, x3, x4, x5, x6, x7, x8, x9, x10, x11, x12, x13, x14, x15, x16, x17, x18, x19, x20, x21, x22, x23, x24, rfl⟩ := len25 h
 exact pL1 ..
theorem pL2' (k s20 : Int) (s19 b2 : List Int) {l s : List Int} (h : l.length = 25) (hs : s.length = 5) : keccakPermuteL2 k s19 s20 l 0 l b2 kecTurnsT kecGoesT s (List.replicate 25 0) = some (k, s19, s20, l, b2, kecTurnsT, kecGoesT, turnP l s) := by
 obtain ⟨x0, x1, x2, x3, x4, x5, x6, x7, x8, x9, x10, x11, x12, x13, x14, x15, x16, x17, x18, x19, x20, x21, x22, x23, x24, rfl⟩ := len25 h
 obtain ⟨y0, y1, y2, y3, y4, rfl⟩ := len5 hs
 exact pL2 ..
theorem pL3' (k s20 : Int) (s19 b2 u g : List Int) {l t : List Int} (h : l.length = 25) (ht : t.length = 25) : keccakPermuteL3 k 0 s19 s20 l b2 u g t = some (k, s19, s20, mixP t, b2, u, g) := by
 obtain ⟨x0, x1, x2, x3, x4, x5, x6, x7, x8, x9, x10, x11, x12, x13, x14, x15, x16, x17, x18, x19, x20, x21, x22, x23, x24, rfl⟩ := len25 h
 obtain ⟨y0, y1, y2, y3, y4, y5, y6, y7, y8, y9, y10, y11, y12, y13, y14, y15, y16, y17, y18, y19, y20, y21, y22, y23, y24, rfl⟩ := len25 ht
 exact pL3 ..
theorem rCol' {l : List Int} (h : l.length = 25) : ref02IColumns l = some (colP l (csumP l)) := by
 refine (ref02IColumns_eq l).trans ?_
 unfold ref02IColumnsB
 have h0 : ref02IColumnsL0 0 l (List.replicate 25 0) (List.replicate 5 0) = some (l, List.replicate 25 0, csumP l) := by
  obtain ⟨x0, x1, x2, x3, x4, x5, x6, x7, x8, x9, x10, x11, x12, x13, x14, x15, x16, x17, x18, x19, x20, x21, x22, x23, x24, rfl⟩ := len25 h
  exact rCol0 ..
 refine bind_step h0 ?_
 have h1 : ∀ s : List Int, s.length = 5 → ref02IColumnsL1 0 l (List.replicate 25 0) s l = some (List.replicate 25 0, colP l s) := by
  intro s hs
  obtain ⟨x0, x1, x2, x3, x4, x5, x6, x7, x8, x9, x10, x11, x12, x13, x14, x15, x16, x17, x18, x19, x20, x21, x22, x23, x24, rfl⟩ := len25 h
  obtain ⟨y0, y1, y2, y3, y4, rfl⟩ := len5 hs
  exact rCol1 ..
 refine bind_step (h1 (csumP l) rfl) ?_
 rfl
theorem rMov' {l : List Int} (h : l.length = 25) : ref02IMoved l = some (movP l) := by
 obtain ⟨x0, x1, x2, x3, x4, x5, x6, x7, x8, x9, x10, x11, x12, x13, x14, x15, x16, x17, x18, x19, x20, x21, x22, x23, x24, rfl⟩ := len25 h
 exact rMov ..
theorem rMix' {l : List Int} (h : l.length = 25) : ref02IMixed l = some (mixP l) := by
 obtain ⟨x0, x1, x2, x3, x4, x5, x6, x7, x8, x9, x10, x11, x12, x13, x14, x15, x16, x17, x18, x19, x20, x21, x22, x23, x24, rfl⟩ := len25 h
 exact rMix ..
theorem rounds_len : kecRoundsT.length = 24 := by decide
theorem drop_round {i : Nat} (h : i < 24) : kecRoundsT.drop i = kecRoundsT.getD i 0 :: kecRoundsT.drop (i + 1) := by
 have hl : i < kecRoundsT.length := by rw [rounds_len]; exact h
 rw [List.drop_eq_getElem_cons hl, getD_some hl]
theorem permL0 : ∀ (r i fuel : Nat) (l b2 : List Int), i + r = 24 → r < fuel → l.length = 25 →
  iter (fun p : List Int × Int × List Int × List Int × List Int × List Int => keccakPermuteL0R p.1 p.2.1 p.2.2.1 p.2.2.2.1 p.2.2.2.2.1 p.2.2.2.2.2) fuel (kecRoundsT, (i : Int), l, b2, kecTurnsT, kecGoesT) = some ((kecRoundsT.drop i).foldl (fun l k => rndP k l) l, b2)
 | 0, i, fuel + 1, l, b2, hi, _, hl => by
  have : i = 24 := by omega
  subst this
  refine iter_end ?_
  show keccakPermuteL0R kecRoundsT ((24 : Nat) : Int) l b2 kecTurnsT kecGoesT = _
  unfold keccakPermuteL0R
  refine guard_else (dec_f (by omega)) ?_
  rfl
 | r + 1, i, fuel + 1, l, b2, hi, hf, hl => by
  refine iter_more (b := (kecRoundsT, ((i + 1 : Nat) : Int), rndP (kecRoundsT.getD i 0) l, b2, kecTurnsT, kecGoesT)) ?_ ?_
  ·show keccakPermuteL0R kecRoundsT (i : Int) l b2 kecTurnsT kecGoesT = _
   unfold keccakPermuteL0R
   refine guard_step (dec_t (by omega)) ?_
   refine guard_step (dec_t (by omega)) ?_
   refine guard_step (blt_t (by simp; omega)) ?_
   refine guard_step (blt_t (by simp; omega)) ?_
   refine bind_step (pL1' _ _ _ _ _ _ hl) ?_
   refine bind_step (pL2' _ _ _ _ hl (sums_len l)) ?_
   refine bind_step (pL3' _ _ _ _ _ _ hl (turn_len _ _)) ?_
   simp only [Int.toNat_natCast, wI_one i (by omega)]
   rfl
  ·rw [permL0 r (i + 1) fuel _ b2 (by omega) (by omega) (rnd_len _ _), drop_round (i := i) (by omega)]
   rfl
theorem permute_val {l : List Int} (h : l.length = 25) : keccakPermute l = some (permP l) := by
 refine (keccakPermute_eq l).trans ?_
 unfold keccakPermuteB
 refine bind_step ways_val ?_
 refine bind_step numbers_val ?_
 have h0 : keccakPermuteL0 kecRoundsT 0 l (List.replicate 25 0) kecTurnsT kecGoesT = some (permP l, List.replicate 25 0) := by
  rw [keccakPermuteL0_eq]
  exact permL0 24 0 bigFuel l _ rfl (by rw [bigFuel_eq]; omega) h
 refine bind_step h0 ?_
 rfl
theorem permRef : ∀ (r i fuel : Nat) (l b2 : List Int), i + r = 24 → r < fuel → l.length = 25 → R64 l →
  iter (fun p : Int × List Int × List Int => ref02PermuteL0R p.1 p.2.1 p.2.2) fuel ((i : Int), b2, l) = some (b2, (kecRoundsT.drop i).foldl (fun l k => rndP k l) l)
 | 0, i, fuel + 1, l, b2, hi, _, hl, _ => by
  have : i = 24 := by omega
  subst this
  refine iter_end ?_
  show ref02PermuteL0R ((24 : Nat) : Int) b2 l = _
  unfold ref02PermuteL0R
  refine guard_else (dec_f (by omega)) ?_
  rfl
 | r + 1, i, fuel + 1, l, b2, hi, hf, hl, hr => by
  refine iter_more (b := (((i + 1 : Nat) : Int), b2, rndP (kecRoundsT.getD i 0) l)) ?_ ?_
  ·show ref02PermuteL0R (i : Int) b2 l = _
   unfold ref02PermuteL0R
   refine guard_step (dec_t (by omega)) ?_
   refine bind_step (rCol' hl) ?_
   refine bind_step (rMov' (col_len _ _)) ?_
   rw [csum_sums hr, mov_turn]
   refine bind_step (rMix' (turn_len _ _)) ?_
   refine guard_step (dec_t (by omega)) ?_
   refine guard_step (blt_t (by simp; omega)) ?_
   refine guard_step (blt_t (by simp; omega)) ?_
   simp only [Int.toNat_natCast, wI_one i (by omega)]
   rfl
  ·rw [permRef r (i + 1) fuel _ b2 (by omega) (by omega) (rnd_len _ _) (rnd_r _ _), drop_round (i := i) (by omega)]
   rfl
theorem refPermute_val {l : List Int} (h : l.length = 25) (hr : R64 l) : ref02Permute l = some (permP l) := by
 refine (ref02Permute_eq l).trans ?_
 unfold ref02PermuteB
 have h0 : ref02PermuteL0 0 (List.replicate 25 0) l = some (List.replicate 25 0, permP l) := by
  rw [ref02PermuteL0_eq]
  exact permRef 24 0 bigFuel l _ rfl (by rw [bigFuel_eq]; omega) h hr
 refine bind_step h0 ?_
 rfl
theorem fold_r : ∀ (ks : List Int) (l : List Int), R64 l → R64 (ks.foldl (fun l k => rndP k l) l)
 | [], l, h => h
 | k :: ks, l, _ => fold_r ks (rndP k l) (rnd_r k l)
theorem fold_len : ∀ (ks : List Int) (l : List Int), l.length = 25 → (ks.foldl (fun l k => rndP k l) l).length = 25
 | [], l, h => h
 | k :: ks, l, _ => fold_len ks (rndP k l) (rnd_len k l)
theorem perm_r {l : List Int} (h : R64 l) : R64 (permP l) := fold_r _ _ h
theorem perm_len {l : List Int} (h : l.length = 25) : (permP l).length = 25 := fold_len _ _ h
attribute [irreducible] permP
end Go.Sy
set_option linter.unusedVariables false
set_option linter.unusedSimpArgs false
namespace Go.Sy
open Go
noncomputable def stpV (v : Int) (k : Nat) (a : List Int) : List Int := a.set (k / 8) (xorI .u64 (kg a (k / 8)) (shlI .u64 (IntKind.wrap .u64 v) ((8 * (k % 8) : Nat) : Int)))
noncomputable def absF : Nat → Nat → List Int → List Int → List Int
 | 0, _, _, a => a
 | r + 1, k, blk, a => absF r (k + 1) blk (stpV (kg blk k) k a)
noncomputable def absB (blk a : List Int) : List Int := absF 136 0 blk a
theorem stp_len (v : Int) (k : Nat) (a : List Int) : (stpV v k a).length = a.length := by simp [stpV]
theorem absF_len : ∀ (r k : Nat) (blk a : List Int), (absF r k blk a).length = a.length
 | 0, _, _, _ => rfl
 | r + 1, k, blk, a => (absF_len r (k + 1) blk _).trans (stp_len _ _ _)
theorem stp_r {v : Int} {k : Nat} {a : List Int} (h : R64 a) : R64 (stpV v k a) := by
 intro u hu
 rcases List.mem_or_eq_of_mem_set hu with h1 | h1
 ·exact h u h1
 ·rw [h1]; exact xorI_r _ _
theorem absF_r : ∀ (r k : Nat) (blk a : List Int), R64 a → R64 (absF r k blk a)
 | 0, _, _, _, h => h
 | r + 1, k, blk, a, h => absF_r r (k + 1) blk _ (stp_r h)
theorem absB_eq (blk a : List Int) : absB blk a = absF 136 0 blk a := rfl
attribute [irreducible] absB
theorem absB_len (blk a : List Int) : (absB blk a).length = a.length := by rw [absB_eq]; exact absF_len _ _ _ _
theorem absB_r {blk a : List Int} (h : R64 a) : R64 (absB blk a) := by rw [absB_eq]; exact absF_r _ _ _ _ h
theorem div8 {k : Nat} (h : k < 1000) : IntKind.wrap .i64 (Int.tdiv ((k : Nat) : Int) (8 : Int)) = ((k / 8 : Nat) : Int) := by
 have : Int.tdiv ((k : Nat) : Int) (8 : Int) = ((k / 8 : Nat) : Int) := rfl
 rw [this]
 exact wI _ (by omega) (by omega)
theorem mod8 {k : Nat} : IntKind.wrap .i64 ((8 : Int) * (Int.tmod ((k : Nat) : Int) (8 : Int))) = ((8 * (k % 8) : Nat) : Int) := by
 have : Int.tmod ((k : Nat) : Int) (8 : Int) = ((k % 8 : Nat) : Int) := rfl
 rw [this]
 have h2 : k % 8 < 8 := Nat.mod_lt _ (by decide)
 exact (wI _ (by omega) (by omega)).trans (by omega)
theorem mod8u {k : Nat} : IntKind.wrap .u64 ((8 * (k % 8) : Nat) : Int) = ((8 * (k % 8) : Nat) : Int) := by
 have h2 : k % 8 < 8 := Nat.mod_lt _ (by decide)
 exact wU64 _ (by omega) (by omega)
theorem absL0 : ∀ (r k fuel : Nat) (b : List Int) (kd : Int) (a part : List Int) (held long : Int), k + r = 136 → r < fuel →
  iter (fun p : List Int × Int × (Int × List Int × List Int × Int × Int) => keccakSpongeAbsorbL0R p.1 p.2.1 p.2.2) fuel (b, (k : Int), (kd, a, part, held, long)) = some (kd, absF r k b a, part, held, long)
 | 0, k, fuel + 1, b, kd, a, part, held, long, hk, _ => by
  have : k = 136 := by omega
  subst this
  refine iter_end ?_
  show keccakSpongeAbsorbL0R b ((136 : Nat) : Int) (kd, a, part, held, long) = _
  unfold keccakSpongeAbsorbL0R
  refine guard_else (dec_f (by omega)) ?_
  rfl
 | r + 1, k, fuel + 1, b, kd, a, part, held, long, hk, hf => by
  refine iter_more (b := (b, ((k + 1 : Nat) : Int), (kd, stpV (kg b k) k a, part, held, long))) ?_ ?_
  ·show keccakSpongeAbsorbL0R b (k : Int) (kd, a, part, held, long) = _
   unfold keccakSpongeAbsorbL0R
   rw [div8 (by omega), mod8]
   refine guard_step (dec_t (by omega)) ?_
   refine guard_step (dec_t (by omega)) ?_
   refine guard_step (blt_t (by simp; omega)) ?_
   refine guard_step (blt_t (by simp; omega)) ?_
   refine guard_step (dec_t (by omega)) ?_
   refine guard_step (blt_t (by simp; omega)) ?_
   refine guard_step (blt_t (by simp; omega)) ?_
   refine guard_else (dec_f (by omega)) ?_
   refine guard_step (dec_t (by omega)) ?_
   refine guard_step (blt_t (by simp; omega)) ?_
   refine guard_step (blt_t (by simp; omega)) ?_
   simp only [Int.toNat_natCast, wI_one k (by omega)]
   rfl
  ·exact absL0 r (k + 1) fuel b kd _ part held long (by omega) (by omega)
theorem absorb_val (kd : Int) {a : List Int} (part : List Int) (held long : Int) (h : a.length = 25) :
  keccakSpongeAbsorb (kd, a, part, held, long) = some (kd, permP (absB part a), part, 0, long) := by
 refine (keccakSpongeAbsorb_eq _).trans ?_
 unfold keccakSpongeAbsorbB
 have h0 : keccakSpongeAbsorbL0 part 0 (kd, a, part, held, long) = some (kd, absB part a, part, held, long) := by
  rw [keccakSpongeAbsorbL0_eq, absB_eq]
  exact absL0 136 0 bigFuel part kd a part held long rfl (by rw [bigFuel_eq]; omega)
 refine bind_step h0 ?_
 refine bind_step (permute_val ((absB_len _ _).trans h)) ?_
 rfl
noncomputable def spg : Nat → List Int → List Int → List Int
 | 0, a, _ => a
 | n + 1, a, T => spg n (permP (absB (T.take 136) a)) (T.drop 136)
theorem spg_len : ∀ (n : Nat) (a T : List Int), a.length = 25 → (spg n a T).length = 25
 | 0, _, _, h => h
 | n + 1, a, T, h => spg_len n _ _ (perm_len ((absB_len _ _).trans h))
theorem spg_last : ∀ (n : Nat) (a T : List Int), spg (n + 1) a T = permP (absB ((T.drop (136 * n)).take 136) (spg n a T))
 | 0, a, T => rfl
 | n + 1, a, T => by
  show spg (n + 1) (permP (absB (T.take 136) a)) (T.drop 136) = _
  rw [spg_last n]
  rw [List.drop_drop]
  have : 136 + 136 * n = 136 * (n + 1) := by omega
  rw [this]
  rfl
theorem spg_app : ∀ (n : Nat) (a T X : List Int), 136 * n ≤ T.length → spg n a (T ++ X) = spg n a T
 | 0, _, _, _, _ => rfl
 | n + 1, a, T, X, h => by
  show spg n (permP (absB ((T ++ X).take 136) a)) ((T ++ X).drop 136) = spg n (permP (absB (T.take 136) a)) (T.drop 136)
  rw [List.take_append_of_le_length (by omega), List.drop_append_of_le_length (by omega)]
  exact spg_app n _ _ _ (by rw [List.length_drop]; omega)
theorem writeL : ∀ (r fuel : Nat) (D : List Int) (kd : Int) (a part : List Int) (h : Nat) (long : Int), D.length ≤ r → r < fuel → r < 1000000000000000 → part.length = 136 → h < 136 → a.length = 25 →
  ∃ part' : List Int, part'.length = 136 ∧ part'.take ((h + D.length) % 136) = (part.take h ++ D).drop (136 * ((h + D.length) / 136)) ∧
   iter (fun p : List Int × (Int × List Int × List Int × Int × Int) => keccakSpongeWriteL0R p.1 p.2) fuel (D, (kd, a, part, (h : Int), long)) = some (kd, spg ((h + D.length) / 136) a (part.take h ++ D), part', (((h + D.length) % 136 : Nat) : Int), long)
 | r, fuel, [], kd, a, part, h, long, hr, hf, hbig, hp, hh, ha => by
  have e1 : (h + ([] : List Int).length) / 136 = 0 := by simp; omega
  have e2 : (h + ([] : List Int).length) % 136 = h := by simp; omega
  rw [e1, e2]
  obtain ⟨m, rfl⟩ : ∃ m, fuel = m + 1 := ⟨fuel - 1, by omega⟩
  refine ⟨part, hp, by simp, iter_end ?_⟩
  show keccakSpongeWriteL0R [] (kd, a, part, (h : Int), long) = _
  unfold keccakSpongeWriteL0R
  refine guard_else (dec_f (by simp)) ?_
  rfl
 | 0, fuel, x :: D, kd, a, part, h, long, hr, hf, hbig, hp, hh, ha => by simp at hr
 | r + 1, fuel + 1, x :: D0, kd, a, part, h, long, hr, hf, hbig, hp, hh, ha => by
  generalize hD : x :: D0 = D at *
  have hpos : 0 < D.length := by rw [← hD]; simp
  clear hD
  by_cases hfull : 136 - h ≤ D.length
  ·have hm : min D.length (136 - h) = 136 - h := by omega
   have hpart : spliceL part h (D.take (136 - h)) = (part.take h ++ D).take 136 := by
    unfold spliceL
    have e1 : (D.take (136 - h)).length = 136 - h := by rw [List.length_take]; omega
    have e2 : h + (136 - h) = 136 := by omega
    rw [e1, e2, List.drop_of_length_le (by omega), List.append_nil]
    have e3 : (part.take h).length = h := by rw [List.length_take]; omega
    rw [List.take_append, e3, List.take_of_length_le (l := part.take h) (by omega)]
   have hdrop : (part.take h ++ D).drop 136 = D.drop (136 - h) := by
    have e3 : (part.take h).length = h := by rw [List.length_take]; omega
    rw [List.drop_append, e3, List.drop_of_length_le (l := part.take h) (by omega), List.nil_append]
   have hnext : List.take (D.length - (136 - h)) (List.drop (136 - h) D) = D.drop (136 - h) := by
    rw [List.take_of_length_le (by rw [List.length_drop]; omega)]
   obtain ⟨part', k1, k2, k3⟩ := writeL r fuel (D.drop (136 - h)) kd (permP (absB ((part.take h ++ D).take 136) a)) ((part.take h ++ D).take 136) 0 long (by rw [List.length_drop]; omega) (by omega) (by omega)
    (by rw [List.length_take, List.length_append, List.length_take]; omega) (by omega) (perm_len ((absB_len _ _).trans ha))
   have hl : 0 + (D.drop (136 - h)).length = h + D.length - 136 := by rw [List.length_drop]; omega
   rw [hl] at k2 k3
   have e1 : (h + D.length) / 136 = (h + D.length - 136) / 136 + 1 := by omega
   have e2 : (h + D.length) % 136 = (h + D.length - 136) % 136 := by omega
   refine ⟨part', k1, ?_, ?_⟩
   ·rw [e2, k2, e1]
    simp only [List.take_zero, List.nil_append]
    have e4 : 136 * ((h + D.length - 136) / 136 + 1) = 136 + 136 * ((h + D.length - 136) / 136) := by omega
    rw [e4, ← List.drop_drop, hdrop]
   ·refine iter_more (b := (D.drop (136 - h), (kd, permP (absB ((part.take h ++ D).take 136) a), (part.take h ++ D).take 136, ((0 : Nat) : Int), long))) ?_ ?_
    ·show keccakSpongeWriteL0R D (kd, a, part, (h : Int), long) = _
     unfold keccakSpongeWriteL0R
     refine guard_step (dec_t (by omega)) ?_
     refine guard_step (dec_t (Int.natCast_nonneg _)) ?_
     simp only [Int.toNat_natCast, hm]
     refine guard_step (ble_t (by omega)) ?_
     refine guard_step (by rw [ble_t (by omega)]; rfl) ?_
     refine guard_step (dec_t (Int.natCast_nonneg _)) ?_
     refine guard_step (ble_t (by omega)) ?_
     have hw : IntKind.wrap .i64 ((h : Int) + ((136 - h : Nat) : Int)) = ((136 : Nat) : Int) := by
      have e5 : h + (136 - h) = 136 := by omega
      rw [wI_add h (136 - h) (by omega), e5]
     rw [hw, hpart, hnext]
     refine guard_step (by rfl) ?_
     refine bind_step (absorb_val kd _ _ long ha) ?_
     rfl
    ·rw [k3, e1, e2]
     simp only [List.take_zero, List.nil_append]
     show _ = some (kd, spg ((h + D.length - 136) / 136) (permP (absB ((part.take h ++ D).take 136) a)) ((part.take h ++ D).drop 136), _)
     rw [hdrop]
  ·have hm : min D.length (136 - h) = D.length := by omega
   have hsp : (spliceL part h (D.take (136 - h))).length = 136 := by
    unfold spliceL
    simp only [List.length_append, List.length_take, List.length_drop]
    omega
   have hpart : (spliceL part h (D.take (136 - h))).take (h + D.length) = part.take h ++ D := by
    unfold spliceL
    rw [List.take_of_length_le (l := D) (by omega)]
    rw [List.take_append_of_le_length (by rw [List.length_append, List.length_take]; omega)]
    exact List.take_of_length_le (by rw [List.length_append, List.length_take]; omega)
   have hnext : List.take (D.length - D.length) (List.drop D.length D) = [] := by simp
   obtain ⟨part', k1, k2, k3⟩ := writeL r fuel [] kd a (spliceL part h (D.take (136 - h))) (h + D.length) long (by simp) (by omega) (by omega) hsp (by omega) ha
   simp only [List.length_nil, Nat.add_zero, List.append_nil, hpart] at k2 k3
   refine ⟨part', k1, k2, ?_⟩
   refine iter_more (b := (([] : List Int), (kd, a, spliceL part h (D.take (136 - h)), ((h + D.length : Nat) : Int), long))) ?_ k3
   show keccakSpongeWriteL0R D (kd, a, part, (h : Int), long) = _
   unfold keccakSpongeWriteL0R
   refine guard_step (dec_t (by omega)) ?_
   refine guard_step (dec_t (Int.natCast_nonneg _)) ?_
   simp only [Int.toNat_natCast, hm]
   refine guard_step (ble_t (by omega)) ?_
   refine guard_step (by rw [ble_t (by omega)]; rfl) ?_
   refine guard_step (dec_t (Int.natCast_nonneg _)) ?_
   refine guard_step (ble_t (by omega)) ?_
   rw [wI_add h D.length (by omega), hnext]
   refine guard_else ?_ ?_
   ·have : ((h + D.length : Nat) : Int) ≠ 136 := by omega
    simpa using this
   ·rfl
noncomputable def outF : Nat → Nat → List Int → List Int → List Int
 | 0, _, _, h => h
 | r + 1, k, a, h => outF r (k + 1) a (h.set k (IntKind.wrap .u8 (shrI .u64 (kg a (k / 8)) ((8 * (k % 8) : Nat) : Int))))
noncomputable def outH (a : List Int) : List Int := outF 32 0 a (List.replicate 32 0)
theorem outH_eq (a : List Int) : outH a = outF 32 0 a (List.replicate 32 0) := rfl
attribute [irreducible] outH
theorem outP : ∀ (r k fuel : Nat) (b2 : List Int) (s : Int × List Int × List Int × Int × Int) (h : List Int), k + r = 32 → r < fuel →
  iter (fun p : Int × List Int × (Int × List Int × List Int × Int × Int) × List Int => keccakSpongeSumL0R p.1 p.2.1 p.2.2.1 p.2.2.2) fuel ((k : Int), b2, s, h) = some (b2, outF r k s.2.1 h)
 | 0, k, fuel + 1, b2, s, h, hk, _ => by
  have : k = 32 := by omega
  subst this
  refine iter_end ?_
  show keccakSpongeSumL0R ((32 : Nat) : Int) b2 s h = _
  unfold keccakSpongeSumL0R
  refine guard_else (dec_f (by omega)) ?_
  rfl
 | r + 1, k, fuel + 1, b2, s, h, hk, hf => by
  refine iter_more (b := (((k + 1 : Nat) : Int), b2, s, h.set k (IntKind.wrap .u8 (shrI .u64 (kg s.2.1 (k / 8)) ((8 * (k % 8) : Nat) : Int))))) ?_ ?_
  ·show keccakSpongeSumL0R (k : Int) b2 s h = _
   unfold keccakSpongeSumL0R
   rw [div8 (by omega), mod8]
   refine guard_step (dec_t (by omega)) ?_
   refine guard_step (dec_t (by omega)) ?_
   refine guard_step (blt_t (by simp; omega)) ?_
   refine guard_step (blt_t (by simp; omega)) ?_
   refine guard_else (dec_f (by omega)) ?_
   refine guard_step (dec_t (by omega)) ?_
   refine guard_step (blt_t (by simp; omega)) ?_
   refine guard_step (blt_t (by simp; omega)) ?_
   simp only [Int.toNat_natCast, wI_one k (by omega)]
   rfl
  ·exact outP r (k + 1) fuel b2 s _ (by omega) (by omega)
theorem outR : ∀ (r k fuel : Nat) (b4 a h : List Int), k + r = 32 → r < fuel →
  iter (fun p : Int × List Int × List Int × List Int => ref02DigestL2R p.1 p.2.1 p.2.2.1 p.2.2.2) fuel ((k : Int), b4, a, h) = some (b4, outF r k a h)
 | 0, k, fuel + 1, b4, a, h, hk, _ => by
  have : k = 32 := by omega
  subst this
  refine iter_end ?_
  show ref02DigestL2R ((32 : Nat) : Int) b4 a h = _
  unfold ref02DigestL2R
  refine guard_else (dec_f (by omega)) ?_
  rfl
 | r + 1, k, fuel + 1, b4, a, h, hk, hf => by
  refine iter_more (b := (((k + 1 : Nat) : Int), b4, a, h.set k (IntKind.wrap .u8 (shrI .u64 (kg a (k / 8)) ((8 * (k % 8) : Nat) : Int))))) ?_ ?_
  ·show ref02DigestL2R (k : Int) b4 a h = _
   unfold ref02DigestL2R
   rw [div8 (by omega), mod8, mod8u]
   refine guard_step (dec_t (by omega)) ?_
   refine guard_step (dec_t (by omega)) ?_
   refine guard_step (blt_t (by simp; omega)) ?_
   refine guard_step (blt_t (by simp; omega)) ?_
   refine guard_else (dec_f (by omega)) ?_
   refine guard_step (dec_t (by omega)) ?_
   refine guard_step (blt_t (by simp; omega)) ?_
   refine guard_step (blt_t (by simp; omega)) ?_
   simp only [Int.toNat_natCast, wI_one k (by omega)]
   rfl
  ·exact outR r (k + 1) fuel b4 a _ (by omega) (by omega)
noncomputable def padB (rest : List Int) : List Int := (rest ++ [1] ++ List.replicate (135 - rest.length) 0).set 135 (orI .u8 (kg (rest ++ [1] ++ List.replicate (135 - rest.length) 0) 135) 128)
theorem padB_len {rest : List Int} (h : rest.length < 136) : (padB rest).length = 136 := by
 unfold padB
 simp only [List.length_set, List.length_append, List.length_cons, List.length_nil, List.length_replicate]
 omega
attribute [irreducible] padB
theorem or_xor {v : Int} (h : v = 0 ∨ v = 1) : xorI .u8 v 128 = orI .u8 v 128 := by
 rw [orI_eq]
 rcases h with rfl | rfl
 ·decide
 ·decide
theorem sumP {a part : List Int} {h : Nat} (long : Int) (hp : part.length = 136) (hh : h < 136) (ha : a.length = 25) :
  keccakSpongeSum (0, a, part, (h : Int), long) = some (outH (permP (absB (padB (part.take h)) a))) := by
 refine (keccakSpongeSum_eq _).trans ?_
 unfold keccakSpongeSumB
 have hlt : (part.take h).length = h := by rw [List.length_take]; omega
 have hz : spliceL part h (List.replicate (136 - h) 0) = part.take h ++ List.replicate (136 - h) 0 := by
  unfold spliceL
  rw [List.length_replicate, List.drop_of_length_le (by omega), List.append_nil]
 have hrep : List.replicate (136 - h) (0 : Int) = 0 :: List.replicate (135 - h) 0 := by
  have : 136 - h = (135 - h) + 1 := by omega
  rw [this]; rfl
 have hget : (part.take h ++ List.replicate (136 - h) (0 : Int)).getD h 0 = 0 := by
  rw [List.getD_eq_getElem?_getD, List.getElem?_append_right (by omega), hlt, hrep]
  simp
 have hx : xorI .u8 0 (kecFirstT.getD 0 0) = 1 := by decide
 have hset : (part.take h ++ List.replicate (136 - h) (0 : Int)).set h 1 = part.take h ++ [1] ++ List.replicate (135 - h) 0 := by
  rw [List.set_append_right _ _ (by omega), hlt, hrep]
  simp
 have hv : kg (part.take h ++ [1] ++ List.replicate (135 - h) 0) 135 = 0 ∨ kg (part.take h ++ [1] ++ List.replicate (135 - h) 0) 135 = 1 := by
  unfold kg
  rw [List.getD_eq_getElem?_getD]
  by_cases h1 : h = 135
  ·right
   subst h1
   rw [List.getElem?_append_left (by simp; omega), List.getElem?_append_right (by omega), hlt]
   rfl
  ·left
   rw [List.getElem?_append_right (by simp; omega)]
   rw [List.getElem?_replicate]
   split <;> rfl
 have hblk : ((spliceL part h (List.replicate (136 - h) 0)).set h (xorI .u8 ((spliceL part h (List.replicate (136 - h) 0)).getD h 0) (kecFirstT.getD 0 0))).set 135 (xorI .u8 (((spliceL part h (List.replicate (136 - h) 0)).set h (xorI .u8 ((spliceL part h (List.replicate (136 - h) 0)).getD h 0) (kecFirstT.getD 0 0))).getD 135 0) 128) = padB (part.take h) := by
  rw [hz, hget, hx, hset]
  unfold padB
  rw [hlt]
  congr 1
  exact or_xor hv
 simp only [Int.toNat_natCast]
 refine guard_step (dec_t (Int.natCast_nonneg _)) ?_
 refine guard_step (ble_t (by omega)) ?_
 refine guard_step (by rw [ble_t (by omega)]; rfl) ?_
 refine guard_step (dec_t (Int.natCast_nonneg _)) ?_
 refine guard_step (blt_t (by omega)) ?_
 refine guard_step (blt_t (by omega)) ?_
 refine guard_step (by rfl) ?_
 refine guard_step (by rfl) ?_
 refine guard_step (by rfl) ?_
 refine guard_step (dec_t (Int.natCast_nonneg _)) ?_
 refine guard_step (blt_t (by omega)) ?_
 refine guard_step (blt_t (by omega)) ?_
 have habs := absorb_val 0 (padB (part.take h)) (h : Int) long ha
 rw [← hblk] at habs
 refine bind_step habs ?_
 rw [hblk]
 have h0 : keccakSpongeSumL0 0 (List.replicate 32 0) (0, permP (absB (padB (part.take h)) a), padB (part.take h), 0, long) (List.replicate 32 0) = some (List.replicate 32 0, outH (permP (absB (padB (part.take h)) a))) := by
  rw [keccakSpongeSumL0_eq, outH_eq]
  exact outP 32 0 bigFuel _ _ _ rfl (by rw [bigFuel_eq]; omega)
 refine bind_step h0 ?_
 rfl
noncomputable def kecH (P : List Int) : List Int :=
 outH (permP (absB (padB (P.drop (136 * (P.length / 136)))) (spg (P.length / 136) (List.replicate 25 0) P)))
theorem keccakSum_val {P : List Int} (hP : P.length < 100000000000000) : keccakSum [P] = some (kecH P) := by
 refine (keccakSum_eq _).trans ?_
 unfold keccakSumB
 have key : keccakIDigest 0 [P] = some (kecH P) := by
  refine (keccakIDigest_eq _ _).trans ?_
  unfold keccakIDigestB
  obtain ⟨part', k1, k2, k3⟩ := writeL P.length bigFuel P 0 (List.replicate 25 0) (List.replicate 136 0) 0 (IntKind.wrap .i64 (0 + ((P.length : Nat) : Int))) (by omega) (by rw [bigFuel_eq]; omega) (by omega) rfl (by omega) rfl
  simp only [Nat.zero_add, List.take_zero, List.nil_append] at k2 k3
  have hw : keccakSpongeWrite (0, List.replicate 25 0, List.replicate 136 0, 0, 0) P = some (0, spg (P.length / 136) (List.replicate 25 0) P, part', ((P.length % 136 : Nat) : Int), IntKind.wrap .i64 (0 + ((P.length : Nat) : Int))) := by
   refine (keccakSpongeWrite_eq _ _).trans ?_
   unfold keccakSpongeWriteB
   refine bind_step ((keccakSpongeWriteL0_eq _ _).trans k3) ?_
   rfl
  have hL : keccakIDigestL0 [P] (([P].length : Nat) : Int) 0 (List.replicate 32 0) (0, List.replicate 25 0, List.replicate 136 0, 0, 0) = some (List.replicate 32 0, 0, spg (P.length / 136) (List.replicate 25 0) P, part', ((P.length % 136 : Nat) : Int), IntKind.wrap .i64 (0 + ((P.length : Nat) : Int))) := by
   rw [keccakIDigestL0_eq]
   obtain ⟨m, hm⟩ : ∃ m, bigFuel = m + 1 + 1 := ⟨1152921504606846974, by rw [bigFuel_eq]⟩
   rw [hm]
   refine iter_more (b := ([P], (1 : Int), (1 : Int), List.replicate 32 0, (0, spg (P.length / 136) (List.replicate 25 0) P, part', ((P.length % 136 : Nat) : Int), IntKind.wrap .i64 (0 + ((P.length : Nat) : Int))))) ?_ ?_
   ·show keccakIDigestL0R [P] 1 0 (List.replicate 32 0) (0, List.replicate 25 0, List.replicate 136 0, 0, 0) = _
    unfold keccakIDigestL0R
    refine guard_step (by rfl) ?_
    refine guard_step (by rfl) ?_
    refine guard_step (by rfl) ?_
    refine bind_step hw ?_
    rfl
   ·refine iter_end ?_
    show keccakIDigestL0R [P] 1 1 (List.replicate 32 0) _ = _
    unfold keccakIDigestL0R
    refine guard_else (by rfl) ?_
    rfl
  refine bind_step hL ?_
  refine bind_step (sumP _ k1 (Nat.mod_lt _ (by decide)) (spg_len _ _ _ rfl)) ?_
  rw [k2]
  rfl
 refine bind_step key ?_
 rfl
theorem fillL : ∀ (m fuel : Nat) (l : List Int), (l.length + m) % 136 = 0 → m < 136 → m < fuel → l.length + m < 100000000000000 →
  iter (fun p : List Int => ref02IFilledL0R p) fuel l = some (l ++ List.replicate m 0)
 | 0, fuel + 1, l, hm, _, _, _ => by
  refine iter_end ?_
  show ref02IFilledL0R l = _
  unfold ref02IFilledL0R
  have e : Int.tmod ((l.length : Nat) : Int) (136 : Int) = ((l.length % 136 : Nat) : Int) := rfl
  rw [e]
  have : l.length % 136 = 0 := hm
  rw [this]
  refine guard_else (by rfl) ?_
  simp
 | m + 1, fuel + 1, l, hm, h1, hf, hb => by
  refine iter_more (b := l ++ [0]) ?_ ?_
  ·show ref02IFilledL0R l = _
   unfold ref02IFilledL0R
   have e : Int.tmod ((l.length : Nat) : Int) (136 : Int) = ((l.length % 136 : Nat) : Int) := rfl
   rw [e]
   have : ((l.length % 136 : Nat) : Int) ≠ 0 := by omega
   refine guard_step (by simpa using this) ?_
   refine guard_step (roomB_t (by simp; omega) (by simp; omega)) ?_
   rfl
  ·rw [fillL m fuel (l ++ [0]) (by simp; omega) (by omega) (by omega) (by simp; omega)]
   rw [List.append_assoc]
   rfl
theorem filled_val {P : List Int} (hP : P.length < 90000000000000) : ref02IFilled P 1 = some (P.take (136 * (P.length / 136)) ++ padB (P.drop (136 * (P.length / 136)))) := by
 refine (ref02IFilled_eq _ _).trans ?_
 unfold ref02IFilledB
 refine guard_step (roomB_t (by omega) (by omega)) ?_
 refine guard_step (roomB_t (by simp; omega) (by simp; omega)) ?_
 have hrl : (P.drop (136 * (P.length / 136))).length = P.length % 136 := by rw [List.length_drop]; omega
 have h0 : ref02IFilledL0 (P ++ [1]) = some (P ++ [1] ++ List.replicate (135 - P.length % 136) 0) := by
  rw [ref02IFilledL0_eq]
  exact fillL (135 - P.length % 136) bigFuel (P ++ [1]) (by simp; omega) (by omega) (by rw [bigFuel_eq]; omega) (by simp; omega)
 refine bind_step h0 ?_
 generalize hq : P ++ [1] ++ List.replicate (135 - P.length % 136) 0 = q
 have hql : q.length = 136 * (P.length / 136) + 136 := by rw [← hq]; simp; omega
 have e : IntKind.wrap .i64 (((q.length : Nat) : Int) - (1 : Int)) = ((136 * (P.length / 136) + 135 : Nat) : Int) := by
  rw [hql]
  exact (wI _ (by omega) (by omega)).trans (by omega)
 rw [e]
 simp only [Int.toNat_natCast]
 refine guard_step (dec_t (Int.natCast_nonneg _)) ?_
 refine guard_step (blt_t (by omega)) ?_
 refine guard_step (blt_t (by omega)) ?_
 refine guard_step (dec_t (Int.natCast_nonneg _)) ?_
 refine guard_step (blt_t (by omega)) ?_
 refine guard_step (blt_t (by omega)) ?_
 have hsplit : q = P.take (136 * (P.length / 136)) ++ (P.drop (136 * (P.length / 136)) ++ [1] ++ List.replicate (135 - (P.drop (136 * (P.length / 136))).length) 0) := by
  rw [← hq, hrl, ← List.append_assoc, ← List.append_assoc, List.take_append_drop]
 have hal : (P.take (136 * (P.length / 136))).length = 136 * (P.length / 136) := by rw [List.length_take]; omega
 unfold padB
 rw [hsplit]
 generalize (P.drop (136 * (P.length / 136)) ++ [1] ++ List.replicate (135 - (P.drop (136 * (P.length / 136))).length) 0) = B
 have hg : (P.take (136 * (P.length / 136)) ++ B).getD (136 * (P.length / 136) + 135) 0 = kg B 135 := by
  unfold kg
  rw [List.getD_eq_getElem?_getD, List.getD_eq_getElem?_getD, List.getElem?_append_right (by omega), hal]
  congr 2
  omega
 rw [hg, List.set_append_right _ _ (by omega), hal]
 have : 136 * (P.length / 136) + 135 - 136 * (P.length / 136) = 135 := by omega
 rw [this]
theorem kg_block {l : List Int} {f k : Nat} (hk : k < 136) : kg ((l.drop f).take 136) k = l.getD (f + k) 0 := by
 unfold kg
 rw [List.getD_eq_getElem?_getD, List.getElem?_take, if_pos hk, List.getElem?_drop, List.getD_eq_getElem?_getD]
theorem digL1 : ∀ (r k fuel : Nat) (l : List Int) (f : Nat) (b4 a : List Int), k + r = 136 → r < fuel → f + 136 ≤ l.length → l.length < 100000000000000 →
  iter (fun p : List Int × Int × Int × List Int × List Int => ref02DigestL1R p.1 p.2.1 p.2.2.1 p.2.2.2.1 p.2.2.2.2) fuel (l, (f : Int), (k : Int), b4, a) = some (l, (f : Int), b4, absF r k ((l.drop f).take 136) a)
 | 0, k, fuel + 1, l, f, b4, a, hk, _, _, _ => by
  have : k = 136 := by omega
  subst this
  refine iter_end ?_
  show ref02DigestL1R l (f : Int) ((136 : Nat) : Int) b4 a = _
  unfold ref02DigestL1R
  refine guard_else (dec_f (by omega)) ?_
  rfl
 | r + 1, k, fuel + 1, l, f, b4, a, hk, hf, hl, hb => by
  refine iter_more (b := (l, (f : Int), ((k + 1 : Nat) : Int), b4, stpV (kg ((l.drop f).take 136) k) k a)) ?_ ?_
  ·show ref02DigestL1R l (f : Int) (k : Int) b4 a = _
   unfold ref02DigestL1R
   rw [div8 (by omega), mod8, mod8u, wI_add f k (by omega)]
   refine guard_step (dec_t (by omega)) ?_
   refine guard_step (dec_t (by omega)) ?_
   refine guard_step (blt_t (by simp; omega)) ?_
   refine guard_step (blt_t (by simp; omega)) ?_
   refine guard_step (dec_t (by omega)) ?_
   refine guard_step (blt_t (by simp only [Int.toNat_natCast]; omega)) ?_
   refine guard_else (dec_f (by omega)) ?_
   refine guard_step (dec_t (by omega)) ?_
   refine guard_step (blt_t (by simp; omega)) ?_
   refine guard_step (blt_t (by simp; omega)) ?_
   rw [kg_block (by omega)]
   simp only [Int.toNat_natCast, wI_one k (by omega)]
   rfl
  ·exact digL1 r (k + 1) fuel l f b4 _ (by omega) (by omega) hl hb
theorem digL0 : ∀ (n i fuel : Nat) (l b4 a : List Int), l.length = 136 * (i + n) → n < fuel → l.length < 100000000000000 → a.length = 25 → R64 a →
  iter (fun p : List Int × Int × List Int × List Int => ref02DigestL0R p.1 p.2.1 p.2.2.1 p.2.2.2) fuel (l, ((136 * i : Nat) : Int), b4, a) = some (b4, spg n a (l.drop (136 * i)))
 | 0, i, fuel + 1, l, b4, a, hl, _, _, _, _ => by
  refine iter_end ?_
  show ref02DigestL0R l ((136 * i : Nat) : Int) b4 a = _
  unfold ref02DigestL0R
  refine guard_else (dec_f (by omega)) ?_
  rfl
 | n + 1, i, fuel + 1, l, b4, a, hl, hf, hb, ha, hr => by
  refine iter_more (b := (l, ((136 * (i + 1) : Nat) : Int), b4, permP (absB ((l.drop (136 * i)).take 136) a))) ?_ ?_
  ·show ref02DigestL0R l ((136 * i : Nat) : Int) b4 a = _
   unfold ref02DigestL0R
   refine guard_step (dec_t (by omega)) ?_
   have h1 : ref02DigestL1 l ((136 * i : Nat) : Int) 0 b4 a = some (l, ((136 * i : Nat) : Int), b4, absB ((l.drop (136 * i)).take 136) a) := by
    rw [ref02DigestL1_eq, absB_eq]
    exact digL1 136 0 bigFuel l (136 * i) b4 a rfl (by rw [bigFuel_eq]; omega) (by omega) hb
   refine bind_step h1 ?_
   refine bind_step (refPermute_val ((absB_len _ _).trans ha) (absB_r hr)) ?_
   have e : IntKind.wrap .i64 (((136 * i : Nat) : Int) + (136 : Int)) = ((136 * (i + 1) : Nat) : Int) := (wI _ (by omega) (by omega)).trans (by omega)
   simp only [e]
  ·rw [digL0 n (i + 1) fuel l b4 _ (by omega) (by omega) hb (perm_len ((absB_len _ _).trans ha)) (perm_r (absB_r hr))]
   show _ = some (b4, spg n (permP (absB ((l.drop (136 * i)).take 136) a)) ((l.drop (136 * i)).drop 136))
   rw [List.drop_drop]
   congr 4
theorem zeros_r : R64 (List.replicate 25 0) := by
 intro v hv
 rw [List.eq_of_mem_replicate hv]
 decide
theorem digest_val {P : List Int} (hP : P.length < 90000000000000) : ref02Digest P 1 = some (kecH P) := by
 refine (ref02Digest_eq _ _).trans ?_
 unfold ref02DigestB
 refine bind_step (filled_val hP) ?_
 have hrl : (P.drop (136 * (P.length / 136))).length < 136 := by rw [List.length_drop]; omega
 have hal : (P.take (136 * (P.length / 136))).length = 136 * (P.length / 136) := by rw [List.length_take]; omega
 have hbl := padB_len hrl
 have h0 : ref02DigestL0 (P.take (136 * (P.length / 136)) ++ padB (P.drop (136 * (P.length / 136)))) 0 (List.replicate 32 0) (List.replicate 25 0) = some (List.replicate 32 0, permP (absB (padB (P.drop (136 * (P.length / 136)))) (spg (P.length / 136) (List.replicate 25 0) P))) := by
  rw [ref02DigestL0_eq]
  have := digL0 (P.length / 136 + 1) 0 bigFuel (P.take (136 * (P.length / 136)) ++ padB (P.drop (136 * (P.length / 136)))) (List.replicate 32 0) (List.replicate 25 0) (by rw [List.length_append, hal, hbl]; omega) (by rw [bigFuel_eq]; omega) (by rw [List.length_append, hal, hbl]; omega) rfl zeros_r
  refine this.trans ?_
  simp only [Nat.mul_zero, List.drop_zero]
  rw [spg_last, spg_app _ _ _ _ (by omega)]
  congr 4
  ·rw [List.drop_append_of_le_length (by omega), List.drop_of_length_le (by omega), List.nil_append]
   exact List.take_of_length_le (by omega)
  ·conv => rhs; rw [← List.take_append_drop (136 * (P.length / 136)) P]
   have := spg_app (P.length / 136) (List.replicate 25 0) (P.take (136 * (P.length / 136))) (P.drop (136 * (P.length / 136))) (by omega)
   rw [List.take_append_drop] at this ⊢
   exact this.symm
 refine bind_step h0 ?_
 have h2 : ref02DigestL2 0 (List.replicate 32 0) (permP (absB (padB (P.drop (136 * (P.length / 136)))) (spg (P.length / 136) (List.replicate 25 0) P))) (List.replicate 32 0) = some (List.replicate 32 0, kecH P) := by
  unfold kecH
  rw [ref02DigestL2_eq, outH_eq]
  exact outR 32 0 bigFuel _ _ _ rfl (by rw [bigFuel_eq]; omega)
 refine bind_step h2 ?_
 rfl
theorem refSum_val {P : List Int} (hP : P.length < 90000000000000) : ref02Sum [P] = some (kecH P) := by
 refine (ref02Sum_eq _).trans ?_
 unfold ref02SumB
 have hj : ref02IJoined [P] = some P := by
  refine (ref02IJoined_eq _).trans ?_
  unfold ref02IJoinedB
  have h0 : ref02IJoinedL0 [P] 0 [] = some P := by
   rw [ref02IJoinedL0_eq]
   obtain ⟨m, hm⟩ : ∃ m, bigFuel = m + 1 + 1 := ⟨1152921504606846974, by rw [bigFuel_eq]⟩
   rw [hm]
   refine iter_more (b := ([P], (1 : Int), P)) ?_ ?_
   ·show ref02IJoinedL0R [P] 0 [] = _
    unfold ref02IJoinedL0R
    refine guard_step (by rfl) ?_
    refine guard_step (by rfl) ?_
    refine guard_step (by rfl) ?_
    refine guard_step (roomB_t (by simp; omega) (by simp; omega)) ?_
    rfl
   ·refine iter_end ?_
    show ref02IJoinedL0R [P] 1 P = _
    unfold ref02IJoinedL0R
    refine guard_else (by rfl) ?_
    rfl
  refine bind_step h0 ?_
  rfl
 refine bind_step hj ?_
 refine bind_step (digest_val hP) ?_
 rfl
end Go.Sy
