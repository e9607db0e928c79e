/- Typed functions, printed by a program out of the code: what each function of the code computes. -/
import Derived.Test.YtfappeeggccicaaGreatDoorSyVS
set_option linter.unusedVariables false
noncomputable section
namespace Go.Sy
open Go
def ecdsaICandidatesL0R (s17 : Int) (d : List Int) (e : List Int) (v : List Int) (k : List Int) : Option ((Int × List Int × List Int × List Int × List Int) ⊕ (List Int × List Int × List Int × List Int)) :=
 bif (decide (s17 < (32 : Int))) then
  bif decide (0 ≤ s17) then
   bif Nat.blt (Int.toNat s17) 32 then
    bif Nat.blt (Int.toNat s17) 32 then
     some (.inl ((IntKind.wrap .i64 (s17 + (1 : Int))), d, e, (v.set (Int.toNat s17) (1 : Int)), k))
    else none
   else none
  else none
 else
  some (.inr (d, e, v, k))
def ecdsaICandidatesL0 (s17 : Int) (d : List Int) (e : List Int) (v : List Int) (k : List Int) : Option (List Int × List Int × List Int × List Int) := hide (iter (fun p : Int × List Int × List Int × List Int × List Int => ecdsaICandidatesL0R p.1 p.2.1 p.2.2.1 p.2.2.2.1 p.2.2.2.2) (1000) (s17, d, e, v, k))
theorem ecdsaICandidatesL0_eq (s17 : Int) (d : List Int) (e : List Int) (v : List Int) (k : List Int) : ecdsaICandidatesL0 s17 d e v k = iter (fun p : Int × List Int × List Int × List Int × List Int => ecdsaICandidatesL0R p.1 p.2.1 p.2.2.1 p.2.2.2.1 p.2.2.2.2) (1000) (s17, d, e, v, k) := hide_eq _
def ecdsaICandidatesB (key : Nat) (digest : List Int) : Option (List Int × List Int × Bool) :=
 (u256Put key).bind fun r1 =>
 (ecdsaINumber digest).bind fun r2 =>
 (u256Put r2).bind fun r3 =>
 (ecdsaICandidatesL0 (0 : Int) r1 r3 (List.replicate 32 (0 : Int)) (List.replicate 32 (0 : Int))).bind fun q4 =>
 (shaHMAC (List.take 32 (List.drop 0 q4.2.2.2)) [(List.take 32 (List.drop 0 q4.2.2.1)), [(0 : Int)], (List.take 32 (List.drop 0 q4.1)), (List.take 32 (List.drop 0 q4.2.1))]).bind fun r5 =>
 (shaHMAC (List.take 32 (List.drop 0 r5)) [(List.take 32 (List.drop 0 q4.2.2.1))]).bind fun r6 =>
 (shaHMAC (List.take 32 (List.drop 0 r5)) [(List.take 32 (List.drop 0 r6)), [(1 : Int)], (List.take 32 (List.drop 0 q4.1)), (List.take 32 (List.drop 0 q4.2.1))]).bind fun r7 =>
 (shaHMAC (List.take 32 (List.drop 0 r7)) [(List.take 32 (List.drop 0 r6))]).bind fun r8 =>
 some (r8, r7, true)
def ecdsaICandidates (key : Nat) (digest : List Int) : Option (List Int × List Int × Bool) := hide (ecdsaICandidatesB key digest)
theorem ecdsaICandidates_eq (key : Nat) (digest : List Int) : ecdsaICandidates key digest = ecdsaICandidatesB key digest := hide_eq _
def ecdsaICandidatesC1B (a0 : Bool) (a1 : List Int) (a2 : List Int) : Option (Nat × Bool × List Int × List Int) :=
 bif (!a0) then
  (shaHMAC (List.take 32 (List.drop 0 a1)) [(List.take 32 (List.drop 0 a2)), [(0 : Int)]]).bind fun r1 =>
  (shaHMAC (List.take 32 (List.drop 0 r1)) [(List.take 32 (List.drop 0 a2))]).bind fun r2 =>
  (shaHMAC (List.take 32 (List.drop 0 r1)) [(List.take 32 (List.drop 0 r2))]).bind fun r3 =>
  (u256Get (List.take 32 (List.drop 0 r3))).bind fun r4 =>
  some (r4.1, false, r1, r3)
 else
  (shaHMAC (List.take 32 (List.drop 0 a1)) [(List.take 32 (List.drop 0 a2))]).bind fun r5 =>
  (u256Get (List.take 32 (List.drop 0 r5))).bind fun r6 =>
  some (r6.1, false, a1, r5)
def ecdsaICandidatesC1 (a0 : Bool) (a1 : List Int) (a2 : List Int) : Option (Nat × Bool × List Int × List Int) := hide (ecdsaICandidatesC1B a0 a1 a2)
theorem ecdsaICandidatesC1_eq (a0 : Bool) (a1 : List Int) (a2 : List Int) : ecdsaICandidatesC1 a0 a1 a2 = ecdsaICandidatesC1B a0 a1 a2 := hide_eq _
def ecdsaNonceL0R (which : Int) (s24 : Int) (b6 : Nat) (b1000023 : List Int) (b1001023 : List Int) (b1002023 : Bool) : Option ((Int × Int × Nat × List Int × List Int × Bool) ⊕ (Nat ⊕ Nat)) :=
 bif (decide (s24 < (256 : Int))) then
  (ecdsaICandidatesC1 b1002023 b1001023 b1000023).bind fun r5 =>
  (ecdsaIFit r5.1).bind fun r6 =>
  bif (!r6) then
   some (.inl (which, (IntKind.wrap .i64 (s24 + (1 : Int))), b6, r5.2.2.2, r5.2.2.1, r5.2.1))
  else
   bif (which == (0 : Int)) then
    some (.inr (.inl r5.1))
   else
    some (.inl ((IntKind.wrap .i64 (which - (1 : Int))), (IntKind.wrap .i64 (s24 + (1 : Int))), b6, r5.2.2.2, r5.2.2.1, r5.2.1))
 else
  some (.inr (.inr b6))
def ecdsaNonceL0 (which : Int) (s24 : Int) (b6 : Nat) (b1000023 : List Int) (b1001023 : List Int) (b1002023 : Bool) : Option (Nat ⊕ Nat) := hide (iter (fun p : Int × Int × Nat × List Int × List Int × Bool => ecdsaNonceL0R p.1 p.2.1 p.2.2.1 p.2.2.2.1 p.2.2.2.2.1 p.2.2.2.2.2) (1000) (which, s24, b6, b1000023, b1001023, b1002023))
theorem ecdsaNonceL0_eq (which : Int) (s24 : Int) (b6 : Nat) (b1000023 : List Int) (b1001023 : List Int) (b1002023 : Bool) : ecdsaNonceL0 which s24 b6 b1000023 b1001023 b1002023 = iter (fun p : Int × Int × Nat × List Int × List Int × Bool => ecdsaNonceL0R p.1 p.2.1 p.2.2.1 p.2.2.2.1 p.2.2.2.2.1 p.2.2.2.2.2) (1000) (which, s24, b6, b1000023, b1001023, b1002023) := hide_eq _
def ecdsaNonceB (key : Nat) (digest : List Int) (which : Int) : Option (Nat × Int) :=
 bif (decide (which < (0 : Int))) then
  some (0, (1 : Int))
 else
  bif (decide (which ≥ (64 : Int))) then
   some (0, (1 : Int))
  else
   (ecdsaIFit key).bind fun r1 =>
   bif (!r1) then
    some (0, (60 : Int))
   else
    (ecdsaICandidates key digest).bind fun r2 =>
    (ecdsaNonceL0 which (0 : Int) 0 r2.1 r2.2.1 r2.2.2).bind fun q7 =>
    sumK q7 (fun q8 =>
     some (q8, (0 : Int)))
     (fun q9 =>
     some (0, (65 : Int)))
def ecdsaNonce (key : Nat) (digest : List Int) (which : Int) : Option (Nat × Int) := hide (ecdsaNonceB key digest which)
theorem ecdsaNonce_eq (key : Nat) (digest : List Int) (which : Int) : ecdsaNonce key digest which = ecdsaNonceB key digest which := hide_eq _
def ref06IBytes32B (x : Nat) : Option (List Int) :=
 (ref01Put x).bind fun r1 =>
 some r1
def ref06IBytes32 (x : Nat) : Option (List Int) := hide (ref06IBytes32B x)
theorem ref06IBytes32_eq (x : Nat) : ref06IBytes32 x = ref06IBytes32B x := hide_eq _
def ref06ICodeB (key : List Int) (parts : List (List Int)) : Option (List Int) :=
 (ref03HMAC key parts).bind fun r1 =>
 some r1
def ref06ICode (key : List Int) (parts : List (List Int)) : Option (List Int) := hide (ref06ICodeB key parts)
theorem ref06ICode_eq (key : List Int) (parts : List (List Int)) : ref06ICode key parts = ref06ICodeB key parts := hide_eq _
def ref06CandidatesL0R (count : Int) (i : Int) (b1000017 : List Int) (b1000020 : List Int) (b83 : List Int) (b84 : List Int) : Option ((Int × Int × List Int × List Int × List Int × List Int) ⊕ (Int × List Int × List Int × List Int × List Int)) :=
 bif (decide (i < (32 : Int))) then
  bif roomB 1 (b83.length + [(1 : Int)].length) then
   bif roomB 1 (b84.length + [(0 : Int)].length) then
    some (.inl (count, (IntKind.wrap .i64 (i + (1 : Int))), b1000017, b1000020, (b83 ++ [(1 : Int)]), (b84 ++ [(0 : Int)])))
   else none
  else none
 else
  some (.inr (count, b83, b84, b1000017, b1000020))
def ref06CandidatesL0 (count : Int) (i : Int) (b1000017 : List Int) (b1000020 : List Int) (b83 : List Int) (b84 : List Int) : Option (Int × List Int × List Int × List Int × List Int) := hide (iter (fun p : Int × Int × List Int × List Int × List Int × List Int => ref06CandidatesL0R p.1 p.2.1 p.2.2.1 p.2.2.2.1 p.2.2.2.2.1 p.2.2.2.2.2) (1000) (count, i, b1000017, b1000020, b83, b84))
theorem ref06CandidatesL0_eq (count : Int) (i : Int) (b1000017 : List Int) (b1000020 : List Int) (b83 : List Int) (b84 : List Int) : ref06CandidatesL0 count i b1000017 b1000020 b83 b84 = iter (fun p : Int × Int × List Int × List Int × List Int × List Int => ref06CandidatesL0R p.1 p.2.1 p.2.2.1 p.2.2.2.1 p.2.2.2.2.1 p.2.2.2.2.2) (1000) (count, i, b1000017, b1000020, b83, b84) := hide_eq _
def ref06CandidatesL1R (count : Int) (i : Int) (b1000048 : List Int) (b1000052 : List Int) (b85 : List Nat) : Option ((Int × Int × List Int × List Int × List Nat) ⊕ (List Nat)) :=
 bif (decide (i < count)) then
  bif (decide (i > (0 : Int))) then
   (ref06ICode (List.take 32 (List.drop 0 b1000048)) [(List.take 32 (List.drop 0 b1000052)), [(0 : Int)]]).bind fun r15 =>
   (ref06ICode (List.take 32 (List.drop 0 r15)) [(List.take 32 (List.drop 0 b1000052))]).bind fun r16 =>
   (ref06ICode (List.take 32 (List.drop 0 r15)) [(List.take 32 (List.drop 0 r16))]).bind fun r17 =>
   (ref01Get (List.take 32 (List.drop 0 r17))).bind fun r18 =>
   bif roomB 32 (b85.length + [r18.1].length) then
    some (.inl (count, (IntKind.wrap .i64 (i + (1 : Int))), r15, r17, (b85 ++ [r18.1])))
   else none
  else
   (ref06ICode (List.take 32 (List.drop 0 b1000048)) [(List.take 32 (List.drop 0 b1000052))]).bind fun r19 =>
   (ref01Get (List.take 32 (List.drop 0 r19))).bind fun r20 =>
   bif roomB 32 (b85.length + [r20.1].length) then
    some (.inl (count, (IntKind.wrap .i64 (i + (1 : Int))), b1000048, r19, (b85 ++ [r20.1])))
   else none
 else
  some (.inr b85)
def ref06CandidatesL1 (count : Int) (i : Int) (b1000048 : List Int) (b1000052 : List Int) (b85 : List Nat) : Option (List Nat) := hide (iter (fun p : Int × Int × List Int × List Int × List Nat => ref06CandidatesL1R p.1 p.2.1 p.2.2.1 p.2.2.2.1 p.2.2.2.2) (1000) (count, i, b1000048, b1000052, b85))
theorem ref06CandidatesL1_eq (count : Int) (i : Int) (b1000048 : List Int) (b1000052 : List Int) (b85 : List Nat) : ref06CandidatesL1 count i b1000048 b1000052 b85 = iter (fun p : Int × Int × List Int × List Int × List Nat => ref06CandidatesL1R p.1 p.2.1 p.2.2.1 p.2.2.2.1 p.2.2.2.2) (1000) (count, i, b1000048, b1000052, b85) := hide_eq _
def ref06CandidatesB (key : Nat) (digest : List Int) (count : Int) : Option (List Nat) :=
 (ref06IBytes32 key).bind fun r1 =>
 (ref06Number digest).bind fun r2 =>
 (ref06IBytes32 r2).bind fun r3 =>
 (ref06CandidatesL0 count (0 : Int) r1 r3 ([] : List Int) ([] : List Int)).bind fun q4 =>
 (ref06ICode q4.2.2.1 [q4.2.1, [(0 : Int)], (List.take 32 (List.drop 0 q4.2.2.2.1)), (List.take 32 (List.drop 0 q4.2.2.2.2))]).bind fun r5 =>
 (ref06ICode (List.take 32 (List.drop 0 r5)) [q4.2.1]).bind fun r6 =>
 (ref06ICode (List.take 32 (List.drop 0 r5)) [(List.take 32 (List.drop 0 r6)), [(1 : Int)], (List.take 32 (List.drop 0 q4.2.2.2.1)), (List.take 32 (List.drop 0 q4.2.2.2.2))]).bind fun r7 =>
 (ref06ICode (List.take 32 (List.drop 0 r7)) [(List.take 32 (List.drop 0 r6))]).bind fun r8 =>
 (ref06CandidatesL1 q4.1 (0 : Int) r7 r8 ([] : List Nat)).bind fun q21 =>
 some q21
def ref06Candidates (key : Nat) (digest : List Int) (count : Int) : Option (List Nat) := hide (ref06CandidatesB key digest count)
theorem ref06Candidates_eq (key : Nat) (digest : List Int) (count : Int) : ref06Candidates key digest count = ref06CandidatesB key digest count := hide_eq _
def ref06IFitOneL0R (l : List Nat) (which : Int) (i : Int) (b4 : Nat) : Option ((List Nat × Int × Int × Nat) ⊕ (Nat ⊕ Nat)) :=
 bif (decide (i < ((l.length : Nat) : Int))) then
  bif decide (0 ≤ i) then
   bif Nat.blt (Int.toNat i) l.length then
    (ref06Fit (l.getD (Int.toNat i) (0 : Nat))).bind fun r2 =>
    bif r2 then
     bif (which == (0 : Int)) then
      bif decide (0 ≤ i) then
       bif Nat.blt (Int.toNat i) l.length then
        some (.inr (.inl (l.getD (Int.toNat i) (0 : Nat))))
       else none
      else none
     else
      some (.inl (l, (IntKind.wrap .i64 (which - (1 : Int))), (IntKind.wrap .i64 (i + (1 : Int))), b4))
    else
     some (.inl (l, which, (IntKind.wrap .i64 (i + (1 : Int))), b4))
   else none
  else none
 else
  some (.inr (.inr b4))
def ref06IFitOneL0 (l : List Nat) (which : Int) (i : Int) (b4 : Nat) : Option (Nat ⊕ Nat) := hide (iter (fun p : List Nat × Int × Int × Nat => ref06IFitOneL0R p.1 p.2.1 p.2.2.1 p.2.2.2) (1000) (l, which, i, b4))
theorem ref06IFitOneL0_eq (l : List Nat) (which : Int) (i : Int) (b4 : Nat) : ref06IFitOneL0 l which i b4 = iter (fun p : List Nat × Int × Int × Nat => ref06IFitOneL0R p.1 p.2.1 p.2.2.1 p.2.2.2) (1000) (l, which, i, b4) := hide_eq _
def ref06IFitOneB (l : List Nat) (which : Int) : Option (Nat × Bool) :=
 (ref06IFitOneL0 l which (0 : Int) 0).bind fun q3 =>
 sumK q3 (fun q4 =>
  some (q4, true))
  (fun q5 =>
  some (0, false))
def ref06IFitOne (l : List Nat) (which : Int) : Option (Nat × Bool) := hide (ref06IFitOneB l which)
theorem ref06IFitOne_eq (l : List Nat) (which : Int) : ref06IFitOne l which = ref06IFitOneB l which := hide_eq _
def ref06NonceB (key : Nat) (digest : List Int) (which : Int) : Option (Nat × Int) :=
 bif (decide (which < (0 : Int))) then
  some (0, (1 : Int))
 else
  bif (decide (which > (63 : Int))) then
   some (0, (1 : Int))
  else
   (ref06Fit key).bind fun r1 =>
   bif (!r1) then
    some (0, (60 : Int))
   else
    (ref06Candidates key digest (IntKind.wrap .i64 (which + (1 : Int)))).bind fun r2 =>
    (ref06IFitOne r2 which).bind fun r3 =>
    bif (!r3.2) then
     (ref06Candidates key digest (256 : Int)).bind fun r4 =>
     (ref06IFitOne r4 which).bind fun r5 =>
     bif (!r5.2) then
      some (0, (65 : Int))
     else
      some (r5.1, (0 : Int))
    else
     bif (!r3.2) then
      some (0, (65 : Int))
     else
      some (r3.1, (0 : Int))
def ref06Nonce (key : Nat) (digest : List Int) (which : Int) : Option (Nat × Int) := hide (ref06NonceB key digest which)
theorem ref06Nonce_eq (key : Nat) (digest : List Int) (which : Int) : ref06Nonce key digest which = ref06NonceB key digest which := hide_eq _
end Go.Sy
