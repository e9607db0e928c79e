/- Typed functions, printed by a program out of the code: what each function of the code computes. -/

import Derived.Test.YtfappeeggccicaaDoorSyVS

set_option linter.unusedVariables false

namespace Go.Sy

open Go

noncomputable def ecdsaICandidatesL0R (s17 : Int) (d : List Int) (e : List Int) (v : List Int) (k : List Int) : Option ((Int × List Int × List Int × List Int × List Int) ⊕ (List Int × List Int × List Int × List Int)) :=
  bif (decide (s17 < (32 : Int))) then
    bif decide (0 ≤ s17) then
      bif Nat.blt (Int.toNat s17) 32 then
        bif Nat.blt (Int.toNat s17) 32 then
          some (.inl ((IntKind.wrap .i64 (s17 + (1 : Int))), d, e, (v.set (Int.toNat s17) (1 : Int)), k))
        else none
      else none
    else none
  else
    some (.inr (d, e, v, k))

noncomputable def ecdsaICandidatesL0 (s17 : Int) (d : List Int) (e : List Int) (v : List Int) (k : List Int) : Option (List Int × List Int × List Int × List Int) := hide (iter (fun p : Int × List Int × List Int × List Int × List Int => ecdsaICandidatesL0R p.1 p.2.1 p.2.2.1 p.2.2.2.1 p.2.2.2.2) (1000) (s17, d, e, v, k))

theorem ecdsaICandidatesL0_eq (s17 : Int) (d : List Int) (e : List Int) (v : List Int) (k : List Int) : ecdsaICandidatesL0 s17 d e v k = iter (fun p : Int × List Int × List Int × List Int × List Int => ecdsaICandidatesL0R p.1 p.2.1 p.2.2.1 p.2.2.2.1 p.2.2.2.2) (1000) (s17, d, e, v, k) := hide_eq _

noncomputable def ecdsaICandidatesB (key : Nat) (digest : List Int) : Option (List Int × List Int × Bool) :=
  (u256Put key).bind fun r1 =>
  (ecdsaINumber digest).bind fun r2 =>
  (u256Put r2).bind fun r3 =>
  (ecdsaICandidatesL0 (0 : Int) r1 r3 (List.replicate 32 (0 : Int)) (List.replicate 32 (0 : Int))).bind fun q4 =>
  (shaHMAC (List.take 32 (List.drop 0 q4.2.2.2)) [(List.take 32 (List.drop 0 q4.2.2.1)), [(0 : Int)], (List.take 32 (List.drop 0 q4.1)), (List.take 32 (List.drop 0 q4.2.1))]).bind fun r5 =>
  (shaHMAC (List.take 32 (List.drop 0 r5)) [(List.take 32 (List.drop 0 q4.2.2.1))]).bind fun r6 =>
  (shaHMAC (List.take 32 (List.drop 0 r5)) [(List.take 32 (List.drop 0 r6)), [(1 : Int)], (List.take 32 (List.drop 0 q4.1)), (List.take 32 (List.drop 0 q4.2.1))]).bind fun r7 =>
  (shaHMAC (List.take 32 (List.drop 0 r7)) [(List.take 32 (List.drop 0 r6))]).bind fun r8 =>
  some (r8, r7, true)

noncomputable def ecdsaICandidates (key : Nat) (digest : List Int) : Option (List Int × List Int × Bool) := hide (ecdsaICandidatesB key digest)

theorem ecdsaICandidates_eq (key : Nat) (digest : List Int) : ecdsaICandidates key digest = ecdsaICandidatesB key digest := hide_eq _

noncomputable def ecdsaICandidatesC1B (a0 : Bool) (a1 : List Int) (a2 : List Int) : Option (Nat × Bool × List Int × List Int) :=
  bif (!a0) then
    (shaHMAC (List.take 32 (List.drop 0 a1)) [(List.take 32 (List.drop 0 a2)), [(0 : Int)]]).bind fun r1 =>
    (shaHMAC (List.take 32 (List.drop 0 r1)) [(List.take 32 (List.drop 0 a2))]).bind fun r2 =>
    (shaHMAC (List.take 32 (List.drop 0 r1)) [(List.take 32 (List.drop 0 r2))]).bind fun r3 =>
    (u256Get (List.take 32 (List.drop 0 r3))).bind fun r4 =>
    some (r4.1, false, r1, r3)
  else
    (shaHMAC (List.take 32 (List.drop 0 a1)) [(List.take 32 (List.drop 0 a2))]).bind fun r5 =>
    (u256Get (List.take 32 (List.drop 0 r5))).bind fun r6 =>
    some (r6.1, false, a1, r5)

noncomputable def ecdsaICandidatesC1 (a0 : Bool) (a1 : List Int) (a2 : List Int) : Option (Nat × Bool × List Int × List Int) := hide (ecdsaICandidatesC1B a0 a1 a2)

theorem ecdsaICandidatesC1_eq (a0 : Bool) (a1 : List Int) (a2 : List Int) : ecdsaICandidatesC1 a0 a1 a2 = ecdsaICandidatesC1B a0 a1 a2 := hide_eq _

noncomputable def ecdsaNonceL0R (which : Int) (s24 : Int) (b6 : Nat) (b1000023 : List Int) (b1001023 : List Int) (b1002023 : Bool) : Option ((Int × Int × Nat × List Int × List Int × Bool) ⊕ (Nat ⊕ Nat)) :=
  bif (decide (s24 < (256 : Int))) then
    (ecdsaICandidatesC1 b1002023 b1001023 b1000023).bind fun r5 =>
    (ecdsaIFit r5.1).bind fun r6 =>
    bif (!r6) then
      some (.inl (which, (IntKind.wrap .i64 (s24 + (1 : Int))), b6, r5.2.2.2, r5.2.2.1, r5.2.1))
    else
      bif (which == (0 : Int)) then
        some (.inr (.inl r5.1))
      else
        some (.inl ((IntKind.wrap .i64 (which - (1 : Int))), (IntKind.wrap .i64 (s24 + (1 : Int))), b6, r5.2.2.2, r5.2.2.1, r5.2.1))
  else
    some (.inr (.inr b6))

noncomputable def ecdsaNonceL0 (which : Int) (s24 : Int) (b6 : Nat) (b1000023 : List Int) (b1001023 : List Int) (b1002023 : Bool) : Option (Nat ⊕ Nat) := hide (iter (fun p : Int × Int × Nat × List Int × List Int × Bool => ecdsaNonceL0R p.1 p.2.1 p.2.2.1 p.2.2.2.1 p.2.2.2.2.1 p.2.2.2.2.2) (1000) (which, s24, b6, b1000023, b1001023, b1002023))

theorem ecdsaNonceL0_eq (which : Int) (s24 : Int) (b6 : Nat) (b1000023 : List Int) (b1001023 : List Int) (b1002023 : Bool) : ecdsaNonceL0 which s24 b6 b1000023 b1001023 b1002023 = iter (fun p : Int × Int × Nat × List Int × List Int × Bool => ecdsaNonceL0R p.1 p.2.1 p.2.2.1 p.2.2.2.1 p.2.2.2.2.1 p.2.2.2.2.2) (1000) (which, s24, b6, b1000023, b1001023, b1002023) := hide_eq _

noncomputable def ecdsaNonceB (key : Nat) (digest : List Int) (which : Int) : Option (Nat × Int) :=
  bif (decide (which < (0 : Int))) then
    some (0, (1 : Int))
  else
    bif (decide (which ≥ (64 : Int))) then
      some (0, (1 : Int))
    else
      (ecdsaIFit key).bind fun r1 =>
      bif (!r1) then
        some (0, (60 : Int))
      else
        (ecdsaICandidates key digest).bind fun r2 =>
        (ecdsaNonceL0 which (0 : Int) 0 r2.1 r2.2.1 r2.2.2).bind fun q7 =>
        sumK q7 (fun q8 =>
          some (q8, (0 : Int)))
          (fun q9 =>
          some (0, (65 : Int)))

noncomputable def ecdsaNonce (key : Nat) (digest : List Int) (which : Int) : Option (Nat × Int) := hide (ecdsaNonceB key digest which)

theorem ecdsaNonce_eq (key : Nat) (digest : List Int) (which : Int) : ecdsaNonce key digest which = ecdsaNonceB key digest which := hide_eq _

end Go.Sy
