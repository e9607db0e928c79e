/- Typed functions, printed by a program out of the code: what each function of the code computes. -/

import Derived.Test.YtfappeeggccicaaDoorSyVN

set_option linter.unusedVariables false

namespace Go.Sy

open Go

noncomputable def ecdsaSignL0R (s15 : Int) (key : Nat) (digest : List Int) (b4 : Nat × Nat × Bool) : Option ((Int × Nat × List Int × (Nat × Nat × Bool)) ⊕ ((Nat × Nat × Bool) ⊕ (Nat × Nat × Bool))) :=
  bif (decide (s15 < (64 : Int))) then
    (ecdsaNonce key digest s15).bind fun r4 =>
    bif (r4.2 != (0 : Int)) then
      some (.inr (.inl b4))
    else
      (ecdsaSignWith key r4.1 digest).bind fun r5 =>
      bif (r5.2 == (0 : Int)) then
        some (.inr (.inr r5.1))
      else
        some (.inl ((IntKind.wrap .i64 (s15 + (1 : Int))), key, digest, b4))
  else
    some (.inr (.inl b4))

noncomputable def ecdsaSignL0 (s15 : Int) (key : Nat) (digest : List Int) (b4 : Nat × Nat × Bool) : Option ((Nat × Nat × Bool) ⊕ (Nat × Nat × Bool)) := hide (iter (fun p : Int × Nat × List Int × (Nat × Nat × Bool) => ecdsaSignL0R p.1 p.2.1 p.2.2.1 p.2.2.2) (1000) (s15, key, digest, b4))

theorem ecdsaSignL0_eq (s15 : Int) (key : Nat) (digest : List Int) (b4 : Nat × Nat × Bool) : ecdsaSignL0 s15 key digest b4 = iter (fun p : Int × Nat × List Int × (Nat × Nat × Bool) => ecdsaSignL0R p.1 p.2.1 p.2.2.1 p.2.2.2) (1000) (s15, key, digest, b4) := hide_eq _

noncomputable def ecdsaSignB (key : Nat) (digest : List Int) : Option ((Nat × Nat × Bool) × Int) :=
  (ecdsaIFit key).bind fun r1 =>
  bif (!r1) then
    some ((0, 0, false), (60 : Int))
  else
    (ecdsaSignL0 (0 : Int) key digest (0, 0, false)).bind fun q6 =>
    sumK q6 (fun q7 =>
      some ((0, 0, false), (65 : Int)))
      (fun q8 =>
      some (q8, (0 : Int)))

noncomputable def ecdsaSign (key : Nat) (digest : List Int) : Option ((Nat × Nat × Bool) × Int) := hide (ecdsaSignB key digest)

theorem ecdsaSign_eq (key : Nat) (digest : List Int) : ecdsaSign key digest = ecdsaSignB key digest := hide_eq _

noncomputable def law06EcdsaGenuineL0R (e : Int) (which : Int) (key : Nat) (digest : List Int) (s : Nat × Nat × Bool) : Option ((Int × Int × Nat × List Int × (Nat × Nat × Bool)) ⊕ (Bool ⊕ Int)) :=
  bif (decide (which ≤ (63 : Int))) then
    (ecdsaNonce key digest which).bind fun r8 =>
    bif (r8.2 != (0 : Int)) then
      some (.inl (e, (IntKind.wrap .i64 (which + (1 : Int))), key, digest, s))
    else
      (ecdsaSignWith key r8.1 digest).bind fun r9 =>
      bif (r9.2 == (0 : Int)) then
        (ecdsaRecover digest s).bind fun r10 =>
        (ecdsaSign key digest).bind fun r11 =>
        bif (e == (0 : Int)) then
          bif (r11.2 == (0 : Int)) then
            bif ((u256eq s.1 r9.1.1) && ((u256eq s.2.1 r9.1.2.1) && (s.2.2 == r9.1.2.2))) then
              bif ((u256eq r11.1.1 s.1) && ((u256eq r11.1.2.1 s.2.1) && (r11.1.2.2 == s.2.2))) then
                bif (r10.2 == (0 : Int)) then
                  (curveMulG key).bind fun r12 =>
                  some (.inr (.inl ((u256eq r10.1.1 r12.1) && ((u256eq r10.1.2.1 r12.2.1) && (r10.1.2.2 == r12.2.2)))))
                else
                  some (.inr (.inl false))
              else
                some (.inr (.inl false))
            else
              some (.inr (.inl false))
          else
            some (.inr (.inl false))
        else
          some (.inr (.inl false))
      else
        some (.inl (e, (IntKind.wrap .i64 (which + (1 : Int))), key, digest, s))
  else
    some (.inr (.inr e))

noncomputable def law06EcdsaGenuineL0 (e : Int) (which : Int) (key : Nat) (digest : List Int) (s : Nat × Nat × Bool) : Option (Bool ⊕ Int) := hide (iter (fun p : Int × Int × Nat × List Int × (Nat × Nat × Bool) => law06EcdsaGenuineL0R p.1 p.2.1 p.2.2.1 p.2.2.2.1 p.2.2.2.2) (1000) (e, which, key, digest, s))

theorem law06EcdsaGenuineL0_eq (e : Int) (which : Int) (key : Nat) (digest : List Int) (s : Nat × Nat × Bool) : law06EcdsaGenuineL0 e which key digest s = iter (fun p : Int × Int × Nat × List Int × (Nat × Nat × Bool) => law06EcdsaGenuineL0R p.1 p.2.1 p.2.2.1 p.2.2.2.1 p.2.2.2.2) (1000) (e, which, key, digest, s) := hide_eq _

noncomputable def law06EcdsaGenuineB (key : Nat) (digest : List Int) : Option (Bool) :=
  (ecdsaSign key digest).bind fun r1 =>
  (law06IFit key).bind fun r2 =>
  bif (!r2) then
    bif (r1.2 == (60 : Int)) then
      some ((u256eq r1.1.1 0) && ((u256eq r1.1.2.1 0) && (r1.1.2.2 == false)))
    else
      some false
  else
    (law06EcdsaGenuineL0 r1.2 (0 : Int) key digest r1.1).bind fun q13 =>
    sumK q13 (fun q14 =>
      some q14)
      (fun q15 =>
      some (q15 == (65 : Int)))

noncomputable def law06EcdsaGenuine (key : Nat) (digest : List Int) : Option (Bool) := hide (law06EcdsaGenuineB key digest)

theorem law06EcdsaGenuine_eq (key : Nat) (digest : List Int) : law06EcdsaGenuine key digest = law06EcdsaGenuineB key digest := hide_eq _

end Go.Sy
