/- Typed functions, printed by a program out of the code: what each function of the code computes. -/
import Derived.Test.YtfappeeggccicaaGreatDoorSyVN
set_option linter.unusedVariables false
noncomputable section
namespace Go.Sy
open Go
def ecdsaSignL0R (s15 : Int) (key : Nat) (digest : List Int) (b4 : Nat × Nat × Bool) : Option ((Int × Nat × List Int × (Nat × Nat × Bool)) ⊕ ((Nat × Nat × Bool) ⊕ (Nat × Nat × Bool))) :=
 bif (decide (s15 < (64 : Int))) then
  (ecdsaNonce key digest s15).bind fun r4 =>
  bif (r4.2 != (0 : Int)) then
   some (.inr (.inl b4))
  else
   (ecdsaSignWith key r4.1 digest).bind fun r5 =>
   bif (r5.2 == (0 : Int)) then
    some (.inr (.inr r5.1))
   else
    some (.inl ((IntKind.wrap .i64 (s15 + (1 : Int))), key, digest, b4))
 else
  some (.inr (.inl b4))
def ecdsaSignL0 (s15 : Int) (key : Nat) (digest : List Int) (b4 : Nat × Nat × Bool) : Option ((Nat × Nat × Bool) ⊕ (Nat × Nat × Bool)) := hide (iter (fun p : Int × Nat × List Int × (Nat × Nat × Bool) => ecdsaSignL0R p.1 p.2.1 p.2.2.1 p.2.2.2) (1000) (s15, key, digest, b4))
theorem ecdsaSignL0_eq (s15 : Int) (key : Nat) (digest : List Int) (b4 : Nat × Nat × Bool) : ecdsaSignL0 s15 key digest b4 = iter (fun p : Int × Nat × List Int × (Nat × Nat × Bool) => ecdsaSignL0R p.1 p.2.1 p.2.2.1 p.2.2.2) (1000) (s15, key, digest, b4) := hide_eq _
def ecdsaSignB (key : Nat) (digest : List Int) : Option ((Nat × Nat × Bool) × Int) :=
 (ecdsaIFit key).bind fun r1 =>
 bif (!r1) then
  some ((0, 0, false), (60 : Int))
 else
  (ecdsaSignL0 (0 : Int) key digest (0, 0, false)).bind fun q6 =>
  sumK q6 (fun q7 =>
   some ((0, 0, false), (65 : Int)))
   (fun q8 =>
   some (q8, (0 : Int)))
def ecdsaSign (key : Nat) (digest : List Int) : Option ((Nat × Nat × Bool) × Int) := hide (ecdsaSignB key digest)
theorem ecdsaSign_eq (key : Nat) (digest : List Int) : ecdsaSign key digest = ecdsaSignB key digest := hide_eq _
def ref06SignL0R (which : Int) (key : Nat) (digest : List Int) (b4 : Nat × Nat × Bool) : Option ((Int × Nat × List Int × (Nat × Nat × Bool)) ⊕ ((Nat × Nat × Bool) ⊕ (Nat × Nat × Bool))) :=
 bif (decide (which ≤ (63 : Int))) then
  (ref06Nonce key digest which).bind fun r4 =>
  bif (r4.2 == (0 : Int)) then
   (ref06SignWith key r4.1 digest).bind fun r5 =>
   bif (r5.2 == (0 : Int)) then
    some (.inr (.inl r5.1))
   else
    some (.inl ((IntKind.wrap .i64 (which + (1 : Int))), key, digest, b4))
  else
   some (.inl ((IntKind.wrap .i64 (which + (1 : Int))), key, digest, b4))
 else
  some (.inr (.inr b4))
def ref06SignL0 (which : Int) (key : Nat) (digest : List Int) (b4 : Nat × Nat × Bool) : Option ((Nat × Nat × Bool) ⊕ (Nat × Nat × Bool)) := hide (iter (fun p : Int × Nat × List Int × (Nat × Nat × Bool) => ref06SignL0R p.1 p.2.1 p.2.2.1 p.2.2.2) (1000) (which, key, digest, b4))
theorem ref06SignL0_eq (which : Int) (key : Nat) (digest : List Int) (b4 : Nat × Nat × Bool) : ref06SignL0 which key digest b4 = iter (fun p : Int × Nat × List Int × (Nat × Nat × Bool) => ref06SignL0R p.1 p.2.1 p.2.2.1 p.2.2.2) (1000) (which, key, digest, b4) := hide_eq _
def ref06SignB (key : Nat) (digest : List Int) : Option ((Nat × Nat × Bool) × Int) :=
 (ref06Fit key).bind fun r1 =>
 bif (!r1) then
  some ((0, 0, false), (60 : Int))
 else
  (ref06SignL0 (0 : Int) key digest (0, 0, false)).bind fun q6 =>
  sumK q6 (fun q7 =>
   some (q7, (0 : Int)))
   (fun q8 =>
   some ((0, 0, false), (65 : Int)))
def ref06Sign (key : Nat) (digest : List Int) : Option ((Nat × Nat × Bool) × Int) := hide (ref06SignB key digest)
theorem ref06Sign_eq (key : Nat) (digest : List Int) : ref06Sign key digest = ref06SignB key digest := hide_eq _
def law06EcdsaSignsB (key : Nat) (digest : List Int) : Option (Bool) :=
 (ecdsaSign key digest).bind fun r1 =>
 (ref06Sign key digest).bind fun r2 =>
 bif ((u256eq r1.1.1 r2.1.1) && ((u256eq r1.1.2.1 r2.1.2.1) && (r1.1.2.2 == r2.1.2.2))) then
  (law06INum r1.2).bind fun r3 =>
  some (r3 == r2.2)
 else
  some false
def law06EcdsaSigns (key : Nat) (digest : List Int) : Option (Bool) := hide (law06EcdsaSignsB key digest)
theorem law06EcdsaSigns_eq (key : Nat) (digest : List Int) : law06EcdsaSigns key digest = law06EcdsaSignsB key digest := hide_eq _
end Go.Sy
