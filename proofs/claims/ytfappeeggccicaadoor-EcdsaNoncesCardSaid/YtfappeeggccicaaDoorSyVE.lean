/- Typed functions, printed by a program out of the code: what each function of the code computes. -/

import Derived.Test.YtfappeeggccicaaDoorSyVC3

set_option linter.unusedVariables false

namespace Go.Sy

open Go

noncomputable def ecdsaINumberB (digest : List Int) : Option (Nat) :=
  (u256Get (List.take 32 (List.drop 0 digest))).bind fun r1 =>
  (fieldReduce (1 : Int) 0 r1.1).bind fun r2 =>
  some r2.1

noncomputable def ecdsaINumber (digest : List Int) : Option (Nat) := hide (ecdsaINumberB digest)

theorem ecdsaINumber_eq (digest : List Int) : ecdsaINumber digest = ecdsaINumberB digest := hide_eq _

noncomputable def ref06NumberB (digest : List Int) : Option (Nat) :=
  (ref01Get (List.take 32 (List.drop 0 digest))).bind fun r1 =>
  (ref04Reduce (1 : Int) 0 r1.1).bind fun r2 =>
  some r2.1

noncomputable def ref06Number (digest : List Int) : Option (Nat) := hide (ref06NumberB digest)

theorem ref06Number_eq (digest : List Int) : ref06Number digest = ref06NumberB digest := hide_eq _

end Go.Sy
