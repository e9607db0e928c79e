/- What Go's library computes where the program calls it; the given variables' values. -/
import Derived.Test.YtapnedegcnmhgaaDoorSyD
import Derived.Lib.Join
import Derived.Lib.ItoaNum
namespace Go.Sy
open Go

/-- strings.Join, within Go's memory. -/
noncomputable def goJoin (l : List (List UInt8)) (sep : List UInt8) : Option (List UInt8) := hide (bif Nat.ble l.length 140737488355328 && Nat.ble (Lib.join l sep).length 140737488355328 then some (Lib.join l sep) else none)
theorem goJoin_eq (l : List (List UInt8)) (sep : List UInt8) : goJoin l sep = bif Nat.ble l.length 140737488355328 && Nat.ble (Lib.join l sep).length 140737488355328 then some (Lib.join l sep) else none := hide_eq _
/-- strconv.Itoa. -/
noncomputable def goItoa (n : Int) : Option (List UInt8) := hide (bif decide (-9223372036854775808 ≤ n) && decide (n ≤ 9223372036854775807) then some (Lib.itoa n) else none)
theorem goItoa_eq (n : Int) : goItoa n = bif decide (-9223372036854775808 ≤ n) && decide (n ≤ 9223372036854775807) then some (Lib.itoa n) else none := hide_eq _

def abiBases : List (List UInt8 × Int × Int × Int × Int × Int) := [([117, 105, 110, 116], 0, 8, 256, 8, 256), ([105, 110, 116], 1, 8, 256, 8, 256), ([97, 100, 100, 114, 101, 115, 115], 2, 0, 0, 0, 0), ([98, 111, 111, 108], 3, 0, 0, 0, 0), ([115, 116, 114, 105, 110, 103], 6, 0, 0, 0, 0), ([98, 121, 116, 101, 115], 4, 1, 32, 1, 0)]
def pow10T : List Int := [1, 10, 100, 1000, 10000, 100000, 1000000, 10000000, 100000000, 1000000000, 10000000000, 100000000000, 1000000000000, 10000000000000, 100000000000000, 1000000000000000, 10000000000000000, 100000000000000000, 1000000000000000000, 10000000000000000000]
end Go.Sy
