/- What Go's library computes where the program calls it; the given variables' values. -/
import Derived.Test.YtapnedegcnmhgaaDoorSyKa
import Derived.Lib.Join
import Derived.Lib.ItoaNum
namespace Go.Sy
open Go
noncomputable def goJoin (l : List (List UInt8)) (sep : List UInt8) : Option (List UInt8) := hide (bif Nat.ble l.length 140737488355328 && Nat.ble (Lib.join l sep).length 140737488355328 then some (Lib.join l sep) else none)
theorem goJoin_eq (l : List (List UInt8)) (sep : List UInt8) : goJoin l sep = bif Nat.ble l.length 140737488355328 && Nat.ble (Lib.join l sep).length 140737488355328 then some (Lib.join l sep) else none := hide_eq _
noncomputable def goItoa (n : Int) : Option (List UInt8) := hide (bif decide (-9223372036854775808 ≤ n) && decide (n ≤ 9223372036854775807) then some (Lib.itoa n) else none)
theorem goItoa_eq (n : Int) : goItoa n = bif decide (-9223372036854775808 ≤ n) && decide (n ≤ 9223372036854775807) then some (Lib.itoa n) else none := hide_eq _
def abiBases : List (List UInt8 × Int × Int × Int × Int × Int) := [([117, 105, 110, 116], 0, 8, 256, 8, 256), ([105, 110, 116], 1, 8, 256, 8, 256), ([97, 100, 100, 114, 101, 115, 115], 2, 0, 0, 0, 0), ([98, 111, 111, 108], 3, 0, 0, 0, 0), ([115, 116, 114, 105, 110, 103], 6, 0, 0, 0, 0), ([98, 121, 116, 101, 115], 4, 1, 32, 1, 0)]
def pow10T : List Int := [1, 10, 100, 1000, 10000, 100000, 1000000, 10000000, 100000000, 1000000000, 10000000000, 100000000000, 1000000000000, 10000000000000, 100000000000000, 1000000000000000, 10000000000000000, 100000000000000000, 1000000000000000000, 10000000000000000000]
def kecFirstT : List Int := [1, 6]
def kecRoundsT : List Int := [1, 32898, 9223372036854808714, 9223372039002292224, 32907, 2147483649, 9223372039002292353, 9223372036854808585, 138, 136, 2147516425, 2147483658, 2147516555, 9223372036854775947, 9223372036854808713, 9223372036854808579, 9223372036854808578, 9223372036854775936, 32778, 9223372039002259466, 9223372039002292353, 9223372036854808704, 2147483649, 9223372039002292232]
def kecTurnsT : List Int := [0, 1, 62, 28, 27, 36, 44, 6, 55, 20, 3, 10, 43, 25, 39, 41, 45, 15, 21, 8, 18, 2, 61, 56, 14]
end Go.Sy
