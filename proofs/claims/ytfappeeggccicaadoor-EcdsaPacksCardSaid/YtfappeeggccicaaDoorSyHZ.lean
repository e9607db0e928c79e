/- Bytes as arguments of laws. -/
import Derived.Test.YtfappeeggccicaaDoorSyHE
import Derived.Test.YtfappeeggccicaaDoorSyKg
set_option linter.unusedVariables false
set_option linter.unusedSimpArgs false
namespace Go.Sy
open Go
theorem bytes_of {l : List Int} (h : (l.all (okInt .u8)) = true) : Bytes l := by
 intro j
 by_cases hj : j < l.length
 ·have hm : l.getD j (0 : Int) ∈ l := by
   simp only [List.getD_eq_getElem?_getD, List.getElem?_eq_getElem hj]
   exact List.getElem_mem hj
  have := List.all_eq_true.1 h _ hm
  have h1 : IntKind.min .u8 = 0 := rfl
  have h2 : IntKind.max .u8 = 255 := rfl
  simp only [okInt, Lit.wf, h1, h2, Bool.and_eq_true, decide_eq_true_eq] at this
  omega
 ·rw [List.getD_eq_getElem?_getD, List.getElem?_eq_none (by omega)]; decide
end Go.Sy
