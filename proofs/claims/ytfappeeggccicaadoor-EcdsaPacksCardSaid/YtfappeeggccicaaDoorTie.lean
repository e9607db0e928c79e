/-
  DERIVED. GIVEN WITH THE SEED: THE PROGRAM's TIES (one call each: nine closed facts by the kernel) AND EACH ROW's TIE, after the 31st guide's Derived/Test/Toyas{Tie, Card}.lean. No idea stands in it: it is a product of the set-up. Laid BY PROGRAM, IN A SANDBOX (cutbox-door.mjs). By AI agents, Wed Nov 11 2026. No macro, syntax, notation, axiom, sorry.
-/
import Derived.Test.YtfappeeggccicaaDoorRows
import Derived.LaidByTextLater
import Derived.SevenTiedAt
import Derived.LaidSub
import Derived.LaidOnce
namespace Go.Proofs.YtfappeeggccicaaDoor
open Go
set_option maxRecDepth 100000
theorem seatTie1 : Tryd.prog.laidByTextLater [("waybill/sha.constants", Rows.laid_waybill_sha_constants), ("waybill/sha.start", Rows.laid_waybill_sha_start), ("waybill/field.moduli", Rows.laid_waybill_field_moduli), ("waybill/curve.base", Rows.laid_waybill_curve_base)] [.data, .data, .data, .data] true :=
  Program.laidByTextLater_by_one 35 8 65 (by kernel_rfl) (by kernel_rfl) (by kernel_rfl) (by kernel_rfl) (by kernel_rfl) (by kernel_rfl) (fun _ _ => by kernel_rfl)
theorem noOwnUnsafe : Tryd.pinned.checked.prog.headLifts.contains "ownunsafe" = false := by kernel_rfl
theorem tie : Tryd.prog.laidByTextLater [("waybill/field.moduli", Rows.laid_waybill_field_moduli)] [.data] true :=
  Program.laidByTextLater.sub seatTie1 ["waybill/field.moduli"] (by kernel_rfl) (by kernel_rfl)
theorem ecdsaPacks_row_tie : Rows.ecdsaPacksRow.laidByTextAt .later Tryd.pinned [.data] true :=
  OpenClaim.laidByTextAt_later rfl rfl tie noOwnUnsafe
theorem ecdsaBytes_row_tie : Rows.ecdsaBytesRow.laidByTextAt .later Tryd.pinned [.data] true :=
  OpenClaim.laidByTextAt_later rfl rfl tie noOwnUnsafe
theorem curveBytes_row_tie : Rows.curveBytesRow.laidByTextAt .later Tryd.pinned [.data] true :=
  OpenClaim.laidByTextAt_later rfl rfl tie noOwnUnsafe
theorem fieldInverses_row_tie : Rows.fieldInversesRow.laidByTextAt .later Tryd.pinned [.data] true :=
  OpenClaim.laidByTextAt_later rfl rfl tie noOwnUnsafe
theorem tie2 : Tryd.prog.laidByTextLater [("waybill/sha.constants", Rows.laid_waybill_sha_constants), ("waybill/sha.start", Rows.laid_waybill_sha_start), ("waybill/field.moduli", Rows.laid_waybill_field_moduli)] [.data, .data, .data] true :=
  Program.laidByTextLater.sub seatTie1 ["waybill/sha.constants", "waybill/sha.start", "waybill/field.moduli"] (by kernel_rfl) (by kernel_rfl)
theorem ecdsaNonces_row_tie : Rows.ecdsaNoncesRow.laidByTextAt .later Tryd.pinned [.data, .data, .data] true :=
  OpenClaim.laidByTextAt_later rfl rfl tie2 noOwnUnsafe
theorem tie3 : Tryd.prog.laidByTextLater [("waybill/sha.constants", Rows.laid_waybill_sha_constants), ("waybill/sha.start", Rows.laid_waybill_sha_start), ("waybill/field.moduli", Rows.laid_waybill_field_moduli), ("waybill/curve.base", Rows.laid_waybill_curve_base)] [.data, .data, .data, .data] true :=
  Program.laidByTextLater.sub seatTie1 ["waybill/sha.constants", "waybill/sha.start", "waybill/field.moduli", "waybill/curve.base"] (by kernel_rfl) (by kernel_rfl)
theorem ecdsaGenuine_row_tie : Rows.ecdsaGenuineRow.laidByTextAt .later Tryd.pinned [.data, .data, .data, .data] true :=
  OpenClaim.laidByTextAt_later rfl rfl tie3 noOwnUnsafe
theorem ecdsaPacksUpto_row_tie : Rows.ecdsaPacksUptoRow.laidByTextAt .later Tryd.pinned [.data] true :=
  OpenClaim.laidByTextAt_later rfl rfl tie noOwnUnsafe
theorem ecdsaBytesUpto_row_tie : Rows.ecdsaBytesUptoRow.laidByTextAt .later Tryd.pinned [.data] true :=
  OpenClaim.laidByTextAt_later rfl rfl tie noOwnUnsafe
theorem curveBytesUpto_row_tie : Rows.curveBytesUptoRow.laidByTextAt .later Tryd.pinned [.data] true :=
  OpenClaim.laidByTextAt_later rfl rfl tie noOwnUnsafe
theorem fieldInversesUpto_row_tie : Rows.fieldInversesUptoRow.laidByTextAt .later Tryd.pinned [.data] true :=
  OpenClaim.laidByTextAt_later rfl rfl tie noOwnUnsafe
theorem ecdsaNoncesUpto_row_tie : Rows.ecdsaNoncesUptoRow.laidByTextAt .later Tryd.pinned [.data, .data, .data] true :=
  OpenClaim.laidByTextAt_later rfl rfl tie2 noOwnUnsafe
theorem ecdsaGenuineUpto_row_tie : Rows.ecdsaGenuineUptoRow.laidByTextAt .later Tryd.pinned [.data, .data, .data, .data] true :=
  OpenClaim.laidByTextAt_later rfl rfl tie3 noOwnUnsafe
end Go.Proofs.YtfappeeggccicaaDoor
