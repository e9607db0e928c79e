/-
  DERIVED. GIVEN WITH THE SEED: THE PROGRAM's TIES (one call each: nine closed facts by the kernel) AND EACH ROW's TIE, after the 31st guide's Derived/Test/Toyas{Tie, Card}.lean. No idea stands in it: it is a product of the set-up. Laid BY PROGRAM, IN A SANDBOX (cutbox-door.mjs). By AI agents, Wed Nov 11 2026. No macro, syntax, notation, axiom, sorry.
-/
import Derived.Test.YtfappeeggccicaaGreatDoorRows
import Derived.LaidByTextLater
import Derived.SevenTiedAt
import Derived.LaidSub
import Derived.LaidOnce
namespace Go.Proofs.YtfappeeggccicaaGreatDoor
open Go
set_option maxRecDepth 100000
theorem seatTie1 : Tryz.prog.laidByTextLater [("waybill/sha.constants", Rows.laid_waybill_sha_constants), ("waybill/sha.start", Rows.laid_waybill_sha_start), ("waybill/field.moduli", Rows.laid_waybill_field_moduli), ("waybill/curve.base", Rows.laid_waybill_curve_base)] [.data, .data, .data, .data] true :=
  Program.laidByTextLater_by_one 35 8 65 (by kernel_rfl) (by kernel_rfl) (by kernel_rfl) (by kernel_rfl) (by kernel_rfl) (by kernel_rfl) (fun _ _ => by kernel_rfl)
theorem noOwnUnsafe : Tryz.pinned.checked.prog.headLifts.contains "ownunsafe" = false := by kernel_rfl
theorem tie : Tryz.prog.laidByTextLater [("waybill/sha.constants", Rows.laid_waybill_sha_constants), ("waybill/sha.start", Rows.laid_waybill_sha_start), ("waybill/field.moduli", Rows.laid_waybill_field_moduli), ("waybill/curve.base", Rows.laid_waybill_curve_base)] [.data, .data, .data, .data] true :=
  Program.laidByTextLater.sub seatTie1 ["waybill/sha.constants", "waybill/sha.start", "waybill/field.moduli", "waybill/curve.base"] (by kernel_rfl) (by kernel_rfl)
theorem ecdsaSigns_row_tie : Rows.ecdsaSignsRow.laidByTextAt .later Tryz.pinned [.data, .data, .data, .data] true :=
  OpenClaim.laidByTextAt_later rfl rfl tie noOwnUnsafe
theorem ecdsaSignsUpto_row_tie : Rows.ecdsaSignsUptoRow.laidByTextAt .later Tryz.pinned [.data, .data, .data, .data] true :=
  OpenClaim.laidByTextAt_later rfl rfl tie noOwnUnsafe
end Go.Proofs.YtfappeeggccicaaGreatDoor
