/-
  DERIVED. GIVEN WITH THE SEED: THE CARDS: each row of YtfappeeggccicaaDoorRows.lean that lists a variable, with what it lists TIED to the program's text (the seventh form; the later family's looks); each row that meets fmt, with fmt's text TOLD by the authors' own Lean function (tested against real Go, not proved from fmt's source: count such statements apart). THE CARD IS WHAT COUNTS. Prove the row's statement (the work); the ties are given (YtfappeeggccicaaDoorTie.lean); close each card by the builder's one call (the guide's Derived/Test/ToyasCard.lean, 'card_holds'). Laid BY PROGRAM, IN A SANDBOX (cutbox-door.mjs). By AI agents, Wed Nov 11 2026. No macro, syntax, notation, axiom, sorry.
-/
import Derived.Test.YtfappeeggccicaaDoorRows
import GoSem.ClaimSeven
namespace Go.Proofs.YtfappeeggccicaaDoor
namespace Rows

/-- THE TIED CARD OF 'waybilllaw06.EcdsaPacks'. -/
def ecdsaPacksCard : Claim7 := { stood := { row := ecdsaPacksRow, standIns := [], harness := (true, "1168674e6e92cb5a98f828ccd8141b63dc2ecac04259b0f22eac6ea9b5562e5e"), looks := false }, kinds := [], alts := [], laidByText := true, laidKinds := [.data], laidTests := true, laidLooks := .later }
def EcdsaPacksCardSaid : Prop := Claim7.holds Tryd.pinned (.plain (OpenSpec.ofChange ecdsaPacksSpec)) ecdsaPacksCard

/-- THE TIED CARD OF 'waybilllaw06.EcdsaBytes'. -/
def ecdsaBytesCard : Claim7 := { stood := { row := ecdsaBytesRow, standIns := [], harness := (true, "1168674e6e92cb5a98f828ccd8141b63dc2ecac04259b0f22eac6ea9b5562e5e"), looks := false }, kinds := [], alts := [], laidByText := true, laidKinds := [.data], laidTests := true, laidLooks := .later }
def EcdsaBytesCardSaid : Prop := Claim7.holds Tryd.pinned (.plain (OpenSpec.ofChange ecdsaBytesSpec)) ecdsaBytesCard

/-- THE TIED CARD OF 'waybilllaw05.CurveBytes'. -/
def curveBytesCard : Claim7 := { stood := { row := curveBytesRow, standIns := [], harness := (true, "1168674e6e92cb5a98f828ccd8141b63dc2ecac04259b0f22eac6ea9b5562e5e"), looks := false }, kinds := [], alts := [], laidByText := true, laidKinds := [.data], laidTests := true, laidLooks := .later }
def CurveBytesCardSaid : Prop := Claim7.holds Tryd.pinned (.plain (OpenSpec.ofChange curveBytesSpec)) curveBytesCard

/-- THE TIED CARD OF 'waybilllaw04.FieldInverses'. -/
def fieldInversesCard : Claim7 := { stood := { row := fieldInversesRow, standIns := [], harness := (true, "1168674e6e92cb5a98f828ccd8141b63dc2ecac04259b0f22eac6ea9b5562e5e"), looks := false }, kinds := [], alts := [], laidByText := true, laidKinds := [.data], laidTests := true, laidLooks := .later }
def FieldInversesCardSaid : Prop := Claim7.holds Tryd.pinned (.plain (OpenSpec.ofChange fieldInversesSpec)) fieldInversesCard

/-- THE TIED CARD OF 'waybilllaw06.EcdsaNonces'. -/
def ecdsaNoncesCard : Claim7 := { stood := { row := ecdsaNoncesRow, standIns := [], harness := (true, "1168674e6e92cb5a98f828ccd8141b63dc2ecac04259b0f22eac6ea9b5562e5e"), looks := false }, kinds := [], alts := [], laidByText := true, laidKinds := [.data, .data, .data], laidTests := true, laidLooks := .later }
def EcdsaNoncesCardSaid : Prop := Claim7.holds Tryd.pinned (.plain (OpenSpec.ofChange ecdsaNoncesSpec)) ecdsaNoncesCard

/-- THE TIED CARD OF 'waybilllaw06.EcdsaGenuine'. -/
def ecdsaGenuineCard : Claim7 := { stood := { row := ecdsaGenuineRow, standIns := [], harness := (true, "1168674e6e92cb5a98f828ccd8141b63dc2ecac04259b0f22eac6ea9b5562e5e"), looks := false }, kinds := [], alts := [], laidByText := true, laidKinds := [.data, .data, .data, .data], laidTests := true, laidLooks := .later }
def EcdsaGenuineCardSaid : Prop := Claim7.holds Tryd.pinned (.plain (OpenSpec.ofChange ecdsaGenuineSpec)) ecdsaGenuineCard

/-- THE SECOND FORM's CARD OF 'waybilllaw06.EcdsaPacks'. -/
def ecdsaPacksUptoCard : Claim7 := { stood := { row := ecdsaPacksUptoRow, standIns := [], harness := (true, "1168674e6e92cb5a98f828ccd8141b63dc2ecac04259b0f22eac6ea9b5562e5e"), looks := false }, kinds := [], alts := [], laidByText := true, laidKinds := [.data], laidTests := true, laidLooks := .later }
def EcdsaPacksUptoCardSaid : Prop := Claim7.holds Tryd.pinned (.plain (OpenSpec.upto ecdsaPacksSpec)) ecdsaPacksUptoCard

/-- THE SECOND FORM's CARD OF 'waybilllaw06.EcdsaBytes'. -/
def ecdsaBytesUptoCard : Claim7 := { stood := { row := ecdsaBytesUptoRow, standIns := [], harness := (true, "1168674e6e92cb5a98f828ccd8141b63dc2ecac04259b0f22eac6ea9b5562e5e"), looks := false }, kinds := [], alts := [], laidByText := true, laidKinds := [.data], laidTests := true, laidLooks := .later }
def EcdsaBytesUptoCardSaid : Prop := Claim7.holds Tryd.pinned (.plain (OpenSpec.upto ecdsaBytesSpec)) ecdsaBytesUptoCard

/-- THE SECOND FORM's CARD OF 'waybilllaw05.CurveBytes'. -/
def curveBytesUptoCard : Claim7 := { stood := { row := curveBytesUptoRow, standIns := [], harness := (true, "1168674e6e92cb5a98f828ccd8141b63dc2ecac04259b0f22eac6ea9b5562e5e"), looks := false }, kinds := [], alts := [], laidByText := true, laidKinds := [.data], laidTests := true, laidLooks := .later }
def CurveBytesUptoCardSaid : Prop := Claim7.holds Tryd.pinned (.plain (OpenSpec.upto curveBytesSpec)) curveBytesUptoCard

/-- THE SECOND FORM's CARD OF 'waybilllaw04.FieldInverses'. -/
def fieldInversesUptoCard : Claim7 := { stood := { row := fieldInversesUptoRow, standIns := [], harness := (true, "1168674e6e92cb5a98f828ccd8141b63dc2ecac04259b0f22eac6ea9b5562e5e"), looks := false }, kinds := [], alts := [], laidByText := true, laidKinds := [.data], laidTests := true, laidLooks := .later }
def FieldInversesUptoCardSaid : Prop := Claim7.holds Tryd.pinned (.plain (OpenSpec.upto fieldInversesSpec)) fieldInversesUptoCard

/-- THE SECOND FORM's CARD OF 'waybilllaw06.EcdsaNonces'. -/
def ecdsaNoncesUptoCard : Claim7 := { stood := { row := ecdsaNoncesUptoRow, standIns := [], harness := (true, "1168674e6e92cb5a98f828ccd8141b63dc2ecac04259b0f22eac6ea9b5562e5e"), looks := false }, kinds := [], alts := [], laidByText := true, laidKinds := [.data, .data, .data], laidTests := true, laidLooks := .later }
def EcdsaNoncesUptoCardSaid : Prop := Claim7.holds Tryd.pinned (.plain (OpenSpec.upto ecdsaNoncesSpec)) ecdsaNoncesUptoCard

/-- THE SECOND FORM's CARD OF 'waybilllaw06.EcdsaGenuine'. -/
def ecdsaGenuineUptoCard : Claim7 := { stood := { row := ecdsaGenuineUptoRow, standIns := [], harness := (true, "1168674e6e92cb5a98f828ccd8141b63dc2ecac04259b0f22eac6ea9b5562e5e"), looks := false }, kinds := [], alts := [], laidByText := true, laidKinds := [.data, .data, .data, .data], laidTests := true, laidLooks := .later }
def EcdsaGenuineUptoCardSaid : Prop := Claim7.holds Tryd.pinned (.plain (OpenSpec.upto ecdsaGenuineSpec)) ecdsaGenuineUptoCard
end Rows
end Go.Proofs.YtfappeeggccicaaDoor
