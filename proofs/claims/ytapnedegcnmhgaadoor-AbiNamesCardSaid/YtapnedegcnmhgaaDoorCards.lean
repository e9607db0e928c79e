/-
  DERIVED. GIVEN WITH THE SEED: THE CARDS: each row of YtapnedegcnmhgaaDoorRows.lean that lists a variable, with what it lists TIED to the program's text (the seventh form; the later family's looks); each row that meets fmt, with fmt's text TOLD by the authors' own Lean function (tested against real Go, not proved from fmt's source: count such statements apart). THE CARD IS WHAT COUNTS. Prove the row's statement (the work); the ties are given (YtapnedegcnmhgaaDoorTie.lean); close each card by the builder's one call (the guide's Derived/Test/ToyasCard.lean, 'card_holds'). Laid BY PROGRAM, IN A SANDBOX (cutbox-door.mjs). By AI agents, Wed Nov 11 2026. No macro, syntax, notation, axiom, sorry.
-/
import Derived.Test.YtapnedegcnmhgaaDoorRows
import GoSem.ClaimSeven
namespace Go.Proofs.YtapnedegcnmhgaaDoor
namespace Rows

/-- THE TIED CARD OF 'waybilllaw22.AbiTypes'. -/
def abiTypesCard : Claim7 := { stood := { row := abiTypesRow, standIns := [], harness := (true, "72c3fdeb7f210dce7f6bf0ddf481c52ed390d6ce3c6102e4bd8e7500832c4780"), looks := true }, kinds := [], alts := [], laidByText := true, laidKinds := [.data, .data, .data, .data], laidTests := true, laidLooks := .later }
def AbiTypesCardSaid : Prop := Claim7.holds Tryd.pinned (.plain (OpenSpec.ofChange abiTypesSpec)) abiTypesCard

/-- THE TIED CARD OF 'waybilllaw22.AbiChecks'. -/
def abiChecksCard : Claim7 := { stood := { row := abiChecksRow, standIns := [], harness := (true, "72c3fdeb7f210dce7f6bf0ddf481c52ed390d6ce3c6102e4bd8e7500832c4780"), looks := true }, kinds := [], alts := [], laidByText := true, laidKinds := [.data, .data, .data, .data], laidTests := true, laidLooks := .later }
def AbiChecksCardSaid : Prop := Claim7.holds Tryd.pinned (.plain (OpenSpec.ofChange abiChecksSpec)) abiChecksCard

/-- THE TIED CARD OF 'waybilllaw22.AbiNames'. -/
def abiNamesCard : Claim7 := { stood := { row := abiNamesRow, standIns := [], harness := (true, "72c3fdeb7f210dce7f6bf0ddf481c52ed390d6ce3c6102e4bd8e7500832c4780"), looks := true }, kinds := [], alts := [], laidByText := true, laidKinds := [.data, .data, .data, .data, .data, .data, .data], laidTests := true, laidLooks := .later }
def AbiNamesCardSaid : Prop := Claim7.holds Tryd.pinned (.plain (OpenSpec.ofChange abiNamesSpec)) abiNamesCard

/-- THE TIED CARD OF 'waybilllaw22.AbiHeads'. -/
def abiHeadsCard : Claim7 := { stood := { row := abiHeadsRow, standIns := [], harness := (true, "72c3fdeb7f210dce7f6bf0ddf481c52ed390d6ce3c6102e4bd8e7500832c4780"), looks := true }, kinds := [], alts := [], laidByText := true, laidKinds := [.data, .data, .data, .data], laidTests := true, laidLooks := .later }
def AbiHeadsCardSaid : Prop := Claim7.holds Tryd.pinned (.plain (OpenSpec.ofChange abiHeadsSpec)) abiHeadsCard

/-- THE TIED CARD OF 'waybilllaw22.AbiEncodes'. -/
def abiEncodesCard : Claim7 := { stood := { row := abiEncodesRow, standIns := [], harness := (true, "72c3fdeb7f210dce7f6bf0ddf481c52ed390d6ce3c6102e4bd8e7500832c4780"), looks := true }, kinds := [], alts := [], laidByText := true, laidKinds := [.data, .data, .data, .data], laidTests := true, laidLooks := .later }
def AbiEncodesCardSaid : Prop := Claim7.holds Tryd.pinned (.plain (OpenSpec.ofChange abiEncodesSpec)) abiEncodesCard

/-- THE TIED CARD OF 'waybilllaw22.AbiBack'. -/
def abiBackCard : Claim7 := { stood := { row := abiBackRow, standIns := [], harness := (true, "72c3fdeb7f210dce7f6bf0ddf481c52ed390d6ce3c6102e4bd8e7500832c4780"), looks := true }, kinds := [], alts := [], laidByText := true, laidKinds := [.data, .data, .data, .data], laidTests := true, laidLooks := .later }
def AbiBackCardSaid : Prop := Claim7.holds Tryd.pinned (.plain (OpenSpec.ofChange abiBackSpec)) abiBackCard

/-- THE TIED CARD OF 'waybilllaw22.AbiStrict'. -/
def abiStrictCard : Claim7 := { stood := { row := abiStrictRow, standIns := [], harness := (true, "72c3fdeb7f210dce7f6bf0ddf481c52ed390d6ce3c6102e4bd8e7500832c4780"), looks := true }, kinds := [], alts := [], laidByText := true, laidKinds := [.data, .data, .data, .data], laidTests := true, laidLooks := .later }
def AbiStrictCardSaid : Prop := Claim7.holds Tryd.pinned (.plain (OpenSpec.ofChange abiStrictSpec)) abiStrictCard

/-- THE TIED CARD OF 'waybilllaw22.AbiInvokes'. -/
def abiInvokesCard : Claim7 := { stood := { row := abiInvokesRow, standIns := [], harness := (true, "72c3fdeb7f210dce7f6bf0ddf481c52ed390d6ce3c6102e4bd8e7500832c4780"), looks := true }, kinds := [], alts := [], laidByText := true, laidKinds := [.data, .data, .data, .data, .data], laidTests := true, laidLooks := .later }
def AbiInvokesCardSaid : Prop := Claim7.holds Tryd.pinned (.plain (OpenSpec.ofChange abiInvokesSpec)) abiInvokesCard

/-- THE TIED CARD OF 'waybilllaw22.AbiApart'. -/
def abiApartCard : Claim7 := { stood := { row := abiApartRow, standIns := [], harness := (true, "72c3fdeb7f210dce7f6bf0ddf481c52ed390d6ce3c6102e4bd8e7500832c4780"), looks := true }, kinds := [], alts := [], laidByText := true, laidKinds := [.data, .data, .data, .data, .data], laidTests := true, laidLooks := .later }
def AbiApartCardSaid : Prop := Claim7.holds Tryd.pinned (.plain (OpenSpec.ofChange abiApartSpec)) abiApartCard

/-- THE SECOND FORM's CARD OF 'waybilllaw22.AbiTypes'. -/
def abiTypesUptoCard : Claim7 := { stood := { row := abiTypesUptoRow, standIns := [], harness := (true, "72c3fdeb7f210dce7f6bf0ddf481c52ed390d6ce3c6102e4bd8e7500832c4780"), looks := true }, kinds := [], alts := [], laidByText := true, laidKinds := [.data, .data, .data, .data], laidTests := true, laidLooks := .later }
def AbiTypesUptoCardSaid : Prop := Claim7.holds Tryd.pinned (.plain (OpenSpec.upto abiTypesSpec)) abiTypesUptoCard

/-- THE SECOND FORM's CARD OF 'waybilllaw22.AbiChecks'. -/
def abiChecksUptoCard : Claim7 := { stood := { row := abiChecksUptoRow, standIns := [], harness := (true, "72c3fdeb7f210dce7f6bf0ddf481c52ed390d6ce3c6102e4bd8e7500832c4780"), looks := true }, kinds := [], alts := [], laidByText := true, laidKinds := [.data, .data, .data, .data], laidTests := true, laidLooks := .later }
def AbiChecksUptoCardSaid : Prop := Claim7.holds Tryd.pinned (.plain (OpenSpec.upto abiChecksSpec)) abiChecksUptoCard

/-- THE SECOND FORM's CARD OF 'waybilllaw22.AbiNames'. -/
def abiNamesUptoCard : Claim7 := { stood := { row := abiNamesUptoRow, standIns := [], harness := (true, "72c3fdeb7f210dce7f6bf0ddf481c52ed390d6ce3c6102e4bd8e7500832c4780"), looks := true }, kinds := [], alts := [], laidByText := true, laidKinds := [.data, .data, .data, .data, .data, .data, .data], laidTests := true, laidLooks := .later }
def AbiNamesUptoCardSaid : Prop := Claim7.holds Tryd.pinned (.plain (OpenSpec.upto abiNamesSpec)) abiNamesUptoCard

/-- THE SECOND FORM's CARD OF 'waybilllaw22.AbiHeads'. -/
def abiHeadsUptoCard : Claim7 := { stood := { row := abiHeadsUptoRow, standIns := [], harness := (true, "72c3fdeb7f210dce7f6bf0ddf481c52ed390d6ce3c6102e4bd8e7500832c4780"), looks := true }, kinds := [], alts := [], laidByText := true, laidKinds := [.data, .data, .data, .data], laidTests := true, laidLooks := .later }
def AbiHeadsUptoCardSaid : Prop := Claim7.holds Tryd.pinned (.plain (OpenSpec.upto abiHeadsSpec)) abiHeadsUptoCard

/-- THE SECOND FORM's CARD OF 'waybilllaw22.AbiEncodes'. -/
def abiEncodesUptoCard : Claim7 := { stood := { row := abiEncodesUptoRow, standIns := [], harness := (true, "72c3fdeb7f210dce7f6bf0ddf481c52ed390d6ce3c6102e4bd8e7500832c4780"), looks := true }, kinds := [], alts := [], laidByText := true, laidKinds := [.data, .data, .data, .data], laidTests := true, laidLooks := .later }
def AbiEncodesUptoCardSaid : Prop := Claim7.holds Tryd.pinned (.plain (OpenSpec.upto abiEncodesSpec)) abiEncodesUptoCard

/-- THE SECOND FORM's CARD OF 'waybilllaw22.AbiBack'. -/
def abiBackUptoCard : Claim7 := { stood := { row := abiBackUptoRow, standIns := [], harness := (true, "72c3fdeb7f210dce7f6bf0ddf481c52ed390d6ce3c6102e4bd8e7500832c4780"), looks := true }, kinds := [], alts := [], laidByText := true, laidKinds := [.data, .data, .data, .data], laidTests := true, laidLooks := .later }
def AbiBackUptoCardSaid : Prop := Claim7.holds Tryd.pinned (.plain (OpenSpec.upto abiBackSpec)) abiBackUptoCard

/-- THE SECOND FORM's CARD OF 'waybilllaw22.AbiStrict'. -/
def abiStrictUptoCard : Claim7 := { stood := { row := abiStrictUptoRow, standIns := [], harness := (true, "72c3fdeb7f210dce7f6bf0ddf481c52ed390d6ce3c6102e4bd8e7500832c4780"), looks := true }, kinds := [], alts := [], laidByText := true, laidKinds := [.data, .data, .data, .data], laidTests := true, laidLooks := .later }
def AbiStrictUptoCardSaid : Prop := Claim7.holds Tryd.pinned (.plain (OpenSpec.upto abiStrictSpec)) abiStrictUptoCard

/-- THE SECOND FORM's CARD OF 'waybilllaw22.AbiInvokes'. -/
def abiInvokesUptoCard : Claim7 := { stood := { row := abiInvokesUptoRow, standIns := [], harness := (true, "72c3fdeb7f210dce7f6bf0ddf481c52ed390d6ce3c6102e4bd8e7500832c4780"), looks := true }, kinds := [], alts := [], laidByText := true, laidKinds := [.data, .data, .data, .data, .data], laidTests := true, laidLooks := .later }
def AbiInvokesUptoCardSaid : Prop := Claim7.holds Tryd.pinned (.plain (OpenSpec.upto abiInvokesSpec)) abiInvokesUptoCard

/-- THE SECOND FORM's CARD OF 'waybilllaw22.AbiApart'. -/
def abiApartUptoCard : Claim7 := { stood := { row := abiApartUptoRow, standIns := [], harness := (true, "72c3fdeb7f210dce7f6bf0ddf481c52ed390d6ce3c6102e4bd8e7500832c4780"), looks := true }, kinds := [], alts := [], laidByText := true, laidKinds := [.data, .data, .data, .data, .data], laidTests := true, laidLooks := .later }
def AbiApartUptoCardSaid : Prop := Claim7.holds Tryd.pinned (.plain (OpenSpec.upto abiApartSpec)) abiApartUptoCard
end Rows
end Go.Proofs.YtapnedegcnmhgaaDoor
