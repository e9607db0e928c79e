/-
  DERIVED. GIVEN WITH THE SEED: THE CARDS: each row of YthhijclndgipaaaDoorRows.lean that lists a variable, with what it lists TIED to the program's text (the seventh form; the later family's looks); each row that meets fmt, with fmt's text TOLD by the authors' own Lean function (tested against real Go, not proved from fmt's source: count such statements apart). THE CARD IS WHAT COUNTS. Prove the row's statement (the work); the ties are given (YthhijclndgipaaaDoorTie.lean); close each card by the builder's one call (the guide's Derived/Test/ToyasCard.lean, 'card_holds'). Laid BY PROGRAM, IN A SANDBOX (cutbox-door.mjs). By AI agents, Wed Nov 11 2026. No macro, syntax, notation, axiom, sorry.
-/
import Derived.Test.YthhijclndgipaaaDoorRows
import GoSem.ClaimSeven
namespace Go.Proofs.YthhijclndgipaaaDoor
namespace Rows

/-- THE TIED CARD OF 'waybilllaw06.EcdsaBytes'. -/
def ecdsaBytesCard : Claim7 := { stood := { row := ecdsaBytesRow, standIns := [], harness := (true, "a050a9e1996899d215249a501f8ffef326f429b61e9a00f51ffc477e89db1137"), looks := false }, kinds := [], alts := [], laidByText := true, laidKinds := [.data], laidTests := true, laidLooks := .later }
def EcdsaBytesCardSaid : Prop := Claim7.holds Tryd.pinned (.plain (OpenSpec.ofChange ecdsaBytesSpec)) ecdsaBytesCard

/-- THE TIED CARD OF 'waybilllaw06.EcdsaNonces'. -/
def ecdsaNoncesCard : Claim7 := { stood := { row := ecdsaNoncesRow, standIns := [], harness := (true, "a050a9e1996899d215249a501f8ffef326f429b61e9a00f51ffc477e89db1137"), looks := false }, kinds := [], alts := [], laidByText := true, laidKinds := [.data, .data, .data], laidTests := true, laidLooks := .later }
def EcdsaNoncesCardSaid : Prop := Claim7.holds Tryd.pinned (.plain (OpenSpec.ofChange ecdsaNoncesSpec)) ecdsaNoncesCard

/-- THE TIED CARD OF 'waybilllaw06.EcdsaTextbook'. -/
def ecdsaTextbookCard : Claim7 := { stood := { row := ecdsaTextbookRow, standIns := [], harness := (true, "a050a9e1996899d215249a501f8ffef326f429b61e9a00f51ffc477e89db1137"), looks := false }, kinds := [], alts := [], laidByText := true, laidKinds := [.data, .data], laidTests := true, laidLooks := .later }
def EcdsaTextbookCardSaid : Prop := Claim7.holds Tryd.pinned (.plain (OpenSpec.ofChange ecdsaTextbookSpec)) ecdsaTextbookCard

/-- THE TIED CARD OF 'waybilllaw06.EcdsaTurned'. -/
def ecdsaTurnedCard : Claim7 := { stood := { row := ecdsaTurnedRow, standIns := [], harness := (true, "a050a9e1996899d215249a501f8ffef326f429b61e9a00f51ffc477e89db1137"), looks := false }, kinds := [], alts := [], laidByText := true, laidKinds := [.data, .data], laidTests := true, laidLooks := .later }
def EcdsaTurnedCardSaid : Prop := Claim7.holds Tryd.pinned (.plain (OpenSpec.ofChange ecdsaTurnedSpec)) ecdsaTurnedCard

/-- THE TIED CARD OF 'waybilllaw06.EcdsaRecovered'. -/
def ecdsaRecoveredCard : Claim7 := { stood := { row := ecdsaRecoveredRow, standIns := [], harness := (true, "a050a9e1996899d215249a501f8ffef326f429b61e9a00f51ffc477e89db1137"), looks := false }, kinds := [], alts := [], laidByText := true, laidKinds := [.data, .data], laidTests := true, laidLooks := .later }
def EcdsaRecoveredCardSaid : Prop := Claim7.holds Tryd.pinned (.plain (OpenSpec.ofChange ecdsaRecoveredSpec)) ecdsaRecoveredCard

/-- THE TIED CARD OF 'waybilllaw06.EcdsaWhose'. -/
def ecdsaWhoseCard : Claim7 := { stood := { row := ecdsaWhoseRow, standIns := [], harness := (true, "a050a9e1996899d215249a501f8ffef326f429b61e9a00f51ffc477e89db1137"), looks := false }, kinds := [], alts := [], laidByText := true, laidKinds := [.data, .data], laidTests := true, laidLooks := .later }
def EcdsaWhoseCardSaid : Prop := Claim7.holds Tryd.pinned (.plain (OpenSpec.ofChange ecdsaWhoseSpec)) ecdsaWhoseCard

/-- THE TIED CARD OF 'waybilllaw06.EcdsaGenuine'. -/
def ecdsaGenuineCard : Claim7 := { stood := { row := ecdsaGenuineRow, standIns := [], harness := (true, "a050a9e1996899d215249a501f8ffef326f429b61e9a00f51ffc477e89db1137"), looks := false }, kinds := [], alts := [], laidByText := true, laidKinds := [.data, .data, .data, .data], laidTests := true, laidLooks := .later }
def EcdsaGenuineCardSaid : Prop := Claim7.holds Tryd.pinned (.plain (OpenSpec.ofChange ecdsaGenuineSpec)) ecdsaGenuineCard

/-- THE SECOND FORM's CARD OF 'waybilllaw06.EcdsaBytes'. -/
def ecdsaBytesUptoCard : Claim7 := { stood := { row := ecdsaBytesUptoRow, standIns := [], harness := (true, "a050a9e1996899d215249a501f8ffef326f429b61e9a00f51ffc477e89db1137"), looks := false }, kinds := [], alts := [], laidByText := true, laidKinds := [.data], laidTests := true, laidLooks := .later }
def EcdsaBytesUptoCardSaid : Prop := Claim7.holds Tryd.pinned (.plain (OpenSpec.upto ecdsaBytesSpec)) ecdsaBytesUptoCard

/-- THE SECOND FORM's CARD OF 'waybilllaw06.EcdsaNonces'. -/
def ecdsaNoncesUptoCard : Claim7 := { stood := { row := ecdsaNoncesUptoRow, standIns := [], harness := (true, "a050a9e1996899d215249a501f8ffef326f429b61e9a00f51ffc477e89db1137"), looks := false }, kinds := [], alts := [], laidByText := true, laidKinds := [.data, .data, .data], laidTests := true, laidLooks := .later }
def EcdsaNoncesUptoCardSaid : Prop := Claim7.holds Tryd.pinned (.plain (OpenSpec.upto ecdsaNoncesSpec)) ecdsaNoncesUptoCard

/-- THE SECOND FORM's CARD OF 'waybilllaw06.EcdsaTextbook'. -/
def ecdsaTextbookUptoCard : Claim7 := { stood := { row := ecdsaTextbookUptoRow, standIns := [], harness := (true, "a050a9e1996899d215249a501f8ffef326f429b61e9a00f51ffc477e89db1137"), looks := false }, kinds := [], alts := [], laidByText := true, laidKinds := [.data, .data], laidTests := true, laidLooks := .later }
def EcdsaTextbookUptoCardSaid : Prop := Claim7.holds Tryd.pinned (.plain (OpenSpec.upto ecdsaTextbookSpec)) ecdsaTextbookUptoCard

/-- THE SECOND FORM's CARD OF 'waybilllaw06.EcdsaTurned'. -/
def ecdsaTurnedUptoCard : Claim7 := { stood := { row := ecdsaTurnedUptoRow, standIns := [], harness := (true, "a050a9e1996899d215249a501f8ffef326f429b61e9a00f51ffc477e89db1137"), looks := false }, kinds := [], alts := [], laidByText := true, laidKinds := [.data, .data], laidTests := true, laidLooks := .later }
def EcdsaTurnedUptoCardSaid : Prop := Claim7.holds Tryd.pinned (.plain (OpenSpec.upto ecdsaTurnedSpec)) ecdsaTurnedUptoCard

/-- THE SECOND FORM's CARD OF 'waybilllaw06.EcdsaRecovered'. -/
def ecdsaRecoveredUptoCard : Claim7 := { stood := { row := ecdsaRecoveredUptoRow, standIns := [], harness := (true, "a050a9e1996899d215249a501f8ffef326f429b61e9a00f51ffc477e89db1137"), looks := false }, kinds := [], alts := [], laidByText := true, laidKinds := [.data, .data], laidTests := true, laidLooks := .later }
def EcdsaRecoveredUptoCardSaid : Prop := Claim7.holds Tryd.pinned (.plain (OpenSpec.upto ecdsaRecoveredSpec)) ecdsaRecoveredUptoCard

/-- THE SECOND FORM's CARD OF 'waybilllaw06.EcdsaWhose'. -/
def ecdsaWhoseUptoCard : Claim7 := { stood := { row := ecdsaWhoseUptoRow, standIns := [], harness := (true, "a050a9e1996899d215249a501f8ffef326f429b61e9a00f51ffc477e89db1137"), looks := false }, kinds := [], alts := [], laidByText := true, laidKinds := [.data, .data], laidTests := true, laidLooks := .later }
def EcdsaWhoseUptoCardSaid : Prop := Claim7.holds Tryd.pinned (.plain (OpenSpec.upto ecdsaWhoseSpec)) ecdsaWhoseUptoCard

/-- THE SECOND FORM's CARD OF 'waybilllaw06.EcdsaGenuine'. -/
def ecdsaGenuineUptoCard : Claim7 := { stood := { row := ecdsaGenuineUptoRow, standIns := [], harness := (true, "a050a9e1996899d215249a501f8ffef326f429b61e9a00f51ffc477e89db1137"), looks := false }, kinds := [], alts := [], laidByText := true, laidKinds := [.data, .data, .data, .data], laidTests := true, laidLooks := .later }
def EcdsaGenuineUptoCardSaid : Prop := Claim7.holds Tryd.pinned (.plain (OpenSpec.upto ecdsaGenuineSpec)) ecdsaGenuineUptoCard
end Rows
end Go.Proofs.YthhijclndgipaaaDoor
