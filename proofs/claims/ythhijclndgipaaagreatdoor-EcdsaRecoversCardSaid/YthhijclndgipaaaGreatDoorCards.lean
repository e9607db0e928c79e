/-
  DERIVED. GIVEN WITH THE SEED: THE CARDS: each row of YthhijclndgipaaaGreatDoorRows.lean that lists a variable, with what it lists TIED to the program's text (the seventh form; the later family's looks); each row that meets fmt, with fmt's text TOLD by the authors' own Lean function (tested against real Go, not proved from fmt's source: count such statements apart). THE CARD IS WHAT COUNTS. Prove the row's statement (the work); the ties are given (YthhijclndgipaaaGreatDoorTie.lean); close each card by the builder's one call (the guide's Derived/Test/ToyasCard.lean, 'card_holds'). Laid BY PROGRAM, IN A SANDBOX (cutbox-door.mjs). By AI agents, Wed Nov 11 2026. No macro, syntax, notation, axiom, sorry.
-/
import Derived.Test.YthhijclndgipaaaGreatDoorRows
import GoSem.ClaimSeven
namespace Go.Proofs.YthhijclndgipaaaGreatDoor
namespace Rows

/-- THE TIED CARD OF 'waybilllaw06.EcdsaSignsWith'. -/
def ecdsaSignsWithCard : Claim7 := { stood := { row := ecdsaSignsWithRow, standIns := [], harness := (true, "c816cb60ee1e987577e56b6c4c44b535fc577926e8cbf757f346caaca535f6b4"), looks := false }, kinds := [], alts := [], laidByText := true, laidKinds := [.data, .data], laidTests := true, laidLooks := .later }
def EcdsaSignsWithCardSaid : Prop := Claim7.holds Tryz.pinned (.plain (OpenSpec.ofChange ecdsaSignsWithSpec)) ecdsaSignsWithCard

/-- THE TIED CARD OF 'waybilllaw06.EcdsaVerifies'. -/
def ecdsaVerifiesCard : Claim7 := { stood := { row := ecdsaVerifiesRow, standIns := [], harness := (true, "c816cb60ee1e987577e56b6c4c44b535fc577926e8cbf757f346caaca535f6b4"), looks := false }, kinds := [], alts := [], laidByText := true, laidKinds := [.data, .data], laidTests := true, laidLooks := .later }
def EcdsaVerifiesCardSaid : Prop := Claim7.holds Tryz.pinned (.plain (OpenSpec.ofChange ecdsaVerifiesSpec)) ecdsaVerifiesCard

/-- THE TIED CARD OF 'waybilllaw06.EcdsaRecovers'. -/
def ecdsaRecoversCard : Claim7 := { stood := { row := ecdsaRecoversRow, standIns := [], harness := (true, "c816cb60ee1e987577e56b6c4c44b535fc577926e8cbf757f346caaca535f6b4"), looks := false }, kinds := [], alts := [], laidByText := true, laidKinds := [.data, .data], laidTests := true, laidLooks := .later }
def EcdsaRecoversCardSaid : Prop := Claim7.holds Tryz.pinned (.plain (OpenSpec.ofChange ecdsaRecoversSpec)) ecdsaRecoversCard

/-- THE TIED CARD OF 'waybilllaw06.EcdsaSigns'. -/
def ecdsaSignsCard : Claim7 := { stood := { row := ecdsaSignsRow, standIns := [], harness := (true, "c816cb60ee1e987577e56b6c4c44b535fc577926e8cbf757f346caaca535f6b4"), looks := false }, kinds := [], alts := [], laidByText := true, laidKinds := [.data, .data, .data, .data], laidTests := true, laidLooks := .later }
def EcdsaSignsCardSaid : Prop := Claim7.holds Tryz.pinned (.plain (OpenSpec.ofChange ecdsaSignsSpec)) ecdsaSignsCard

/-- THE SECOND FORM's CARD OF 'waybilllaw06.EcdsaSignsWith'. -/
def ecdsaSignsWithUptoCard : Claim7 := { stood := { row := ecdsaSignsWithUptoRow, standIns := [], harness := (true, "c816cb60ee1e987577e56b6c4c44b535fc577926e8cbf757f346caaca535f6b4"), looks := false }, kinds := [], alts := [], laidByText := true, laidKinds := [.data, .data], laidTests := true, laidLooks := .later }
def EcdsaSignsWithUptoCardSaid : Prop := Claim7.holds Tryz.pinned (.plain (OpenSpec.upto ecdsaSignsWithSpec)) ecdsaSignsWithUptoCard

/-- THE SECOND FORM's CARD OF 'waybilllaw06.EcdsaVerifies'. -/
def ecdsaVerifiesUptoCard : Claim7 := { stood := { row := ecdsaVerifiesUptoRow, standIns := [], harness := (true, "c816cb60ee1e987577e56b6c4c44b535fc577926e8cbf757f346caaca535f6b4"), looks := false }, kinds := [], alts := [], laidByText := true, laidKinds := [.data, .data], laidTests := true, laidLooks := .later }
def EcdsaVerifiesUptoCardSaid : Prop := Claim7.holds Tryz.pinned (.plain (OpenSpec.upto ecdsaVerifiesSpec)) ecdsaVerifiesUptoCard

/-- THE SECOND FORM's CARD OF 'waybilllaw06.EcdsaRecovers'. -/
def ecdsaRecoversUptoCard : Claim7 := { stood := { row := ecdsaRecoversUptoRow, standIns := [], harness := (true, "c816cb60ee1e987577e56b6c4c44b535fc577926e8cbf757f346caaca535f6b4"), looks := false }, kinds := [], alts := [], laidByText := true, laidKinds := [.data, .data], laidTests := true, laidLooks := .later }
def EcdsaRecoversUptoCardSaid : Prop := Claim7.holds Tryz.pinned (.plain (OpenSpec.upto ecdsaRecoversSpec)) ecdsaRecoversUptoCard

/-- THE SECOND FORM's CARD OF 'waybilllaw06.EcdsaSigns'. -/
def ecdsaSignsUptoCard : Claim7 := { stood := { row := ecdsaSignsUptoRow, standIns := [], harness := (true, "c816cb60ee1e987577e56b6c4c44b535fc577926e8cbf757f346caaca535f6b4"), looks := false }, kinds := [], alts := [], laidByText := true, laidKinds := [.data, .data, .data, .data], laidTests := true, laidLooks := .later }
def EcdsaSignsUptoCardSaid : Prop := Claim7.holds Tryz.pinned (.plain (OpenSpec.upto ecdsaSignsSpec)) ecdsaSignsUptoCard
end Rows
end Go.Proofs.YthhijclndgipaaaGreatDoor
