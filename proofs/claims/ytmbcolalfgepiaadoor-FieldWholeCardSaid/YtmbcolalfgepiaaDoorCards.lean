/-
  DERIVED. GIVEN WITH THE SEED: THE CARDS: each row of YtmbcolalfgepiaaDoorRows.lean that lists a variable, with what it lists TIED to the program's text (the seventh form; the later family's looks); each row that meets fmt, with fmt's text TOLD by the authors' own Lean function (tested against real Go, not proved from fmt's source: count such statements apart). THE CARD IS WHAT COUNTS. Prove the row's statement (the work); the ties are given (YtmbcolalfgepiaaDoorTie.lean); close each card by the builder's one call (the guide's Derived/Test/ToyasCard.lean, 'card_holds'). Laid BY PROGRAM, IN A SANDBOX (cutbox-door.mjs). By AI agents, Wed Nov 11 2026. No macro, syntax, notation, axiom, sorry.
-/
import Derived.Test.YtmbcolalfgepiaaDoorRows
import GoSem.ClaimSeven
namespace Go.Proofs.YtmbcolalfgepiaaDoor
namespace Rows

/-- THE TIED CARD OF 'waybilllaw06.EcdsaChecks'. -/
def ecdsaChecksCard : Claim7 := { stood := { row := ecdsaChecksRow, standIns := [], harness := (true, "4432298b6b0227ede4708d544aa30a71f969b3d91d34bf0fedcbbbcfdef6121f"), looks := false }, kinds := [], alts := [], laidByText := true, laidKinds := [.data], laidTests := true, laidLooks := .later }
def EcdsaChecksCardSaid : Prop := Claim7.holds Tryd.pinned (.plain (OpenSpec.ofChange ecdsaChecksSpec)) ecdsaChecksCard

/-- THE TIED CARD OF 'waybilllaw04.FieldProducts'. -/
def fieldProductsCard : Claim7 := { stood := { row := fieldProductsRow, standIns := [], harness := (true, "4432298b6b0227ede4708d544aa30a71f969b3d91d34bf0fedcbbbcfdef6121f"), looks := false }, kinds := [], alts := [], laidByText := true, laidKinds := [.data], laidTests := true, laidLooks := .later }
def FieldProductsCardSaid : Prop := Claim7.holds Tryd.pinned (.plain (OpenSpec.ofChange fieldProductsSpec)) fieldProductsCard

/-- THE TIED CARD OF 'waybilllaw04.FieldSums'. -/
def fieldSumsCard : Claim7 := { stood := { row := fieldSumsRow, standIns := [], harness := (true, "4432298b6b0227ede4708d544aa30a71f969b3d91d34bf0fedcbbbcfdef6121f"), looks := false }, kinds := [], alts := [], laidByText := true, laidKinds := [.data], laidTests := true, laidLooks := .later }
def FieldSumsCardSaid : Prop := Claim7.holds Tryd.pinned (.plain (OpenSpec.ofChange fieldSumsSpec)) fieldSumsCard

/-- THE TIED CARD OF 'waybilllaw06.EcdsaPacks'. -/
def ecdsaPacksCard : Claim7 := { stood := { row := ecdsaPacksRow, standIns := [], harness := (true, "4432298b6b0227ede4708d544aa30a71f969b3d91d34bf0fedcbbbcfdef6121f"), looks := false }, kinds := [], alts := [], laidByText := true, laidKinds := [.data], laidTests := true, laidLooks := .later }
def EcdsaPacksCardSaid : Prop := Claim7.holds Tryd.pinned (.plain (OpenSpec.ofChange ecdsaPacksSpec)) ecdsaPacksCard

/-- THE TIED CARD OF 'waybilllaw04.FieldLaws'. -/
def fieldLawsCard : Claim7 := { stood := { row := fieldLawsRow, standIns := [], harness := (true, "4432298b6b0227ede4708d544aa30a71f969b3d91d34bf0fedcbbbcfdef6121f"), looks := false }, kinds := [], alts := [], laidByText := true, laidKinds := [.data], laidTests := true, laidLooks := .later }
def FieldLawsCardSaid : Prop := Claim7.holds Tryd.pinned (.plain (OpenSpec.ofChange fieldLawsSpec)) fieldLawsCard

/-- THE TIED CARD OF 'waybilllaw04.FieldPowers'. -/
def fieldPowersCard : Claim7 := { stood := { row := fieldPowersRow, standIns := [], harness := (true, "4432298b6b0227ede4708d544aa30a71f969b3d91d34bf0fedcbbbcfdef6121f"), looks := false }, kinds := [], alts := [], laidByText := true, laidKinds := [.data], laidTests := true, laidLooks := .later }
def FieldPowersCardSaid : Prop := Claim7.holds Tryd.pinned (.plain (OpenSpec.ofChange fieldPowersSpec)) fieldPowersCard

/-- THE TIED CARD OF 'waybilllaw04.FieldInverses'. -/
def fieldInversesCard : Claim7 := { stood := { row := fieldInversesRow, standIns := [], harness := (true, "4432298b6b0227ede4708d544aa30a71f969b3d91d34bf0fedcbbbcfdef6121f"), looks := false }, kinds := [], alts := [], laidByText := true, laidKinds := [.data], laidTests := true, laidLooks := .later }
def FieldInversesCardSaid : Prop := Claim7.holds Tryd.pinned (.plain (OpenSpec.ofChange fieldInversesSpec)) fieldInversesCard

/-- THE TIED CARD OF 'waybilllaw04.FieldBatch'. -/
def fieldBatchCard : Claim7 := { stood := { row := fieldBatchRow, standIns := [], harness := (true, "4432298b6b0227ede4708d544aa30a71f969b3d91d34bf0fedcbbbcfdef6121f"), looks := false }, kinds := [], alts := [], laidByText := true, laidKinds := [.data], laidTests := true, laidLooks := .later }
def FieldBatchCardSaid : Prop := Claim7.holds Tryd.pinned (.plain (OpenSpec.ofChange fieldBatchSpec)) fieldBatchCard

/-- THE TIED CARD OF 'waybilllaw04.FieldRoots'. -/
def fieldRootsCard : Claim7 := { stood := { row := fieldRootsRow, standIns := [], harness := (true, "4432298b6b0227ede4708d544aa30a71f969b3d91d34bf0fedcbbbcfdef6121f"), looks := false }, kinds := [], alts := [], laidByText := true, laidKinds := [.data], laidTests := true, laidLooks := .later }
def FieldRootsCardSaid : Prop := Claim7.holds Tryd.pinned (.plain (OpenSpec.ofChange fieldRootsSpec)) fieldRootsCard

/-- THE TIED CARD OF 'waybilllaw04.FieldWhole'. -/
def fieldWholeCard : Claim7 := { stood := { row := fieldWholeRow, standIns := [], harness := (true, "4432298b6b0227ede4708d544aa30a71f969b3d91d34bf0fedcbbbcfdef6121f"), looks := false }, kinds := [], alts := [], laidByText := true, laidKinds := [.data], laidTests := true, laidLooks := .later }
def FieldWholeCardSaid : Prop := Claim7.holds Tryd.pinned (.plain (OpenSpec.ofChange fieldWholeSpec)) fieldWholeCard

/-- THE TIED CARD OF 'waybilllaw04.FieldInverts'. -/
def fieldInvertsCard : Claim7 := { stood := { row := fieldInvertsRow, standIns := [], harness := (true, "4432298b6b0227ede4708d544aa30a71f969b3d91d34bf0fedcbbbcfdef6121f"), looks := false }, kinds := [], alts := [], laidByText := true, laidKinds := [.data], laidTests := true, laidLooks := .later }
def FieldInvertsCardSaid : Prop := Claim7.holds Tryd.pinned (.plain (OpenSpec.ofChange fieldInvertsSpec)) fieldInvertsCard

/-- THE TIED CARD OF 'waybilllaw04.FieldSquares'. -/
def fieldSquaresCard : Claim7 := { stood := { row := fieldSquaresRow, standIns := [], harness := (true, "4432298b6b0227ede4708d544aa30a71f969b3d91d34bf0fedcbbbcfdef6121f"), looks := false }, kinds := [], alts := [], laidByText := true, laidKinds := [.data], laidTests := true, laidLooks := .later }
def FieldSquaresCardSaid : Prop := Claim7.holds Tryd.pinned (.plain (OpenSpec.ofChange fieldSquaresSpec)) fieldSquaresCard

/-- THE SECOND FORM's CARD OF 'waybilllaw06.EcdsaChecks'. -/
def ecdsaChecksUptoCard : Claim7 := { stood := { row := ecdsaChecksUptoRow, standIns := [], harness := (true, "4432298b6b0227ede4708d544aa30a71f969b3d91d34bf0fedcbbbcfdef6121f"), looks := false }, kinds := [], alts := [], laidByText := true, laidKinds := [.data], laidTests := true, laidLooks := .later }
def EcdsaChecksUptoCardSaid : Prop := Claim7.holds Tryd.pinned (.plain (OpenSpec.upto ecdsaChecksSpec)) ecdsaChecksUptoCard

/-- THE SECOND FORM's CARD OF 'waybilllaw04.FieldProducts'. -/
def fieldProductsUptoCard : Claim7 := { stood := { row := fieldProductsUptoRow, standIns := [], harness := (true, "4432298b6b0227ede4708d544aa30a71f969b3d91d34bf0fedcbbbcfdef6121f"), looks := false }, kinds := [], alts := [], laidByText := true, laidKinds := [.data], laidTests := true, laidLooks := .later }
def FieldProductsUptoCardSaid : Prop := Claim7.holds Tryd.pinned (.plain (OpenSpec.upto fieldProductsSpec)) fieldProductsUptoCard

/-- THE SECOND FORM's CARD OF 'waybilllaw04.FieldSums'. -/
def fieldSumsUptoCard : Claim7 := { stood := { row := fieldSumsUptoRow, standIns := [], harness := (true, "4432298b6b0227ede4708d544aa30a71f969b3d91d34bf0fedcbbbcfdef6121f"), looks := false }, kinds := [], alts := [], laidByText := true, laidKinds := [.data], laidTests := true, laidLooks := .later }
def FieldSumsUptoCardSaid : Prop := Claim7.holds Tryd.pinned (.plain (OpenSpec.upto fieldSumsSpec)) fieldSumsUptoCard

/-- THE SECOND FORM's CARD OF 'waybilllaw06.EcdsaPacks'. -/
def ecdsaPacksUptoCard : Claim7 := { stood := { row := ecdsaPacksUptoRow, standIns := [], harness := (true, "4432298b6b0227ede4708d544aa30a71f969b3d91d34bf0fedcbbbcfdef6121f"), looks := false }, kinds := [], alts := [], laidByText := true, laidKinds := [.data], laidTests := true, laidLooks := .later }
def EcdsaPacksUptoCardSaid : Prop := Claim7.holds Tryd.pinned (.plain (OpenSpec.upto ecdsaPacksSpec)) ecdsaPacksUptoCard

/-- THE SECOND FORM's CARD OF 'waybilllaw04.FieldLaws'. -/
def fieldLawsUptoCard : Claim7 := { stood := { row := fieldLawsUptoRow, standIns := [], harness := (true, "4432298b6b0227ede4708d544aa30a71f969b3d91d34bf0fedcbbbcfdef6121f"), looks := false }, kinds := [], alts := [], laidByText := true, laidKinds := [.data], laidTests := true, laidLooks := .later }
def FieldLawsUptoCardSaid : Prop := Claim7.holds Tryd.pinned (.plain (OpenSpec.upto fieldLawsSpec)) fieldLawsUptoCard

/-- THE SECOND FORM's CARD OF 'waybilllaw04.FieldPowers'. -/
def fieldPowersUptoCard : Claim7 := { stood := { row := fieldPowersUptoRow, standIns := [], harness := (true, "4432298b6b0227ede4708d544aa30a71f969b3d91d34bf0fedcbbbcfdef6121f"), looks := false }, kinds := [], alts := [], laidByText := true, laidKinds := [.data], laidTests := true, laidLooks := .later }
def FieldPowersUptoCardSaid : Prop := Claim7.holds Tryd.pinned (.plain (OpenSpec.upto fieldPowersSpec)) fieldPowersUptoCard

/-- THE SECOND FORM's CARD OF 'waybilllaw04.FieldInverses'. -/
def fieldInversesUptoCard : Claim7 := { stood := { row := fieldInversesUptoRow, standIns := [], harness := (true, "4432298b6b0227ede4708d544aa30a71f969b3d91d34bf0fedcbbbcfdef6121f"), looks := false }, kinds := [], alts := [], laidByText := true, laidKinds := [.data], laidTests := true, laidLooks := .later }
def FieldInversesUptoCardSaid : Prop := Claim7.holds Tryd.pinned (.plain (OpenSpec.upto fieldInversesSpec)) fieldInversesUptoCard

/-- THE SECOND FORM's CARD OF 'waybilllaw04.FieldBatch'. -/
def fieldBatchUptoCard : Claim7 := { stood := { row := fieldBatchUptoRow, standIns := [], harness := (true, "4432298b6b0227ede4708d544aa30a71f969b3d91d34bf0fedcbbbcfdef6121f"), looks := false }, kinds := [], alts := [], laidByText := true, laidKinds := [.data], laidTests := true, laidLooks := .later }
def FieldBatchUptoCardSaid : Prop := Claim7.holds Tryd.pinned (.plain (OpenSpec.upto fieldBatchSpec)) fieldBatchUptoCard

/-- THE SECOND FORM's CARD OF 'waybilllaw04.FieldRoots'. -/
def fieldRootsUptoCard : Claim7 := { stood := { row := fieldRootsUptoRow, standIns := [], harness := (true, "4432298b6b0227ede4708d544aa30a71f969b3d91d34bf0fedcbbbcfdef6121f"), looks := false }, kinds := [], alts := [], laidByText := true, laidKinds := [.data], laidTests := true, laidLooks := .later }
def FieldRootsUptoCardSaid : Prop := Claim7.holds Tryd.pinned (.plain (OpenSpec.upto fieldRootsSpec)) fieldRootsUptoCard

/-- THE SECOND FORM's CARD OF 'waybilllaw04.FieldWhole'. -/
def fieldWholeUptoCard : Claim7 := { stood := { row := fieldWholeUptoRow, standIns := [], harness := (true, "4432298b6b0227ede4708d544aa30a71f969b3d91d34bf0fedcbbbcfdef6121f"), looks := false }, kinds := [], alts := [], laidByText := true, laidKinds := [.data], laidTests := true, laidLooks := .later }
def FieldWholeUptoCardSaid : Prop := Claim7.holds Tryd.pinned (.plain (OpenSpec.upto fieldWholeSpec)) fieldWholeUptoCard

/-- THE SECOND FORM's CARD OF 'waybilllaw04.FieldInverts'. -/
def fieldInvertsUptoCard : Claim7 := { stood := { row := fieldInvertsUptoRow, standIns := [], harness := (true, "4432298b6b0227ede4708d544aa30a71f969b3d91d34bf0fedcbbbcfdef6121f"), looks := false }, kinds := [], alts := [], laidByText := true, laidKinds := [.data], laidTests := true, laidLooks := .later }
def FieldInvertsUptoCardSaid : Prop := Claim7.holds Tryd.pinned (.plain (OpenSpec.upto fieldInvertsSpec)) fieldInvertsUptoCard

/-- THE SECOND FORM's CARD OF 'waybilllaw04.FieldSquares'. -/
def fieldSquaresUptoCard : Claim7 := { stood := { row := fieldSquaresUptoRow, standIns := [], harness := (true, "4432298b6b0227ede4708d544aa30a71f969b3d91d34bf0fedcbbbcfdef6121f"), looks := false }, kinds := [], alts := [], laidByText := true, laidKinds := [.data], laidTests := true, laidLooks := .later }
def FieldSquaresUptoCardSaid : Prop := Claim7.holds Tryd.pinned (.plain (OpenSpec.upto fieldSquaresSpec)) fieldSquaresUptoCard
end Rows
end Go.Proofs.YtmbcolalfgepiaaDoor
