/-
  DERIVED. GIVEN WITH THE SEED: THE CARDS: each row of YtfappeeggccicaaGreatDoorRows.lean that lists a variable, with what it lists TIED to the program's text (the seventh form; the later family's looks); each row that meets fmt, with fmt's text TOLD by the authors' own Lean function (tested against real Go, not proved from fmt's source: count such statements apart). THE CARD IS WHAT COUNTS. Prove the row's statement (the work); the ties are given (YtfappeeggccicaaGreatDoorTie.lean); close each card by the builder's one call (the guide's Derived/Test/ToyasCard.lean, 'card_holds'). Laid BY PROGRAM, IN A SANDBOX (cutbox-door.mjs). By AI agents, Wed Nov 11 2026. No macro, syntax, notation, axiom, sorry.
-/
import Derived.Test.YtfappeeggccicaaGreatDoorRows
import GoSem.ClaimSeven
namespace Go.Proofs.YtfappeeggccicaaGreatDoor
namespace Rows

/-- THE TIED CARD OF 'waybilllaw06.EcdsaSigns'. -/
def ecdsaSignsCard : Claim7 := { stood := { row := ecdsaSignsRow, standIns := [], harness := (true, "cbdba674e6093c5223a18f5c09d632cde94eff400b7bdb26114d31c63194deac"), looks := false }, kinds := [], alts := [], laidByText := true, laidKinds := [.data, .data, .data, .data], laidTests := true, laidLooks := .later }
def EcdsaSignsCardSaid : Prop := Claim7.holds Tryz.pinned (.plain (OpenSpec.ofChange ecdsaSignsSpec)) ecdsaSignsCard

/-- THE SECOND FORM's CARD OF 'waybilllaw06.EcdsaSigns'. -/
def ecdsaSignsUptoCard : Claim7 := { stood := { row := ecdsaSignsUptoRow, standIns := [], harness := (true, "cbdba674e6093c5223a18f5c09d632cde94eff400b7bdb26114d31c63194deac"), looks := false }, kinds := [], alts := [], laidByText := true, laidKinds := [.data, .data, .data, .data], laidTests := true, laidLooks := .later }
def EcdsaSignsUptoCardSaid : Prop := Claim7.holds Tryz.pinned (.plain (OpenSpec.upto ecdsaSignsSpec)) ecdsaSignsUptoCard
end Rows
end Go.Proofs.YtfappeeggccicaaGreatDoor
