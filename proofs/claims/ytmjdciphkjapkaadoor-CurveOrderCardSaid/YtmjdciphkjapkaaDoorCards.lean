/-
  DERIVED. GIVEN WITH THE SEED: THE CARDS: each row of YtmjdciphkjapkaaDoorRows.lean that lists a variable, with what it lists TIED to the program's text (the seventh form; the later family's looks); each row that meets fmt, with fmt's text TOLD by the authors' own Lean function (tested against real Go, not proved from fmt's source: count such statements apart). THE CARD IS WHAT COUNTS. Prove the row's statement (the work); the ties are given (YtmjdciphkjapkaaDoorTie.lean); close each card by the builder's one call (the guide's Derived/Test/ToyasCard.lean, 'card_holds'). Laid BY PROGRAM, IN A SANDBOX (cutbox-door.mjs). By AI agents, Wed Nov 11 2026. No macro, syntax, notation, axiom, sorry.
-/
import Derived.Test.YtmjdciphkjapkaaDoorRows
import GoSem.ClaimSeven
namespace Go.Proofs.YtmjdciphkjapkaaDoor
namespace Rows

/-- THE TIED CARD OF 'waybilllaw05.CurveBytes'. -/
def curveBytesCard : Claim7 := { stood := { row := curveBytesRow, standIns := [], harness := (true, "66b7ff1563760a31787e720963d4b225a1b7b2c5695b49f4a70502eeec5e5575"), looks := false }, kinds := [], alts := [], laidByText := true, laidKinds := [.data], laidTests := true, laidLooks := .later }
def CurveBytesCardSaid : Prop := Claim7.holds Tryd.pinned (.plain (OpenSpec.ofChange curveBytesSpec)) curveBytesCard

/-- THE TIED CARD OF 'waybilllaw05.CurveLifts'. -/
def curveLiftsCard : Claim7 := { stood := { row := curveLiftsRow, standIns := [], harness := (true, "66b7ff1563760a31787e720963d4b225a1b7b2c5695b49f4a70502eeec5e5575"), looks := false }, kinds := [], alts := [], laidByText := true, laidKinds := [.data], laidTests := true, laidLooks := .later }
def CurveLiftsCardSaid : Prop := Claim7.holds Tryd.pinned (.plain (OpenSpec.ofChange curveLiftsSpec)) curveLiftsCard

/-- THE TIED CARD OF 'waybilllaw05.CurveSums'. -/
def curveSumsCard : Claim7 := { stood := { row := curveSumsRow, standIns := [], harness := (true, "66b7ff1563760a31787e720963d4b225a1b7b2c5695b49f4a70502eeec5e5575"), looks := false }, kinds := [], alts := [], laidByText := true, laidKinds := [.data], laidTests := true, laidLooks := .later }
def CurveSumsCardSaid : Prop := Claim7.holds Tryd.pinned (.plain (OpenSpec.ofChange curveSumsSpec)) curveSumsCard

/-- THE TIED CARD OF 'waybilllaw05.CurveParses'. -/
def curveParsesCard : Claim7 := { stood := { row := curveParsesRow, standIns := [], harness := (true, "66b7ff1563760a31787e720963d4b225a1b7b2c5695b49f4a70502eeec5e5575"), looks := false }, kinds := [], alts := [], laidByText := true, laidKinds := [.data], laidTests := true, laidLooks := .later }
def CurveParsesCardSaid : Prop := Claim7.holds Tryd.pinned (.plain (OpenSpec.ofChange curveParsesSpec)) curveParsesCard

/-- THE TIED CARD OF 'waybilllaw05.CurveAdds'. -/
def curveAddsCard : Claim7 := { stood := { row := curveAddsRow, standIns := [], harness := (true, "66b7ff1563760a31787e720963d4b225a1b7b2c5695b49f4a70502eeec5e5575"), looks := false }, kinds := [], alts := [], laidByText := true, laidKinds := [.data, .data], laidTests := true, laidLooks := .later }
def CurveAddsCardSaid : Prop := Claim7.holds Tryd.pinned (.plain (OpenSpec.ofChange curveAddsSpec)) curveAddsCard

/-- THE TIED CARD OF 'waybilllaw05.CurveMulAdds'. -/
def curveMulAddsCard : Claim7 := { stood := { row := curveMulAddsRow, standIns := [], harness := (true, "66b7ff1563760a31787e720963d4b225a1b7b2c5695b49f4a70502eeec5e5575"), looks := false }, kinds := [], alts := [], laidByText := true, laidKinds := [.data, .data], laidTests := true, laidLooks := .later }
def CurveMulAddsCardSaid : Prop := Claim7.holds Tryd.pinned (.plain (OpenSpec.ofChange curveMulAddsSpec)) curveMulAddsCard

/-- THE TIED CARD OF 'waybilllaw05.CurveGroup'. -/
def curveGroupCard : Claim7 := { stood := { row := curveGroupRow, standIns := [], harness := (true, "66b7ff1563760a31787e720963d4b225a1b7b2c5695b49f4a70502eeec5e5575"), looks := false }, kinds := [], alts := [], laidByText := true, laidKinds := [.data, .data], laidTests := true, laidLooks := .later }
def CurveGroupCardSaid : Prop := Claim7.holds Tryd.pinned (.plain (OpenSpec.ofChange curveGroupSpec)) curveGroupCard

/-- THE TIED CARD OF 'waybilllaw05.CurveMuls'. -/
def curveMulsCard : Claim7 := { stood := { row := curveMulsRow, standIns := [], harness := (true, "66b7ff1563760a31787e720963d4b225a1b7b2c5695b49f4a70502eeec5e5575"), looks := false }, kinds := [], alts := [], laidByText := true, laidKinds := [.data, .data], laidTests := true, laidLooks := .later }
def CurveMulsCardSaid : Prop := Claim7.holds Tryd.pinned (.plain (OpenSpec.ofChange curveMulsSpec)) curveMulsCard

/-- THE TIED CARD OF 'waybilllaw05.CurveSteps'. -/
def curveStepsCard : Claim7 := { stood := { row := curveStepsRow, standIns := [], harness := (true, "66b7ff1563760a31787e720963d4b225a1b7b2c5695b49f4a70502eeec5e5575"), looks := false }, kinds := [], alts := [], laidByText := true, laidKinds := [.data, .data], laidTests := true, laidLooks := .later }
def CurveStepsCardSaid : Prop := Claim7.holds Tryd.pinned (.plain (OpenSpec.ofChange curveStepsSpec)) curveStepsCard

/-- THE TIED CARD OF 'waybilllaw05.CurveOne'. -/
def curveOneCard : Claim7 := { stood := { row := curveOneRow, standIns := [], harness := (true, "66b7ff1563760a31787e720963d4b225a1b7b2c5695b49f4a70502eeec5e5575"), looks := false }, kinds := [], alts := [], laidByText := true, laidKinds := [.data, .data], laidTests := true, laidLooks := .later }
def CurveOneCardSaid : Prop := Claim7.holds Tryd.pinned (.plain (OpenSpec.ofChange curveOneSpec)) curveOneCard

/-- THE TIED CARD OF 'waybilllaw05.CurveOrder'. -/
def curveOrderCard : Claim7 := { stood := { row := curveOrderRow, standIns := [], harness := (true, "66b7ff1563760a31787e720963d4b225a1b7b2c5695b49f4a70502eeec5e5575"), looks := false }, kinds := [], alts := [], laidByText := true, laidKinds := [.data, .data], laidTests := true, laidLooks := .later }
def CurveOrderCardSaid : Prop := Claim7.holds Tryd.pinned (.plain (OpenSpec.ofChange curveOrderSpec)) curveOrderCard

/-- THE TIED CARD OF 'waybilllaw05.CurveBack'. -/
def curveBackCard : Claim7 := { stood := { row := curveBackRow, standIns := [], harness := (true, "66b7ff1563760a31787e720963d4b225a1b7b2c5695b49f4a70502eeec5e5575"), looks := false }, kinds := [], alts := [], laidByText := true, laidKinds := [.data, .data], laidTests := true, laidLooks := .later }
def CurveBackCardSaid : Prop := Claim7.holds Tryd.pinned (.plain (OpenSpec.ofChange curveBackSpec)) curveBackCard

/-- THE SECOND FORM's CARD OF 'waybilllaw05.CurveBytes'. -/
def curveBytesUptoCard : Claim7 := { stood := { row := curveBytesUptoRow, standIns := [], harness := (true, "66b7ff1563760a31787e720963d4b225a1b7b2c5695b49f4a70502eeec5e5575"), looks := false }, kinds := [], alts := [], laidByText := true, laidKinds := [.data], laidTests := true, laidLooks := .later }
def CurveBytesUptoCardSaid : Prop := Claim7.holds Tryd.pinned (.plain (OpenSpec.upto curveBytesSpec)) curveBytesUptoCard

/-- THE SECOND FORM's CARD OF 'waybilllaw05.CurveLifts'. -/
def curveLiftsUptoCard : Claim7 := { stood := { row := curveLiftsUptoRow, standIns := [], harness := (true, "66b7ff1563760a31787e720963d4b225a1b7b2c5695b49f4a70502eeec5e5575"), looks := false }, kinds := [], alts := [], laidByText := true, laidKinds := [.data], laidTests := true, laidLooks := .later }
def CurveLiftsUptoCardSaid : Prop := Claim7.holds Tryd.pinned (.plain (OpenSpec.upto curveLiftsSpec)) curveLiftsUptoCard

/-- THE SECOND FORM's CARD OF 'waybilllaw05.CurveSums'. -/
def curveSumsUptoCard : Claim7 := { stood := { row := curveSumsUptoRow, standIns := [], harness := (true, "66b7ff1563760a31787e720963d4b225a1b7b2c5695b49f4a70502eeec5e5575"), looks := false }, kinds := [], alts := [], laidByText := true, laidKinds := [.data], laidTests := true, laidLooks := .later }
def CurveSumsUptoCardSaid : Prop := Claim7.holds Tryd.pinned (.plain (OpenSpec.upto curveSumsSpec)) curveSumsUptoCard

/-- THE SECOND FORM's CARD OF 'waybilllaw05.CurveParses'. -/
def curveParsesUptoCard : Claim7 := { stood := { row := curveParsesUptoRow, standIns := [], harness := (true, "66b7ff1563760a31787e720963d4b225a1b7b2c5695b49f4a70502eeec5e5575"), looks := false }, kinds := [], alts := [], laidByText := true, laidKinds := [.data], laidTests := true, laidLooks := .later }
def CurveParsesUptoCardSaid : Prop := Claim7.holds Tryd.pinned (.plain (OpenSpec.upto curveParsesSpec)) curveParsesUptoCard

/-- THE SECOND FORM's CARD OF 'waybilllaw05.CurveAdds'. -/
def curveAddsUptoCard : Claim7 := { stood := { row := curveAddsUptoRow, standIns := [], harness := (true, "66b7ff1563760a31787e720963d4b225a1b7b2c5695b49f4a70502eeec5e5575"), looks := false }, kinds := [], alts := [], laidByText := true, laidKinds := [.data, .data], laidTests := true, laidLooks := .later }
def CurveAddsUptoCardSaid : Prop := Claim7.holds Tryd.pinned (.plain (OpenSpec.upto curveAddsSpec)) curveAddsUptoCard

/-- THE SECOND FORM's CARD OF 'waybilllaw05.CurveMulAdds'. -/
def curveMulAddsUptoCard : Claim7 := { stood := { row := curveMulAddsUptoRow, standIns := [], harness := (true, "66b7ff1563760a31787e720963d4b225a1b7b2c5695b49f4a70502eeec5e5575"), looks := false }, kinds := [], alts := [], laidByText := true, laidKinds := [.data, .data], laidTests := true, laidLooks := .later }
def CurveMulAddsUptoCardSaid : Prop := Claim7.holds Tryd.pinned (.plain (OpenSpec.upto curveMulAddsSpec)) curveMulAddsUptoCard

/-- THE SECOND FORM's CARD OF 'waybilllaw05.CurveGroup'. -/
def curveGroupUptoCard : Claim7 := { stood := { row := curveGroupUptoRow, standIns := [], harness := (true, "66b7ff1563760a31787e720963d4b225a1b7b2c5695b49f4a70502eeec5e5575"), looks := false }, kinds := [], alts := [], laidByText := true, laidKinds := [.data, .data], laidTests := true, laidLooks := .later }
def CurveGroupUptoCardSaid : Prop := Claim7.holds Tryd.pinned (.plain (OpenSpec.upto curveGroupSpec)) curveGroupUptoCard

/-- THE SECOND FORM's CARD OF 'waybilllaw05.CurveMuls'. -/
def curveMulsUptoCard : Claim7 := { stood := { row := curveMulsUptoRow, standIns := [], harness := (true, "66b7ff1563760a31787e720963d4b225a1b7b2c5695b49f4a70502eeec5e5575"), looks := false }, kinds := [], alts := [], laidByText := true, laidKinds := [.data, .data], laidTests := true, laidLooks := .later }
def CurveMulsUptoCardSaid : Prop := Claim7.holds Tryd.pinned (.plain (OpenSpec.upto curveMulsSpec)) curveMulsUptoCard

/-- THE SECOND FORM's CARD OF 'waybilllaw05.CurveSteps'. -/
def curveStepsUptoCard : Claim7 := { stood := { row := curveStepsUptoRow, standIns := [], harness := (true, "66b7ff1563760a31787e720963d4b225a1b7b2c5695b49f4a70502eeec5e5575"), looks := false }, kinds := [], alts := [], laidByText := true, laidKinds := [.data, .data], laidTests := true, laidLooks := .later }
def CurveStepsUptoCardSaid : Prop := Claim7.holds Tryd.pinned (.plain (OpenSpec.upto curveStepsSpec)) curveStepsUptoCard

/-- THE SECOND FORM's CARD OF 'waybilllaw05.CurveOne'. -/
def curveOneUptoCard : Claim7 := { stood := { row := curveOneUptoRow, standIns := [], harness := (true, "66b7ff1563760a31787e720963d4b225a1b7b2c5695b49f4a70502eeec5e5575"), looks := false }, kinds := [], alts := [], laidByText := true, laidKinds := [.data, .data], laidTests := true, laidLooks := .later }
def CurveOneUptoCardSaid : Prop := Claim7.holds Tryd.pinned (.plain (OpenSpec.upto curveOneSpec)) curveOneUptoCard

/-- THE SECOND FORM's CARD OF 'waybilllaw05.CurveOrder'. -/
def curveOrderUptoCard : Claim7 := { stood := { row := curveOrderUptoRow, standIns := [], harness := (true, "66b7ff1563760a31787e720963d4b225a1b7b2c5695b49f4a70502eeec5e5575"), looks := false }, kinds := [], alts := [], laidByText := true, laidKinds := [.data, .data], laidTests := true, laidLooks := .later }
def CurveOrderUptoCardSaid : Prop := Claim7.holds Tryd.pinned (.plain (OpenSpec.upto curveOrderSpec)) curveOrderUptoCard

/-- THE SECOND FORM's CARD OF 'waybilllaw05.CurveBack'. -/
def curveBackUptoCard : Claim7 := { stood := { row := curveBackUptoRow, standIns := [], harness := (true, "66b7ff1563760a31787e720963d4b225a1b7b2c5695b49f4a70502eeec5e5575"), looks := false }, kinds := [], alts := [], laidByText := true, laidKinds := [.data, .data], laidTests := true, laidLooks := .later }
def CurveBackUptoCardSaid : Prop := Claim7.holds Tryd.pinned (.plain (OpenSpec.upto curveBackSpec)) curveBackUptoCard
end Rows
end Go.Proofs.YtmjdciphkjapkaaDoor
