/-
  NARROWER THAN 'FOR EVERY INPUT', by the rows' own cells (each row's printed sentence says how): CurveBytes: laid · CurveLifts: laid · CurveSums: laid · CurveParses: laid · CurveAdds: laid · CurveMulAdds: laid · CurveGroup: laid · CurveMuls: laid · CurveSteps: laid · CurveOne: laid · CurveOrder: laid · CurveBack: laid.
  DERIVED. THE GIVEN ROWS OF THIS SEAT. 12 by the template 'for every input the law returns true; each argument reads behind the call as it read before'; 0 by the template 'total and deterministic' (their statements: YtmjdciphkjapkaaDoorTotals.lean).
  GIVEN WITH THE SEED: the statements are not yours to turn. If you find one false, say at which input.
  Laid BY PROGRAM, IN A SANDBOX (cutbox-rows.mjs): the forced cells as the released guide's own fill.sh prints them over the translation d18278b86e48f644… (all of the seat's roots in one cut). By AI agents, Wed Nov 11 2026. No macro, syntax, notation, axiom, sorry.
-/
import Derived.Test.YtmjdciphkjapkaaDoorChecked
import GoSem.Claim
import GoSem.ClaimJoined
import GoSem.ClaimMapViews
import Derived.JoinedTies
import Derived.KernelRfl
namespace Go.Proofs.YtmjdciphkjapkaaDoor
/- THE CELL 'sum', in the pinned program and in every row, IS THE sha256 OF THE DUMP (.gsa) THAT YtmjdciphkjapkaaDoorProg.lean LOADS. Nothing in Lean hashes anything: it is a label: what it is worth is what the hold of that sum in a sandbox is worth. -/
noncomputable def Tryd.pinned : Pinned := { name := "ytmjdciphkjapkaadoor", sum := "d18278b86e48f6447fc46224cf7e48a7804c704c38fb2376ddf33e3e9895305c", checked := Tryd.checked }
namespace Rows
def none {H : Type} : Left H := { results := [], args := [] }

/- WHAT THE LISTED PACKAGE-LEVEL VARIABLES READ AS WHEN THE CALL BEGINS. Each datum BY PROGRAM (the guide's laid-datum.mjs) off the statement by which the dump's own 'gosem.cut.vars' lays the variable. In a bare row this is a premise. The card (YtmjdciphkjapkaaDoorCards.lean) ties it to the program's text. -/
def laid_waybill_field_moduli {H : Type} : DataW H := .agg [.agg [.agg [.lit (.int .u64 18446744069414583343), .lit (.int .u64 18446744073709551615), .lit (.int .u64 18446744073709551615), .lit (.int .u64 18446744073709551615)], .agg [.lit (.int .u64 4294968273), .lit (.int .u64 0), .lit (.int .u64 0), .lit (.int .u64 0)]], .agg [.agg [.lit (.int .u64 13822214165235122497), .lit (.int .u64 13451932020343611451), .lit (.int .u64 18446744073709551614), .lit (.int .u64 18446744073709551615)], .agg [.lit (.int .u64 4624529908474429119), .lit (.int .u64 4994812053365940164), .lit (.int .u64 1), .lit (.int .u64 0)]]]
def laid_waybill_curve_base {H : Type} : DataW H := .agg [.lit (.int .u64 6481385041966929816), .lit (.int .u64 188021827762530521), .lit (.int .u64 6170039885052185351), .lit (.int .u64 8772561819708210092), .lit (.int .u64 11261198710074299576), .lit (.int .u64 18237243440184513561), .lit (.int .u64 6747795201694173352), .lit (.int .u64 5204712524664259685)]

/-- 'waybilllaw05.CurveBytes': WHATEVER THE INPUT: true; the input reads as it did. -/
def curveBytesSpec : ChangeSpec := { name := "curveBytes", fn := fun _ => fun
  | [d] => { results := [.lit (.bool true)], args := [d] }
  | _ => none }
def curveBytesRow : OpenClaim := { program := "ytmjdciphkjapkaadoor", sum := "d18278b86e48f6447fc46224cf7e48a7804c704c38fb2376ddf33e3e9895305c", func := "waybill/waybilllaw05.CurveBytes", spec := "curveBytes", inPlace := ["math/bits.Sub64", "math/bits.Add64"], named := ["waybill/field.moduli"], apart := false, laid := [("waybill/field.moduli", laid_waybill_field_moduli)] }
def CurveBytesSaid : Prop := curveBytesRow.holds Tryd.pinned (OpenSpec.ofChange curveBytesSpec)

/-- ITS FALSE NEIGHBOUR: 'it returns false'. Refute it at one input. -/
def curveBytesWrong : ChangeSpec := { name := "curveBytes", fn := fun _ => fun
  | [d] => { results := [.lit (.bool false)], args := [d] }
  | _ => none }
def CurveBytesWrongFalsely : Prop := curveBytesRow.holds Tryd.pinned (OpenSpec.ofChange curveBytesWrong)

/-- 'waybilllaw05.CurveLifts': WHATEVER THE INPUT: true; the input reads as it did. -/
def curveLiftsSpec : ChangeSpec := { name := "curveLifts", fn := fun _ => fun
  | [d] => { results := [.lit (.bool true)], args := [d] }
  | _ => none }
def curveLiftsRow : OpenClaim := { program := "ytmjdciphkjapkaadoor", sum := "d18278b86e48f6447fc46224cf7e48a7804c704c38fb2376ddf33e3e9895305c", func := "waybill/waybilllaw05.CurveLifts", spec := "curveLifts", inPlace := ["math/bits.Sub64", "math/bits.Add64"], recurses := true, named := ["waybill/field.moduli"], apart := false, laid := [("waybill/field.moduli", laid_waybill_field_moduli)] }
def CurveLiftsSaid : Prop := curveLiftsRow.holds Tryd.pinned (OpenSpec.ofChange curveLiftsSpec)

/-- ITS FALSE NEIGHBOUR: 'it returns false'. Refute it at one input. -/
def curveLiftsWrong : ChangeSpec := { name := "curveLifts", fn := fun _ => fun
  | [d] => { results := [.lit (.bool false)], args := [d] }
  | _ => none }
def CurveLiftsWrongFalsely : Prop := curveLiftsRow.holds Tryd.pinned (OpenSpec.ofChange curveLiftsWrong)

/-- 'waybilllaw05.CurveSums': WHATEVER THE INPUT: true; the input reads as it did. -/
def curveSumsSpec : ChangeSpec := { name := "curveSums", fn := fun _ => fun
  | [d] => { results := [.lit (.bool true)], args := [d] }
  | _ => none }
def curveSumsRow : OpenClaim := { program := "ytmjdciphkjapkaadoor", sum := "d18278b86e48f6447fc46224cf7e48a7804c704c38fb2376ddf33e3e9895305c", func := "waybill/waybilllaw05.CurveSums", spec := "curveSums", inPlace := ["math/bits.Sub64", "math/bits.Add64"], named := ["waybill/field.moduli"], apart := false, laid := [("waybill/field.moduli", laid_waybill_field_moduli)] }
def CurveSumsSaid : Prop := curveSumsRow.holds Tryd.pinned (OpenSpec.ofChange curveSumsSpec)

/-- ITS FALSE NEIGHBOUR: 'it returns false'. Refute it at one input. -/
def curveSumsWrong : ChangeSpec := { name := "curveSums", fn := fun _ => fun
  | [d] => { results := [.lit (.bool false)], args := [d] }
  | _ => none }
def CurveSumsWrongFalsely : Prop := curveSumsRow.holds Tryd.pinned (OpenSpec.ofChange curveSumsWrong)

/-- 'waybilllaw05.CurveParses': WHATEVER THE INPUT: true; the input reads as it did. -/
def curveParsesSpec : ChangeSpec := { name := "curveParses", fn := fun _ => fun
  | [d] => { results := [.lit (.bool true)], args := [d] }
  | _ => none }
def curveParsesRow : OpenClaim := { program := "ytmjdciphkjapkaadoor", sum := "d18278b86e48f6447fc46224cf7e48a7804c704c38fb2376ddf33e3e9895305c", func := "waybill/waybilllaw05.CurveParses", spec := "curveParses", inPlace := ["math/bits.Sub64", "math/bits.Add64"], recurses := true, named := ["waybill/field.moduli"], apart := false, laid := [("waybill/field.moduli", laid_waybill_field_moduli)] }
def CurveParsesSaid : Prop := curveParsesRow.holds Tryd.pinned (OpenSpec.ofChange curveParsesSpec)

/-- ITS FALSE NEIGHBOUR: 'it returns false'. Refute it at one input. -/
def curveParsesWrong : ChangeSpec := { name := "curveParses", fn := fun _ => fun
  | [d] => { results := [.lit (.bool false)], args := [d] }
  | _ => none }
def CurveParsesWrongFalsely : Prop := curveParsesRow.holds Tryd.pinned (OpenSpec.ofChange curveParsesWrong)

/-- 'waybilllaw05.CurveAdds': WHATEVER THE INPUT: true; the input reads as it did. -/
def curveAddsSpec : ChangeSpec := { name := "curveAdds", fn := fun _ => fun
  | [d1, d2] => { results := [.lit (.bool true)], args := [d1, d2] }
  | _ => none }
def curveAddsRow : OpenClaim := { program := "ytmjdciphkjapkaadoor", sum := "d18278b86e48f6447fc46224cf7e48a7804c704c38fb2376ddf33e3e9895305c", func := "waybill/waybilllaw05.CurveAdds", spec := "curveAdds", inPlace := ["math/bits.Sub64", "math/bits.Add64"], named := ["waybill/field.moduli", "waybill/curve.base"], apart := false, laid := [("waybill/field.moduli", laid_waybill_field_moduli), ("waybill/curve.base", laid_waybill_curve_base)] }
def CurveAddsSaid : Prop := curveAddsRow.holds Tryd.pinned (OpenSpec.ofChange curveAddsSpec)

/-- ITS FALSE NEIGHBOUR: 'it returns false'. Refute it at one input. -/
def curveAddsWrong : ChangeSpec := { name := "curveAdds", fn := fun _ => fun
  | [d1, d2] => { results := [.lit (.bool false)], args := [d1, d2] }
  | _ => none }
def CurveAddsWrongFalsely : Prop := curveAddsRow.holds Tryd.pinned (OpenSpec.ofChange curveAddsWrong)

/-- 'waybilllaw05.CurveMulAdds': WHATEVER THE INPUT: true; the input reads as it did. -/
def curveMulAddsSpec : ChangeSpec := { name := "curveMulAdds", fn := fun _ => fun
  | [d1, d2, d3] => { results := [.lit (.bool true)], args := [d1, d2, d3] }
  | _ => none }
def curveMulAddsRow : OpenClaim := { program := "ytmjdciphkjapkaadoor", sum := "d18278b86e48f6447fc46224cf7e48a7804c704c38fb2376ddf33e3e9895305c", func := "waybill/waybilllaw05.CurveMulAdds", spec := "curveMulAdds", inPlace := ["math/bits.Sub64", "math/bits.Add64"], named := ["waybill/field.moduli", "waybill/curve.base"], apart := false, laid := [("waybill/field.moduli", laid_waybill_field_moduli), ("waybill/curve.base", laid_waybill_curve_base)] }
def CurveMulAddsSaid : Prop := curveMulAddsRow.holds Tryd.pinned (OpenSpec.ofChange curveMulAddsSpec)

/-- ITS FALSE NEIGHBOUR: 'it returns false'. Refute it at one input. -/
def curveMulAddsWrong : ChangeSpec := { name := "curveMulAdds", fn := fun _ => fun
  | [d1, d2, d3] => { results := [.lit (.bool false)], args := [d1, d2, d3] }
  | _ => none }
def CurveMulAddsWrongFalsely : Prop := curveMulAddsRow.holds Tryd.pinned (OpenSpec.ofChange curveMulAddsWrong)

/-- 'waybilllaw05.CurveGroup': WHATEVER THE INPUT: true; the input reads as it did. -/
def curveGroupSpec : ChangeSpec := { name := "curveGroup", fn := fun _ => fun
  | [d1, d2, d3] => { results := [.lit (.bool true)], args := [d1, d2, d3] }
  | _ => none }
def curveGroupRow : OpenClaim := { program := "ytmjdciphkjapkaadoor", sum := "d18278b86e48f6447fc46224cf7e48a7804c704c38fb2376ddf33e3e9895305c", func := "waybill/waybilllaw05.CurveGroup", spec := "curveGroup", inPlace := ["math/bits.Sub64", "math/bits.Add64"], named := ["waybill/curve.base", "waybill/field.moduli"], apart := false, laid := [("waybill/field.moduli", laid_waybill_field_moduli), ("waybill/curve.base", laid_waybill_curve_base)] }
def CurveGroupSaid : Prop := curveGroupRow.holds Tryd.pinned (OpenSpec.ofChange curveGroupSpec)

/-- ITS FALSE NEIGHBOUR: 'it returns false'. Refute it at one input. -/
def curveGroupWrong : ChangeSpec := { name := "curveGroup", fn := fun _ => fun
  | [d1, d2, d3] => { results := [.lit (.bool false)], args := [d1, d2, d3] }
  | _ => none }
def CurveGroupWrongFalsely : Prop := curveGroupRow.holds Tryd.pinned (OpenSpec.ofChange curveGroupWrong)

/-- 'waybilllaw05.CurveMuls': WHATEVER THE INPUT: true; the input reads as it did. -/
def curveMulsSpec : ChangeSpec := { name := "curveMuls", fn := fun _ => fun
  | [d1, d2] => { results := [.lit (.bool true)], args := [d1, d2] }
  | _ => none }
def curveMulsRow : OpenClaim := { program := "ytmjdciphkjapkaadoor", sum := "d18278b86e48f6447fc46224cf7e48a7804c704c38fb2376ddf33e3e9895305c", func := "waybill/waybilllaw05.CurveMuls", spec := "curveMuls", inPlace := ["math/bits.Sub64", "math/bits.Add64"], named := ["waybill/field.moduli", "waybill/curve.base"], apart := false, laid := [("waybill/field.moduli", laid_waybill_field_moduli), ("waybill/curve.base", laid_waybill_curve_base)] }
def CurveMulsSaid : Prop := curveMulsRow.holds Tryd.pinned (OpenSpec.ofChange curveMulsSpec)

/-- ITS FALSE NEIGHBOUR: 'it returns false'. Refute it at one input. -/
def curveMulsWrong : ChangeSpec := { name := "curveMuls", fn := fun _ => fun
  | [d1, d2] => { results := [.lit (.bool false)], args := [d1, d2] }
  | _ => none }
def CurveMulsWrongFalsely : Prop := curveMulsRow.holds Tryd.pinned (OpenSpec.ofChange curveMulsWrong)

/-- 'waybilllaw05.CurveSteps': WHATEVER THE INPUT: true; the input reads as it did. -/
def curveStepsSpec : ChangeSpec := { name := "curveSteps", fn := fun _ => fun
  | [d1, d2] => { results := [.lit (.bool true)], args := [d1, d2] }
  | _ => none }
def curveStepsRow : OpenClaim := { program := "ytmjdciphkjapkaadoor", sum := "d18278b86e48f6447fc46224cf7e48a7804c704c38fb2376ddf33e3e9895305c", func := "waybill/waybilllaw05.CurveSteps", spec := "curveSteps", inPlace := ["math/bits.Sub64", "math/bits.Add64"], recurses := true, named := ["waybill/curve.base", "waybill/field.moduli"], apart := false, laid := [("waybill/field.moduli", laid_waybill_field_moduli), ("waybill/curve.base", laid_waybill_curve_base)] }
def CurveStepsSaid : Prop := curveStepsRow.holds Tryd.pinned (OpenSpec.ofChange curveStepsSpec)

/-- ITS FALSE NEIGHBOUR: 'it returns false'. Refute it at one input. -/
def curveStepsWrong : ChangeSpec := { name := "curveSteps", fn := fun _ => fun
  | [d1, d2] => { results := [.lit (.bool false)], args := [d1, d2] }
  | _ => none }
def CurveStepsWrongFalsely : Prop := curveStepsRow.holds Tryd.pinned (OpenSpec.ofChange curveStepsWrong)

/-- 'waybilllaw05.CurveOne': WHATEVER THE INPUT: true; the input reads as it did. -/
def curveOneSpec : ChangeSpec := { name := "curveOne", fn := fun _ => fun
  | [d] => { results := [.lit (.bool true)], args := [d] }
  | _ => none }
def curveOneRow : OpenClaim := { program := "ytmjdciphkjapkaadoor", sum := "d18278b86e48f6447fc46224cf7e48a7804c704c38fb2376ddf33e3e9895305c", func := "waybill/waybilllaw05.CurveOne", spec := "curveOne", inPlace := ["math/bits.Sub64", "math/bits.Add64"], recurses := true, named := ["waybill/curve.base", "waybill/field.moduli"], apart := false, laid := [("waybill/field.moduli", laid_waybill_field_moduli), ("waybill/curve.base", laid_waybill_curve_base)] }
def CurveOneSaid : Prop := curveOneRow.holds Tryd.pinned (OpenSpec.ofChange curveOneSpec)

/-- ITS FALSE NEIGHBOUR: 'it returns false'. Refute it at one input. -/
def curveOneWrong : ChangeSpec := { name := "curveOne", fn := fun _ => fun
  | [d] => { results := [.lit (.bool false)], args := [d] }
  | _ => none }
def CurveOneWrongFalsely : Prop := curveOneRow.holds Tryd.pinned (OpenSpec.ofChange curveOneWrong)

/-- 'waybilllaw05.CurveOrder': WHATEVER THE INPUT: true; the input reads as it did. -/
def curveOrderSpec : ChangeSpec := { name := "curveOrder", fn := fun _ => fun
  | [d1, d2, d3] => { results := [.lit (.bool true)], args := [d1, d2, d3] }
  | _ => none }
def curveOrderRow : OpenClaim := { program := "ytmjdciphkjapkaadoor", sum := "d18278b86e48f6447fc46224cf7e48a7804c704c38fb2376ddf33e3e9895305c", func := "waybill/waybilllaw05.CurveOrder", spec := "curveOrder", inPlace := ["math/bits.Sub64", "math/bits.Add64"], recurses := true, named := ["waybill/curve.base", "waybill/field.moduli"], apart := false, laid := [("waybill/field.moduli", laid_waybill_field_moduli), ("waybill/curve.base", laid_waybill_curve_base)] }
def CurveOrderSaid : Prop := curveOrderRow.holds Tryd.pinned (OpenSpec.ofChange curveOrderSpec)

/-- ITS FALSE NEIGHBOUR: 'it returns false'. Refute it at one input. -/
def curveOrderWrong : ChangeSpec := { name := "curveOrder", fn := fun _ => fun
  | [d1, d2, d3] => { results := [.lit (.bool false)], args := [d1, d2, d3] }
  | _ => none }
def CurveOrderWrongFalsely : Prop := curveOrderRow.holds Tryd.pinned (OpenSpec.ofChange curveOrderWrong)

/-- 'waybilllaw05.CurveBack': WHATEVER THE INPUT: true; the input reads as it did. -/
def curveBackSpec : ChangeSpec := { name := "curveBack", fn := fun _ => fun
  | [d] => { results := [.lit (.bool true)], args := [d] }
  | _ => none }
def curveBackRow : OpenClaim := { program := "ytmjdciphkjapkaadoor", sum := "d18278b86e48f6447fc46224cf7e48a7804c704c38fb2376ddf33e3e9895305c", func := "waybill/waybilllaw05.CurveBack", spec := "curveBack", inPlace := ["math/bits.Sub64", "math/bits.Add64"], recurses := true, named := ["waybill/curve.base", "waybill/field.moduli"], apart := false, laid := [("waybill/field.moduli", laid_waybill_field_moduli), ("waybill/curve.base", laid_waybill_curve_base)] }
def CurveBackSaid : Prop := curveBackRow.holds Tryd.pinned (OpenSpec.ofChange curveBackSpec)

/-- ITS FALSE NEIGHBOUR: 'it returns false'. Refute it at one input. -/
def curveBackWrong : ChangeSpec := { name := "curveBack", fn := fun _ => fun
  | [d] => { results := [.lit (.bool false)], args := [d] }
  | _ => none }
def CurveBackWrongFalsely : Prop := curveBackRow.holds Tryd.pinned (OpenSpec.ofChange curveBackWrong)

/- THE SECOND FORM. 'bulk': how many values and letters a reading holds, each counted each time it is reached (what is shared counts as often as it is met; a slice's spare places count too). A statement '..UptoSaid' is the law's where the arguments, and the package variables that the reading takes, are together of bulk at most 1048576: NARROWER than '..Said'. Prove '..Said' where nothing that the law and all that it calls make is longer than what came in: it says more and counts as full. Else prove '..UptoSaid'. A law counts once. -/
mutual
def uptoBulk {H : Type} : DataW H → Nat
  | .lit (.string bytes) => bytes.length + 1
  | .lit _ => 1
  | .nil => 1
  | .ptr d => uptoBulk d + 1
  | .slice elems spare => uptoBulkAll elems + uptoBulkAll spare + 1
  | .agg parts => uptoBulkAll parts + 1
  | .iface _ d => uptoBulk d + 1
  | .map entries => uptoBulkEntries entries + 1
  | .held _ => 1
def uptoBulkAll {H : Type} : List (DataW H) → Nat
  | [] => 0
  | d :: r => uptoBulk d + uptoBulkAll r
def uptoBulkEntries {H : Type} : List (Lit × DataW H) → Nat
  | [] => 0
  | x :: r => uptoBulkEntry x + uptoBulkEntries r
def uptoBulkEntry {H : Type} : Lit × DataW H → Nat
  | (.string bytes, d) => bytes.length + uptoBulk d + 1
  | (_, d) => uptoBulk d + 1
 end
def uptoSmall : (H : Type) → List (DataW H) → Bool := fun _ ds => decide (uptoBulkAll ds ≤ 1048576)
def OpenSpec.upto (s : _root_.Go.ChangeSpec) : _root_.Go.OpenSpec := { _root_.Go.OpenSpec.ofChange s with cond := some uptoSmall }

/-- 'waybilllaw05.CurveBytes', WHERE WHAT IT READS IS OF BULK AT MOST 1048576: true; the input reads as it did. -/
def curveBytesUptoRow : OpenClaim := { program := "ytmjdciphkjapkaadoor", sum := "d18278b86e48f6447fc46224cf7e48a7804c704c38fb2376ddf33e3e9895305c", func := "waybill/waybilllaw05.CurveBytes", spec := "curveBytes", inPlace := ["math/bits.Sub64", "math/bits.Add64"], named := ["waybill/field.moduli"], apart := false, laid := [("waybill/field.moduli", laid_waybill_field_moduli)], narrowed := true }
def CurveBytesUptoSaid : Prop := curveBytesUptoRow.holds Tryd.pinned (OpenSpec.upto curveBytesSpec)

/-- 'waybilllaw05.CurveLifts', WHERE WHAT IT READS IS OF BULK AT MOST 1048576: true; the input reads as it did. -/
def curveLiftsUptoRow : OpenClaim := { program := "ytmjdciphkjapkaadoor", sum := "d18278b86e48f6447fc46224cf7e48a7804c704c38fb2376ddf33e3e9895305c", func := "waybill/waybilllaw05.CurveLifts", spec := "curveLifts", inPlace := ["math/bits.Sub64", "math/bits.Add64"], recurses := true, named := ["waybill/field.moduli"], apart := false, laid := [("waybill/field.moduli", laid_waybill_field_moduli)], narrowed := true }
def CurveLiftsUptoSaid : Prop := curveLiftsUptoRow.holds Tryd.pinned (OpenSpec.upto curveLiftsSpec)

/-- 'waybilllaw05.CurveSums', WHERE WHAT IT READS IS OF BULK AT MOST 1048576: true; the input reads as it did. -/
def curveSumsUptoRow : OpenClaim := { program := "ytmjdciphkjapkaadoor", sum := "d18278b86e48f6447fc46224cf7e48a7804c704c38fb2376ddf33e3e9895305c", func := "waybill/waybilllaw05.CurveSums", spec := "curveSums", inPlace := ["math/bits.Sub64", "math/bits.Add64"], named := ["waybill/field.moduli"], apart := false, laid := [("waybill/field.moduli", laid_waybill_field_moduli)], narrowed := true }
def CurveSumsUptoSaid : Prop := curveSumsUptoRow.holds Tryd.pinned (OpenSpec.upto curveSumsSpec)

/-- 'waybilllaw05.CurveParses', WHERE WHAT IT READS IS OF BULK AT MOST 1048576: true; the input reads as it did. -/
def curveParsesUptoRow : OpenClaim := { program := "ytmjdciphkjapkaadoor", sum := "d18278b86e48f6447fc46224cf7e48a7804c704c38fb2376ddf33e3e9895305c", func := "waybill/waybilllaw05.CurveParses", spec := "curveParses", inPlace := ["math/bits.Sub64", "math/bits.Add64"], recurses := true, named := ["waybill/field.moduli"], apart := false, laid := [("waybill/field.moduli", laid_waybill_field_moduli)], narrowed := true }
def CurveParsesUptoSaid : Prop := curveParsesUptoRow.holds Tryd.pinned (OpenSpec.upto curveParsesSpec)

/-- 'waybilllaw05.CurveAdds', WHERE WHAT IT READS IS OF BULK AT MOST 1048576: true; the input reads as it did. -/
def curveAddsUptoRow : OpenClaim := { program := "ytmjdciphkjapkaadoor", sum := "d18278b86e48f6447fc46224cf7e48a7804c704c38fb2376ddf33e3e9895305c", func := "waybill/waybilllaw05.CurveAdds", spec := "curveAdds", inPlace := ["math/bits.Sub64", "math/bits.Add64"], named := ["waybill/field.moduli", "waybill/curve.base"], apart := false, laid := [("waybill/field.moduli", laid_waybill_field_moduli), ("waybill/curve.base", laid_waybill_curve_base)], narrowed := true }
def CurveAddsUptoSaid : Prop := curveAddsUptoRow.holds Tryd.pinned (OpenSpec.upto curveAddsSpec)

/-- 'waybilllaw05.CurveMulAdds', WHERE WHAT IT READS IS OF BULK AT MOST 1048576: true; the input reads as it did. -/
def curveMulAddsUptoRow : OpenClaim := { program := "ytmjdciphkjapkaadoor", sum := "d18278b86e48f6447fc46224cf7e48a7804c704c38fb2376ddf33e3e9895305c", func := "waybill/waybilllaw05.CurveMulAdds", spec := "curveMulAdds", inPlace := ["math/bits.Sub64", "math/bits.Add64"], named := ["waybill/field.moduli", "waybill/curve.base"], apart := false, laid := [("waybill/field.moduli", laid_waybill_field_moduli), ("waybill/curve.base", laid_waybill_curve_base)], narrowed := true }
def CurveMulAddsUptoSaid : Prop := curveMulAddsUptoRow.holds Tryd.pinned (OpenSpec.upto curveMulAddsSpec)

/-- 'waybilllaw05.CurveGroup', WHERE WHAT IT READS IS OF BULK AT MOST 1048576: true; the input reads as it did. -/
def curveGroupUptoRow : OpenClaim := { program := "ytmjdciphkjapkaadoor", sum := "d18278b86e48f6447fc46224cf7e48a7804c704c38fb2376ddf33e3e9895305c", func := "waybill/waybilllaw05.CurveGroup", spec := "curveGroup", inPlace := ["math/bits.Sub64", "math/bits.Add64"], named := ["waybill/curve.base", "waybill/field.moduli"], apart := false, laid := [("waybill/field.moduli", laid_waybill_field_moduli), ("waybill/curve.base", laid_waybill_curve_base)], narrowed := true }
def CurveGroupUptoSaid : Prop := curveGroupUptoRow.holds Tryd.pinned (OpenSpec.upto curveGroupSpec)

/-- 'waybilllaw05.CurveMuls', WHERE WHAT IT READS IS OF BULK AT MOST 1048576: true; the input reads as it did. -/
def curveMulsUptoRow : OpenClaim := { program := "ytmjdciphkjapkaadoor", sum := "d18278b86e48f6447fc46224cf7e48a7804c704c38fb2376ddf33e3e9895305c", func := "waybill/waybilllaw05.CurveMuls", spec := "curveMuls", inPlace := ["math/bits.Sub64", "math/bits.Add64"], named := ["waybill/field.moduli", "waybill/curve.base"], apart := false, laid := [("waybill/field.moduli", laid_waybill_field_moduli), ("waybill/curve.base", laid_waybill_curve_base)], narrowed := true }
def CurveMulsUptoSaid : Prop := curveMulsUptoRow.holds Tryd.pinned (OpenSpec.upto curveMulsSpec)

/-- 'waybilllaw05.CurveSteps', WHERE WHAT IT READS IS OF BULK AT MOST 1048576: true; the input reads as it did. -/
def curveStepsUptoRow : OpenClaim := { program := "ytmjdciphkjapkaadoor", sum := "d18278b86e48f6447fc46224cf7e48a7804c704c38fb2376ddf33e3e9895305c", func := "waybill/waybilllaw05.CurveSteps", spec := "curveSteps", inPlace := ["math/bits.Sub64", "math/bits.Add64"], recurses := true, named := ["waybill/curve.base", "waybill/field.moduli"], apart := false, laid := [("waybill/field.moduli", laid_waybill_field_moduli), ("waybill/curve.base", laid_waybill_curve_base)], narrowed := true }
def CurveStepsUptoSaid : Prop := curveStepsUptoRow.holds Tryd.pinned (OpenSpec.upto curveStepsSpec)

/-- 'waybilllaw05.CurveOne', WHERE WHAT IT READS IS OF BULK AT MOST 1048576: true; the input reads as it did. -/
def curveOneUptoRow : OpenClaim := { program := "ytmjdciphkjapkaadoor", sum := "d18278b86e48f6447fc46224cf7e48a7804c704c38fb2376ddf33e3e9895305c", func := "waybill/waybilllaw05.CurveOne", spec := "curveOne", inPlace := ["math/bits.Sub64", "math/bits.Add64"], recurses := true, named := ["waybill/curve.base", "waybill/field.moduli"], apart := false, laid := [("waybill/field.moduli", laid_waybill_field_moduli), ("waybill/curve.base", laid_waybill_curve_base)], narrowed := true }
def CurveOneUptoSaid : Prop := curveOneUptoRow.holds Tryd.pinned (OpenSpec.upto curveOneSpec)

/-- 'waybilllaw05.CurveOrder', WHERE WHAT IT READS IS OF BULK AT MOST 1048576: true; the input reads as it did. -/
def curveOrderUptoRow : OpenClaim := { program := "ytmjdciphkjapkaadoor", sum := "d18278b86e48f6447fc46224cf7e48a7804c704c38fb2376ddf33e3e9895305c", func := "waybill/waybilllaw05.CurveOrder", spec := "curveOrder", inPlace := ["math/bits.Sub64", "math/bits.Add64"], recurses := true, named := ["waybill/curve.base", "waybill/field.moduli"], apart := false, laid := [("waybill/field.moduli", laid_waybill_field_moduli), ("waybill/curve.base", laid_waybill_curve_base)], narrowed := true }
def CurveOrderUptoSaid : Prop := curveOrderUptoRow.holds Tryd.pinned (OpenSpec.upto curveOrderSpec)

/-- 'waybilllaw05.CurveBack', WHERE WHAT IT READS IS OF BULK AT MOST 1048576: true; the input reads as it did. -/
def curveBackUptoRow : OpenClaim := { program := "ytmjdciphkjapkaadoor", sum := "d18278b86e48f6447fc46224cf7e48a7804c704c38fb2376ddf33e3e9895305c", func := "waybill/waybilllaw05.CurveBack", spec := "curveBack", inPlace := ["math/bits.Sub64", "math/bits.Add64"], recurses := true, named := ["waybill/curve.base", "waybill/field.moduli"], apart := false, laid := [("waybill/field.moduli", laid_waybill_field_moduli), ("waybill/curve.base", laid_waybill_curve_base)], narrowed := true }
def CurveBackUptoSaid : Prop := curveBackUptoRow.holds Tryd.pinned (OpenSpec.upto curveBackSpec)

end Rows
end Go.Proofs.YtmjdciphkjapkaaDoor
