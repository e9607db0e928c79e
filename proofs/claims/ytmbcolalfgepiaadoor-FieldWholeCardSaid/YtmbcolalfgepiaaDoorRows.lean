/-
  NARROWER THAN 'FOR EVERY INPUT', by the rows' own cells (each row's printed sentence says how): EcdsaChecks: laid · FieldProducts: laid · FieldSums: laid · EcdsaPacks: laid · FieldLaws: laid · FieldPowers: laid · FieldInverses: laid · FieldBatch: laid · FieldRoots: laid · FieldWhole: laid · FieldInverts: laid · FieldSquares: laid.
  DERIVED. THE GIVEN ROWS OF THIS SEAT. 12 by the template 'for every input the law returns true; each argument reads behind the call as it read before'; 0 by the template 'total and deterministic' (their statements: YtmbcolalfgepiaaDoorTotals.lean).
  GIVEN WITH THE SEED: the statements are not yours to turn. If you find one false, say at which input.
  Laid BY PROGRAM, IN A SANDBOX (cutbox-rows.mjs): the forced cells as the released guide's own fill.sh prints them over the translation d412771154fcf6c2… (all of the seat's roots in one cut). By AI agents, Wed Nov 11 2026. No macro, syntax, notation, axiom, sorry.
-/
import Derived.Test.YtmbcolalfgepiaaDoorChecked
import GoSem.Claim
import GoSem.ClaimJoined
import GoSem.ClaimMapViews
import Derived.JoinedTies
import Derived.KernelRfl
namespace Go.Proofs.YtmbcolalfgepiaaDoor
/- THE CELL 'sum', in the pinned program and in every row, IS THE sha256 OF THE DUMP (.gsa) THAT YtmbcolalfgepiaaDoorProg.lean LOADS. Nothing in Lean hashes anything: it is a label: what it is worth is what the hold of that sum in a sandbox is worth. -/
noncomputable def Tryd.pinned : Pinned := { name := "ytmbcolalfgepiaadoor", sum := "d412771154fcf6c223a93e4a99a8457e3dfecf71e36d8c6fe8f48958e2da3f28", checked := Tryd.checked }
namespace Rows
def none {H : Type} : Left H := { results := [], args := [] }

/- WHAT THE LISTED PACKAGE-LEVEL VARIABLES READ AS WHEN THE CALL BEGINS. Each datum BY PROGRAM (the guide's laid-datum.mjs) off the statement by which the dump's own 'gosem.cut.vars' lays the variable. In a bare row this is a premise. The card (YtmbcolalfgepiaaDoorCards.lean) ties it to the program's text. -/
def laid_waybill_field_moduli {H : Type} : DataW H := .agg [.agg [.agg [.lit (.int .u64 18446744069414583343), .lit (.int .u64 18446744073709551615), .lit (.int .u64 18446744073709551615), .lit (.int .u64 18446744073709551615)], .agg [.lit (.int .u64 4294968273), .lit (.int .u64 0), .lit (.int .u64 0), .lit (.int .u64 0)]], .agg [.agg [.lit (.int .u64 13822214165235122497), .lit (.int .u64 13451932020343611451), .lit (.int .u64 18446744073709551614), .lit (.int .u64 18446744073709551615)], .agg [.lit (.int .u64 4624529908474429119), .lit (.int .u64 4994812053365940164), .lit (.int .u64 1), .lit (.int .u64 0)]]]

/-- 'waybilllaw06.EcdsaChecks': WHATEVER THE INPUT: true; the input reads as it did. -/
def ecdsaChecksSpec : ChangeSpec := { name := "ecdsaChecks", fn := fun _ => fun
  | [d] => { results := [.lit (.bool true)], args := [d] }
  | _ => none }
def ecdsaChecksRow : OpenClaim := { program := "ytmbcolalfgepiaadoor", sum := "d412771154fcf6c223a93e4a99a8457e3dfecf71e36d8c6fe8f48958e2da3f28", func := "waybill/waybilllaw06.EcdsaChecks", spec := "ecdsaChecks", inPlace := ["math/bits.Sub64"], recurses := true, named := ["waybill/field.moduli"], apart := false, laid := [("waybill/field.moduli", laid_waybill_field_moduli)] }
def EcdsaChecksSaid : Prop := ecdsaChecksRow.holds Tryd.pinned (OpenSpec.ofChange ecdsaChecksSpec)

/-- ITS FALSE NEIGHBOUR: 'it returns false'. Refute it at one input. -/
def ecdsaChecksWrong : ChangeSpec := { name := "ecdsaChecks", fn := fun _ => fun
  | [d] => { results := [.lit (.bool false)], args := [d] }
  | _ => none }
def EcdsaChecksWrongFalsely : Prop := ecdsaChecksRow.holds Tryd.pinned (OpenSpec.ofChange ecdsaChecksWrong)

/-- 'waybilllaw04.FieldProducts': WHATEVER THE INPUT: true; the input reads as it did. -/
def fieldProductsSpec : ChangeSpec := { name := "fieldProducts", fn := fun _ => fun
  | [d1, d2, d3] => { results := [.lit (.bool true)], args := [d1, d2, d3] }
  | _ => none }
def fieldProductsRow : OpenClaim := { program := "ytmbcolalfgepiaadoor", sum := "d412771154fcf6c223a93e4a99a8457e3dfecf71e36d8c6fe8f48958e2da3f28", func := "waybill/waybilllaw04.FieldProducts", spec := "fieldProducts", inPlace := ["math/bits.Add64", "math/bits.Sub64"], named := ["waybill/field.moduli"], apart := false, laid := [("waybill/field.moduli", laid_waybill_field_moduli)] }
def FieldProductsSaid : Prop := fieldProductsRow.holds Tryd.pinned (OpenSpec.ofChange fieldProductsSpec)

/-- ITS FALSE NEIGHBOUR: 'it returns false'. Refute it at one input. -/
def fieldProductsWrong : ChangeSpec := { name := "fieldProducts", fn := fun _ => fun
  | [d1, d2, d3] => { results := [.lit (.bool false)], args := [d1, d2, d3] }
  | _ => none }
def FieldProductsWrongFalsely : Prop := fieldProductsRow.holds Tryd.pinned (OpenSpec.ofChange fieldProductsWrong)

/-- 'waybilllaw04.FieldSums': WHATEVER THE INPUT: true; the input reads as it did. -/
def fieldSumsSpec : ChangeSpec := { name := "fieldSums", fn := fun _ => fun
  | [d1, d2, d3] => { results := [.lit (.bool true)], args := [d1, d2, d3] }
  | _ => none }
def fieldSumsRow : OpenClaim := { program := "ytmbcolalfgepiaadoor", sum := "d412771154fcf6c223a93e4a99a8457e3dfecf71e36d8c6fe8f48958e2da3f28", func := "waybill/waybilllaw04.FieldSums", spec := "fieldSums", inPlace := ["math/bits.Add64", "math/bits.Sub64"], named := ["waybill/field.moduli"], apart := false, laid := [("waybill/field.moduli", laid_waybill_field_moduli)] }
def FieldSumsSaid : Prop := fieldSumsRow.holds Tryd.pinned (OpenSpec.ofChange fieldSumsSpec)

/-- ITS FALSE NEIGHBOUR: 'it returns false'. Refute it at one input. -/
def fieldSumsWrong : ChangeSpec := { name := "fieldSums", fn := fun _ => fun
  | [d1, d2, d3] => { results := [.lit (.bool false)], args := [d1, d2, d3] }
  | _ => none }
def FieldSumsWrongFalsely : Prop := fieldSumsRow.holds Tryd.pinned (OpenSpec.ofChange fieldSumsWrong)

/-- 'waybilllaw06.EcdsaPacks': WHATEVER THE INPUT: true; the input reads as it did. -/
def ecdsaPacksSpec : ChangeSpec := { name := "ecdsaPacks", fn := fun _ => fun
  | [d1, d2] => { results := [.lit (.bool true)], args := [d1, d2] }
  | _ => none }
def ecdsaPacksRow : OpenClaim := { program := "ytmbcolalfgepiaadoor", sum := "d412771154fcf6c223a93e4a99a8457e3dfecf71e36d8c6fe8f48958e2da3f28", func := "waybill/waybilllaw06.EcdsaPacks", spec := "ecdsaPacks", inPlace := ["math/bits.Sub64"], recurses := true, named := ["waybill/field.moduli"], apart := false, laid := [("waybill/field.moduli", laid_waybill_field_moduli)] }
def EcdsaPacksSaid : Prop := ecdsaPacksRow.holds Tryd.pinned (OpenSpec.ofChange ecdsaPacksSpec)

/-- ITS FALSE NEIGHBOUR: 'it returns false'. Refute it at one input. -/
def ecdsaPacksWrong : ChangeSpec := { name := "ecdsaPacks", fn := fun _ => fun
  | [d1, d2] => { results := [.lit (.bool false)], args := [d1, d2] }
  | _ => none }
def EcdsaPacksWrongFalsely : Prop := ecdsaPacksRow.holds Tryd.pinned (OpenSpec.ofChange ecdsaPacksWrong)

/-- 'waybilllaw04.FieldLaws': WHATEVER THE INPUT: true; the input reads as it did. -/
def fieldLawsSpec : ChangeSpec := { name := "fieldLaws", fn := fun _ => fun
  | [d1, d2] => { results := [.lit (.bool true)], args := [d1, d2] }
  | _ => none }
def fieldLawsRow : OpenClaim := { program := "ytmbcolalfgepiaadoor", sum := "d412771154fcf6c223a93e4a99a8457e3dfecf71e36d8c6fe8f48958e2da3f28", func := "waybill/waybilllaw04.FieldLaws", spec := "fieldLaws", inPlace := ["math/bits.Add64", "math/bits.Sub64"], named := ["waybill/field.moduli"], apart := false, laid := [("waybill/field.moduli", laid_waybill_field_moduli)] }
def FieldLawsSaid : Prop := fieldLawsRow.holds Tryd.pinned (OpenSpec.ofChange fieldLawsSpec)

/-- ITS FALSE NEIGHBOUR: 'it returns false'. Refute it at one input. -/
def fieldLawsWrong : ChangeSpec := { name := "fieldLaws", fn := fun _ => fun
  | [d1, d2] => { results := [.lit (.bool false)], args := [d1, d2] }
  | _ => none }
def FieldLawsWrongFalsely : Prop := fieldLawsRow.holds Tryd.pinned (OpenSpec.ofChange fieldLawsWrong)

/-- 'waybilllaw04.FieldPowers': WHATEVER THE INPUT: true; the input reads as it did. -/
def fieldPowersSpec : ChangeSpec := { name := "fieldPowers", fn := fun _ => fun
  | [d1, d2, d3] => { results := [.lit (.bool true)], args := [d1, d2, d3] }
  | _ => none }
def fieldPowersRow : OpenClaim := { program := "ytmbcolalfgepiaadoor", sum := "d412771154fcf6c223a93e4a99a8457e3dfecf71e36d8c6fe8f48958e2da3f28", func := "waybill/waybilllaw04.FieldPowers", spec := "fieldPowers", inPlace := ["math/bits.Add64", "math/bits.Sub64"], named := ["waybill/field.moduli"], apart := false, laid := [("waybill/field.moduli", laid_waybill_field_moduli)] }
def FieldPowersSaid : Prop := fieldPowersRow.holds Tryd.pinned (OpenSpec.ofChange fieldPowersSpec)

/-- ITS FALSE NEIGHBOUR: 'it returns false'. Refute it at one input. -/
def fieldPowersWrong : ChangeSpec := { name := "fieldPowers", fn := fun _ => fun
  | [d1, d2, d3] => { results := [.lit (.bool false)], args := [d1, d2, d3] }
  | _ => none }
def FieldPowersWrongFalsely : Prop := fieldPowersRow.holds Tryd.pinned (OpenSpec.ofChange fieldPowersWrong)

/-- 'waybilllaw04.FieldInverses': WHATEVER THE INPUT: true; the input reads as it did. -/
def fieldInversesSpec : ChangeSpec := { name := "fieldInverses", fn := fun _ => fun
  | [d1, d2] => { results := [.lit (.bool true)], args := [d1, d2] }
  | _ => none }
def fieldInversesRow : OpenClaim := { program := "ytmbcolalfgepiaadoor", sum := "d412771154fcf6c223a93e4a99a8457e3dfecf71e36d8c6fe8f48958e2da3f28", func := "waybill/waybilllaw04.FieldInverses", spec := "fieldInverses", inPlace := ["math/bits.Add64", "math/bits.Sub64"], named := ["waybill/field.moduli"], apart := false, laid := [("waybill/field.moduli", laid_waybill_field_moduli)] }
def FieldInversesSaid : Prop := fieldInversesRow.holds Tryd.pinned (OpenSpec.ofChange fieldInversesSpec)

/-- ITS FALSE NEIGHBOUR: 'it returns false'. Refute it at one input. -/
def fieldInversesWrong : ChangeSpec := { name := "fieldInverses", fn := fun _ => fun
  | [d1, d2] => { results := [.lit (.bool false)], args := [d1, d2] }
  | _ => none }
def FieldInversesWrongFalsely : Prop := fieldInversesRow.holds Tryd.pinned (OpenSpec.ofChange fieldInversesWrong)

/-- 'waybilllaw04.FieldBatch': WHATEVER THE INPUT: true; the input reads as it did. -/
def fieldBatchSpec : ChangeSpec := { name := "fieldBatch", fn := fun _ => fun
  | [d1, d2] => { results := [.lit (.bool true)], args := [d1, d2] }
  | _ => none }
def fieldBatchRow : OpenClaim := { program := "ytmbcolalfgepiaadoor", sum := "d412771154fcf6c223a93e4a99a8457e3dfecf71e36d8c6fe8f48958e2da3f28", func := "waybill/waybilllaw04.FieldBatch", spec := "fieldBatch", inPlace := ["math/bits.Add64", "math/bits.Sub64"], named := ["waybill/field.moduli"], apart := false, laid := [("waybill/field.moduli", laid_waybill_field_moduli)] }
def FieldBatchSaid : Prop := fieldBatchRow.holds Tryd.pinned (OpenSpec.ofChange fieldBatchSpec)

/-- ITS FALSE NEIGHBOUR: 'it returns false'. Refute it at one input. -/
def fieldBatchWrong : ChangeSpec := { name := "fieldBatch", fn := fun _ => fun
  | [d1, d2] => { results := [.lit (.bool false)], args := [d1, d2] }
  | _ => none }
def FieldBatchWrongFalsely : Prop := fieldBatchRow.holds Tryd.pinned (OpenSpec.ofChange fieldBatchWrong)

/-- 'waybilllaw04.FieldRoots': WHATEVER THE INPUT: true; the input reads as it did. -/
def fieldRootsSpec : ChangeSpec := { name := "fieldRoots", fn := fun _ => fun
  | [d] => { results := [.lit (.bool true)], args := [d] }
  | _ => none }
def fieldRootsRow : OpenClaim := { program := "ytmbcolalfgepiaadoor", sum := "d412771154fcf6c223a93e4a99a8457e3dfecf71e36d8c6fe8f48958e2da3f28", func := "waybill/waybilllaw04.FieldRoots", spec := "fieldRoots", inPlace := ["math/bits.Add64", "math/bits.Sub64"], recurses := true, named := ["waybill/field.moduli"], apart := false, laid := [("waybill/field.moduli", laid_waybill_field_moduli)] }
def FieldRootsSaid : Prop := fieldRootsRow.holds Tryd.pinned (OpenSpec.ofChange fieldRootsSpec)

/-- ITS FALSE NEIGHBOUR: 'it returns false'. Refute it at one input. -/
def fieldRootsWrong : ChangeSpec := { name := "fieldRoots", fn := fun _ => fun
  | [d] => { results := [.lit (.bool false)], args := [d] }
  | _ => none }
def FieldRootsWrongFalsely : Prop := fieldRootsRow.holds Tryd.pinned (OpenSpec.ofChange fieldRootsWrong)

/-- 'waybilllaw04.FieldWhole': WHATEVER THE INPUT: true; the input reads as it did. -/
def fieldWholeSpec : ChangeSpec := { name := "fieldWhole", fn := fun _ => fun
  | [d1, d2, d3] => { results := [.lit (.bool true)], args := [d1, d2, d3] }
  | _ => none }
def fieldWholeRow : OpenClaim := { program := "ytmbcolalfgepiaadoor", sum := "d412771154fcf6c223a93e4a99a8457e3dfecf71e36d8c6fe8f48958e2da3f28", func := "waybill/waybilllaw04.FieldWhole", spec := "fieldWhole", inPlace := ["math/bits.Add64", "math/bits.Sub64"], recurses := true, named := ["waybill/field.moduli"], apart := false, laid := [("waybill/field.moduli", laid_waybill_field_moduli)] }
def FieldWholeSaid : Prop := fieldWholeRow.holds Tryd.pinned (OpenSpec.ofChange fieldWholeSpec)

/-- ITS FALSE NEIGHBOUR: 'it returns false'. Refute it at one input. -/
def fieldWholeWrong : ChangeSpec := { name := "fieldWhole", fn := fun _ => fun
  | [d1, d2, d3] => { results := [.lit (.bool false)], args := [d1, d2, d3] }
  | _ => none }
def FieldWholeWrongFalsely : Prop := fieldWholeRow.holds Tryd.pinned (OpenSpec.ofChange fieldWholeWrong)

/-- 'waybilllaw04.FieldInverts': WHATEVER THE INPUT: true; the input reads as it did. -/
def fieldInvertsSpec : ChangeSpec := { name := "fieldInverts", fn := fun _ => fun
  | [d1, d2, d3] => { results := [.lit (.bool true)], args := [d1, d2, d3] }
  | _ => none }
def fieldInvertsRow : OpenClaim := { program := "ytmbcolalfgepiaadoor", sum := "d412771154fcf6c223a93e4a99a8457e3dfecf71e36d8c6fe8f48958e2da3f28", func := "waybill/waybilllaw04.FieldInverts", spec := "fieldInverts", inPlace := ["math/bits.Add64", "math/bits.Sub64"], recurses := true, named := ["waybill/field.moduli"], apart := false, laid := [("waybill/field.moduli", laid_waybill_field_moduli)] }
def FieldInvertsSaid : Prop := fieldInvertsRow.holds Tryd.pinned (OpenSpec.ofChange fieldInvertsSpec)

/-- ITS FALSE NEIGHBOUR: 'it returns false'. Refute it at one input. -/
def fieldInvertsWrong : ChangeSpec := { name := "fieldInverts", fn := fun _ => fun
  | [d1, d2, d3] => { results := [.lit (.bool false)], args := [d1, d2, d3] }
  | _ => none }
def FieldInvertsWrongFalsely : Prop := fieldInvertsRow.holds Tryd.pinned (OpenSpec.ofChange fieldInvertsWrong)

/-- 'waybilllaw04.FieldSquares': WHATEVER THE INPUT: true; the input reads as it did. -/
def fieldSquaresSpec : ChangeSpec := { name := "fieldSquares", fn := fun _ => fun
  | [d1, d2] => { results := [.lit (.bool true)], args := [d1, d2] }
  | _ => none }
def fieldSquaresRow : OpenClaim := { program := "ytmbcolalfgepiaadoor", sum := "d412771154fcf6c223a93e4a99a8457e3dfecf71e36d8c6fe8f48958e2da3f28", func := "waybill/waybilllaw04.FieldSquares", spec := "fieldSquares", inPlace := ["math/bits.Add64", "math/bits.Sub64"], recurses := true, named := ["waybill/field.moduli"], apart := false, laid := [("waybill/field.moduli", laid_waybill_field_moduli)] }
def FieldSquaresSaid : Prop := fieldSquaresRow.holds Tryd.pinned (OpenSpec.ofChange fieldSquaresSpec)

/-- ITS FALSE NEIGHBOUR: 'it returns false'. Refute it at one input. -/
def fieldSquaresWrong : ChangeSpec := { name := "fieldSquares", fn := fun _ => fun
  | [d1, d2] => { results := [.lit (.bool false)], args := [d1, d2] }
  | _ => none }
def FieldSquaresWrongFalsely : Prop := fieldSquaresRow.holds Tryd.pinned (OpenSpec.ofChange fieldSquaresWrong)

/- THE SECOND FORM. 'bulk': how many values and letters a reading holds, each counted each time it is reached (what is shared counts as often as it is met; a slice's spare places count too). A statement '..UptoSaid' is the law's where the arguments, and the package variables that the reading takes, are together of bulk at most 1048576: NARROWER than '..Said'. Prove '..Said' where nothing that the law and all that it calls make is longer than what came in: it says more and counts as full. Else prove '..UptoSaid'. A law counts once. -/
mutual
def uptoBulk {H : Type} : DataW H → Nat
  | .lit (.string bytes) => bytes.length + 1
  | .lit _ => 1
  | .nil => 1
  | .ptr d => uptoBulk d + 1
  | .slice elems spare => uptoBulkAll elems + uptoBulkAll spare + 1
  | .agg parts => uptoBulkAll parts + 1
  | .iface _ d => uptoBulk d + 1
  | .map entries => uptoBulkEntries entries + 1
  | .held _ => 1
def uptoBulkAll {H : Type} : List (DataW H) → Nat
  | [] => 0
  | d :: r => uptoBulk d + uptoBulkAll r
def uptoBulkEntries {H : Type} : List (Lit × DataW H) → Nat
  | [] => 0
  | x :: r => uptoBulkEntry x + uptoBulkEntries r
def uptoBulkEntry {H : Type} : Lit × DataW H → Nat
  | (.string bytes, d) => bytes.length + uptoBulk d + 1
  | (_, d) => uptoBulk d + 1
 end
def uptoSmall : (H : Type) → List (DataW H) → Bool := fun _ ds => decide (uptoBulkAll ds ≤ 1048576)
def OpenSpec.upto (s : _root_.Go.ChangeSpec) : _root_.Go.OpenSpec := { _root_.Go.OpenSpec.ofChange s with cond := some uptoSmall }

/-- 'waybilllaw06.EcdsaChecks', WHERE WHAT IT READS IS OF BULK AT MOST 1048576: true; the input reads as it did. -/
def ecdsaChecksUptoRow : OpenClaim := { program := "ytmbcolalfgepiaadoor", sum := "d412771154fcf6c223a93e4a99a8457e3dfecf71e36d8c6fe8f48958e2da3f28", func := "waybill/waybilllaw06.EcdsaChecks", spec := "ecdsaChecks", inPlace := ["math/bits.Sub64"], recurses := true, named := ["waybill/field.moduli"], apart := false, laid := [("waybill/field.moduli", laid_waybill_field_moduli)], narrowed := true }
def EcdsaChecksUptoSaid : Prop := ecdsaChecksUptoRow.holds Tryd.pinned (OpenSpec.upto ecdsaChecksSpec)

/-- 'waybilllaw04.FieldProducts', WHERE WHAT IT READS IS OF BULK AT MOST 1048576: true; the input reads as it did. -/
def fieldProductsUptoRow : OpenClaim := { program := "ytmbcolalfgepiaadoor", sum := "d412771154fcf6c223a93e4a99a8457e3dfecf71e36d8c6fe8f48958e2da3f28", func := "waybill/waybilllaw04.FieldProducts", spec := "fieldProducts", inPlace := ["math/bits.Add64", "math/bits.Sub64"], named := ["waybill/field.moduli"], apart := false, laid := [("waybill/field.moduli", laid_waybill_field_moduli)], narrowed := true }
def FieldProductsUptoSaid : Prop := fieldProductsUptoRow.holds Tryd.pinned (OpenSpec.upto fieldProductsSpec)

/-- 'waybilllaw04.FieldSums', WHERE WHAT IT READS IS OF BULK AT MOST 1048576: true; the input reads as it did. -/
def fieldSumsUptoRow : OpenClaim := { program := "ytmbcolalfgepiaadoor", sum := "d412771154fcf6c223a93e4a99a8457e3dfecf71e36d8c6fe8f48958e2da3f28", func := "waybill/waybilllaw04.FieldSums", spec := "fieldSums", inPlace := ["math/bits.Add64", "math/bits.Sub64"], named := ["waybill/field.moduli"], apart := false, laid := [("waybill/field.moduli", laid_waybill_field_moduli)], narrowed := true }
def FieldSumsUptoSaid : Prop := fieldSumsUptoRow.holds Tryd.pinned (OpenSpec.upto fieldSumsSpec)

/-- 'waybilllaw06.EcdsaPacks', WHERE WHAT IT READS IS OF BULK AT MOST 1048576: true; the input reads as it did. -/
def ecdsaPacksUptoRow : OpenClaim := { program := "ytmbcolalfgepiaadoor", sum := "d412771154fcf6c223a93e4a99a8457e3dfecf71e36d8c6fe8f48958e2da3f28", func := "waybill/waybilllaw06.EcdsaPacks", spec := "ecdsaPacks", inPlace := ["math/bits.Sub64"], recurses := true, named := ["waybill/field.moduli"], apart := false, laid := [("waybill/field.moduli", laid_waybill_field_moduli)], narrowed := true }
def EcdsaPacksUptoSaid : Prop := ecdsaPacksUptoRow.holds Tryd.pinned (OpenSpec.upto ecdsaPacksSpec)

/-- 'waybilllaw04.FieldLaws', WHERE WHAT IT READS IS OF BULK AT MOST 1048576: true; the input reads as it did. -/
def fieldLawsUptoRow : OpenClaim := { program := "ytmbcolalfgepiaadoor", sum := "d412771154fcf6c223a93e4a99a8457e3dfecf71e36d8c6fe8f48958e2da3f28", func := "waybill/waybilllaw04.FieldLaws", spec := "fieldLaws", inPlace := ["math/bits.Add64", "math/bits.Sub64"], named := ["waybill/field.moduli"], apart := false, laid := [("waybill/field.moduli", laid_waybill_field_moduli)], narrowed := true }
def FieldLawsUptoSaid : Prop := fieldLawsUptoRow.holds Tryd.pinned (OpenSpec.upto fieldLawsSpec)

/-- 'waybilllaw04.FieldPowers', WHERE WHAT IT READS IS OF BULK AT MOST 1048576: true; the input reads as it did. -/
def fieldPowersUptoRow : OpenClaim := { program := "ytmbcolalfgepiaadoor", sum := "d412771154fcf6c223a93e4a99a8457e3dfecf71e36d8c6fe8f48958e2da3f28", func := "waybill/waybilllaw04.FieldPowers", spec := "fieldPowers", inPlace := ["math/bits.Add64", "math/bits.Sub64"], named := ["waybill/field.moduli"], apart := false, laid := [("waybill/field.moduli", laid_waybill_field_moduli)], narrowed := true }
def FieldPowersUptoSaid : Prop := fieldPowersUptoRow.holds Tryd.pinned (OpenSpec.upto fieldPowersSpec)

/-- 'waybilllaw04.FieldInverses', WHERE WHAT IT READS IS OF BULK AT MOST 1048576: true; the input reads as it did. -/
def fieldInversesUptoRow : OpenClaim := { program := "ytmbcolalfgepiaadoor", sum := "d412771154fcf6c223a93e4a99a8457e3dfecf71e36d8c6fe8f48958e2da3f28", func := "waybill/waybilllaw04.FieldInverses", spec := "fieldInverses", inPlace := ["math/bits.Add64", "math/bits.Sub64"], named := ["waybill/field.moduli"], apart := false, laid := [("waybill/field.moduli", laid_waybill_field_moduli)], narrowed := true }
def FieldInversesUptoSaid : Prop := fieldInversesUptoRow.holds Tryd.pinned (OpenSpec.upto fieldInversesSpec)

/-- 'waybilllaw04.FieldBatch', WHERE WHAT IT READS IS OF BULK AT MOST 1048576: true; the input reads as it did. -/
def fieldBatchUptoRow : OpenClaim := { program := "ytmbcolalfgepiaadoor", sum := "d412771154fcf6c223a93e4a99a8457e3dfecf71e36d8c6fe8f48958e2da3f28", func := "waybill/waybilllaw04.FieldBatch", spec := "fieldBatch", inPlace := ["math/bits.Add64", "math/bits.Sub64"], named := ["waybill/field.moduli"], apart := false, laid := [("waybill/field.moduli", laid_waybill_field_moduli)], narrowed := true }
def FieldBatchUptoSaid : Prop := fieldBatchUptoRow.holds Tryd.pinned (OpenSpec.upto fieldBatchSpec)

/-- 'waybilllaw04.FieldRoots', WHERE WHAT IT READS IS OF BULK AT MOST 1048576: true; the input reads as it did. -/
def fieldRootsUptoRow : OpenClaim := { program := "ytmbcolalfgepiaadoor", sum := "d412771154fcf6c223a93e4a99a8457e3dfecf71e36d8c6fe8f48958e2da3f28", func := "waybill/waybilllaw04.FieldRoots", spec := "fieldRoots", inPlace := ["math/bits.Add64", "math/bits.Sub64"], recurses := true, named := ["waybill/field.moduli"], apart := false, laid := [("waybill/field.moduli", laid_waybill_field_moduli)], narrowed := true }
def FieldRootsUptoSaid : Prop := fieldRootsUptoRow.holds Tryd.pinned (OpenSpec.upto fieldRootsSpec)

/-- 'waybilllaw04.FieldWhole', WHERE WHAT IT READS IS OF BULK AT MOST 1048576: true; the input reads as it did. -/
def fieldWholeUptoRow : OpenClaim := { program := "ytmbcolalfgepiaadoor", sum := "d412771154fcf6c223a93e4a99a8457e3dfecf71e36d8c6fe8f48958e2da3f28", func := "waybill/waybilllaw04.FieldWhole", spec := "fieldWhole", inPlace := ["math/bits.Add64", "math/bits.Sub64"], recurses := true, named := ["waybill/field.moduli"], apart := false, laid := [("waybill/field.moduli", laid_waybill_field_moduli)], narrowed := true }
def FieldWholeUptoSaid : Prop := fieldWholeUptoRow.holds Tryd.pinned (OpenSpec.upto fieldWholeSpec)

/-- 'waybilllaw04.FieldInverts', WHERE WHAT IT READS IS OF BULK AT MOST 1048576: true; the input reads as it did. -/
def fieldInvertsUptoRow : OpenClaim := { program := "ytmbcolalfgepiaadoor", sum := "d412771154fcf6c223a93e4a99a8457e3dfecf71e36d8c6fe8f48958e2da3f28", func := "waybill/waybilllaw04.FieldInverts", spec := "fieldInverts", inPlace := ["math/bits.Add64", "math/bits.Sub64"], recurses := true, named := ["waybill/field.moduli"], apart := false, laid := [("waybill/field.moduli", laid_waybill_field_moduli)], narrowed := true }
def FieldInvertsUptoSaid : Prop := fieldInvertsUptoRow.holds Tryd.pinned (OpenSpec.upto fieldInvertsSpec)

/-- 'waybilllaw04.FieldSquares', WHERE WHAT IT READS IS OF BULK AT MOST 1048576: true; the input reads as it did. -/
def fieldSquaresUptoRow : OpenClaim := { program := "ytmbcolalfgepiaadoor", sum := "d412771154fcf6c223a93e4a99a8457e3dfecf71e36d8c6fe8f48958e2da3f28", func := "waybill/waybilllaw04.FieldSquares", spec := "fieldSquares", inPlace := ["math/bits.Add64", "math/bits.Sub64"], recurses := true, named := ["waybill/field.moduli"], apart := false, laid := [("waybill/field.moduli", laid_waybill_field_moduli)], narrowed := true }
def FieldSquaresUptoSaid : Prop := fieldSquaresUptoRow.holds Tryd.pinned (OpenSpec.upto fieldSquaresSpec)

end Rows
end Go.Proofs.YtmbcolalfgepiaaDoor
