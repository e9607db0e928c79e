/-
  NARROWER THAN 'FOR EVERY INPUT', by the rows' own cells (each row's printed sentence says how): EcdsaPacks: laid · EcdsaBytes: laid · CurveBytes: laid · FieldInverses: laid · EcdsaNonces: laid · EcdsaGenuine: laid.
  DERIVED. THE GIVEN ROWS OF THIS SEAT. 6 by the template 'for every input the law returns true; each argument reads behind the call as it read before'; 0 by the template 'total and deterministic' (their statements: YtfappeeggccicaaDoorTotals.lean).
  GIVEN WITH THE SEED: the statements are not yours to turn. If you find one false, say at which input.
  Laid BY PROGRAM, IN A SANDBOX (cutbox-rows.mjs): the forced cells as the released guide's own fill.sh prints them over the translation fb3baa0bf7533f33… (all of the seat's roots in one cut). By AI agents, Wed Nov 11 2026. No macro, syntax, notation, axiom, sorry.
-/
import Derived.Test.YtfappeeggccicaaDoorChecked
import GoSem.Claim
import GoSem.ClaimJoined
import GoSem.ClaimMapViews
import Derived.JoinedTies
import Derived.KernelRfl
namespace Go.Proofs.YtfappeeggccicaaDoor
/- THE CELL 'sum', in the pinned program and in every row, IS THE sha256 OF THE DUMP (.gsa) THAT YtfappeeggccicaaDoorProg.lean LOADS. Nothing in Lean hashes anything: it is a label: what it is worth is what the hold of that sum in a sandbox is worth. -/
noncomputable def Tryd.pinned : Pinned := { name := "ytfappeeggccicaadoor", sum := "fb3baa0bf7533f3354321df064619ac56cd34f0626c9b0658fcaba5dc61be0b0", checked := Tryd.checked }
namespace Rows
def none {H : Type} : Left H := { results := [], args := [] }

/- WHAT THE LISTED PACKAGE-LEVEL VARIABLES READ AS WHEN THE CALL BEGINS. Each datum BY PROGRAM (the guide's laid-datum.mjs) off the statement by which the dump's own 'gosem.cut.vars' lays the variable. In a bare row this is a premise. The card (YtfappeeggccicaaDoorCards.lean) ties it to the program's text. -/
def laid_waybill_field_moduli {H : Type} : DataW H := .agg [.agg [.agg [.lit (.int .u64 18446744069414583343), .lit (.int .u64 18446744073709551615), .lit (.int .u64 18446744073709551615), .lit (.int .u64 18446744073709551615)], .agg [.lit (.int .u64 4294968273), .lit (.int .u64 0), .lit (.int .u64 0), .lit (.int .u64 0)]], .agg [.agg [.lit (.int .u64 13822214165235122497), .lit (.int .u64 13451932020343611451), .lit (.int .u64 18446744073709551614), .lit (.int .u64 18446744073709551615)], .agg [.lit (.int .u64 4624529908474429119), .lit (.int .u64 4994812053365940164), .lit (.int .u64 1), .lit (.int .u64 0)]]]
def laid_waybill_sha_constants {H : Type} : DataW H := .agg [.lit (.int .u32 1116352408), .lit (.int .u32 1899447441), .lit (.int .u32 3049323471), .lit (.int .u32 3921009573), .lit (.int .u32 961987163), .lit (.int .u32 1508970993), .lit (.int .u32 2453635748), .lit (.int .u32 2870763221), .lit (.int .u32 3624381080), .lit (.int .u32 310598401), .lit (.int .u32 607225278), .lit (.int .u32 1426881987), .lit (.int .u32 1925078388), .lit (.int .u32 2162078206), .lit (.int .u32 2614888103), .lit (.int .u32 3248222580), .lit (.int .u32 3835390401), .lit (.int .u32 4022224774), .lit (.int .u32 264347078), .lit (.int .u32 604807628), .lit (.int .u32 770255983), .lit (.int .u32 1249150122), .lit (.int .u32 1555081692), .lit (.int .u32 1996064986), .lit (.int .u32 2554220882), .lit (.int .u32 2821834349), .lit (.int .u32 2952996808), .lit (.int .u32 3210313671), .lit (.int .u32 3336571891), .lit (.int .u32 3584528711), .lit (.int .u32 113926993), .lit (.int .u32 338241895), .lit (.int .u32 666307205), .lit (.int .u32 773529912), .lit (.int .u32 1294757372), .lit (.int .u32 1396182291), .lit (.int .u32 1695183700), .lit (.int .u32 1986661051), .lit (.int .u32 2177026350), .lit (.int .u32 2456956037), .lit (.int .u32 2730485921), .lit (.int .u32 2820302411), .lit (.int .u32 3259730800), .lit (.int .u32 3345764771), .lit (.int .u32 3516065817), .lit (.int .u32 3600352804), .lit (.int .u32 4094571909), .lit (.int .u32 275423344), .lit (.int .u32 430227734), .lit (.int .u32 506948616), .lit (.int .u32 659060556), .lit (.int .u32 883997877), .lit (.int .u32 958139571), .lit (.int .u32 1322822218), .lit (.int .u32 1537002063), .lit (.int .u32 1747873779), .lit (.int .u32 1955562222), .lit (.int .u32 2024104815), .lit (.int .u32 2227730452), .lit (.int .u32 2361852424), .lit (.int .u32 2428436474), .lit (.int .u32 2756734187), .lit (.int .u32 3204031479), .lit (.int .u32 3329325298)]
def laid_waybill_sha_start {H : Type} : DataW H := .agg [.lit (.int .u32 1779033703), .lit (.int .u32 3144134277), .lit (.int .u32 1013904242), .lit (.int .u32 2773480762), .lit (.int .u32 1359893119), .lit (.int .u32 2600822924), .lit (.int .u32 528734635), .lit (.int .u32 1541459225)]
def laid_waybill_curve_base {H : Type} : DataW H := .agg [.lit (.int .u64 6481385041966929816), .lit (.int .u64 188021827762530521), .lit (.int .u64 6170039885052185351), .lit (.int .u64 8772561819708210092), .lit (.int .u64 11261198710074299576), .lit (.int .u64 18237243440184513561), .lit (.int .u64 6747795201694173352), .lit (.int .u64 5204712524664259685)]

/-- 'waybilllaw06.EcdsaPacks': WHATEVER THE INPUT: true; the input reads as it did. -/
def ecdsaPacksSpec : ChangeSpec := { name := "ecdsaPacks", fn := fun _ => fun
  | [d1, d2] => { results := [.lit (.bool true)], args := [d1, d2] }
  | _ => none }
def ecdsaPacksRow : OpenClaim := { program := "ytfappeeggccicaadoor", sum := "fb3baa0bf7533f3354321df064619ac56cd34f0626c9b0658fcaba5dc61be0b0", func := "waybill/waybilllaw06.EcdsaPacks", spec := "ecdsaPacks", inPlace := ["math/bits.Sub64"], recurses := true, named := ["waybill/field.moduli"], apart := false, laid := [("waybill/field.moduli", laid_waybill_field_moduli)] }
def EcdsaPacksSaid : Prop := ecdsaPacksRow.holds Tryd.pinned (OpenSpec.ofChange ecdsaPacksSpec)

/-- ITS FALSE NEIGHBOUR: 'it returns false'. Refute it at one input. -/
def ecdsaPacksWrong : ChangeSpec := { name := "ecdsaPacks", fn := fun _ => fun
  | [d1, d2] => { results := [.lit (.bool false)], args := [d1, d2] }
  | _ => none }
def EcdsaPacksWrongFalsely : Prop := ecdsaPacksRow.holds Tryd.pinned (OpenSpec.ofChange ecdsaPacksWrong)

/-- 'waybilllaw06.EcdsaBytes': WHATEVER THE INPUT: true; the input reads as it did. -/
def ecdsaBytesSpec : ChangeSpec := { name := "ecdsaBytes", fn := fun _ => fun
  | [d] => { results := [.lit (.bool true)], args := [d] }
  | _ => none }
def ecdsaBytesRow : OpenClaim := { program := "ytfappeeggccicaadoor", sum := "fb3baa0bf7533f3354321df064619ac56cd34f0626c9b0658fcaba5dc61be0b0", func := "waybill/waybilllaw06.EcdsaBytes", spec := "ecdsaBytes", inPlace := ["math/bits.Sub64"], recurses := true, named := ["waybill/field.moduli"], apart := false, laid := [("waybill/field.moduli", laid_waybill_field_moduli)] }
def EcdsaBytesSaid : Prop := ecdsaBytesRow.holds Tryd.pinned (OpenSpec.ofChange ecdsaBytesSpec)

/-- ITS FALSE NEIGHBOUR: 'it returns false'. Refute it at one input. -/
def ecdsaBytesWrong : ChangeSpec := { name := "ecdsaBytes", fn := fun _ => fun
  | [d] => { results := [.lit (.bool false)], args := [d] }
  | _ => none }
def EcdsaBytesWrongFalsely : Prop := ecdsaBytesRow.holds Tryd.pinned (OpenSpec.ofChange ecdsaBytesWrong)

/-- 'waybilllaw05.CurveBytes': WHATEVER THE INPUT: true; the input reads as it did. -/
def curveBytesSpec : ChangeSpec := { name := "curveBytes", fn := fun _ => fun
  | [d] => { results := [.lit (.bool true)], args := [d] }
  | _ => none }
def curveBytesRow : OpenClaim := { program := "ytfappeeggccicaadoor", sum := "fb3baa0bf7533f3354321df064619ac56cd34f0626c9b0658fcaba5dc61be0b0", func := "waybill/waybilllaw05.CurveBytes", spec := "curveBytes", inPlace := ["math/bits.Sub64", "math/bits.Add64"], named := ["waybill/field.moduli"], apart := false, laid := [("waybill/field.moduli", laid_waybill_field_moduli)] }
def CurveBytesSaid : Prop := curveBytesRow.holds Tryd.pinned (OpenSpec.ofChange curveBytesSpec)

/-- ITS FALSE NEIGHBOUR: 'it returns false'. Refute it at one input. -/
def curveBytesWrong : ChangeSpec := { name := "curveBytes", fn := fun _ => fun
  | [d] => { results := [.lit (.bool false)], args := [d] }
  | _ => none }
def CurveBytesWrongFalsely : Prop := curveBytesRow.holds Tryd.pinned (OpenSpec.ofChange curveBytesWrong)

/-- 'waybilllaw04.FieldInverses': WHATEVER THE INPUT: true; the input reads as it did. -/
def fieldInversesSpec : ChangeSpec := { name := "fieldInverses", fn := fun _ => fun
  | [d1, d2] => { results := [.lit (.bool true)], args := [d1, d2] }
  | _ => none }
def fieldInversesRow : OpenClaim := { program := "ytfappeeggccicaadoor", sum := "fb3baa0bf7533f3354321df064619ac56cd34f0626c9b0658fcaba5dc61be0b0", func := "waybill/waybilllaw04.FieldInverses", spec := "fieldInverses", inPlace := ["math/bits.Add64", "math/bits.Sub64"], named := ["waybill/field.moduli"], apart := false, laid := [("waybill/field.moduli", laid_waybill_field_moduli)] }
def FieldInversesSaid : Prop := fieldInversesRow.holds Tryd.pinned (OpenSpec.ofChange fieldInversesSpec)

/-- ITS FALSE NEIGHBOUR: 'it returns false'. Refute it at one input. -/
def fieldInversesWrong : ChangeSpec := { name := "fieldInverses", fn := fun _ => fun
  | [d1, d2] => { results := [.lit (.bool false)], args := [d1, d2] }
  | _ => none }
def FieldInversesWrongFalsely : Prop := fieldInversesRow.holds Tryd.pinned (OpenSpec.ofChange fieldInversesWrong)

/-- 'waybilllaw06.EcdsaNonces': WHATEVER THE INPUT: true; the input reads as it did. -/
def ecdsaNoncesSpec : ChangeSpec := { name := "ecdsaNonces", fn := fun _ => fun
  | [d1, d2, d3] => { results := [.lit (.bool true)], args := [d1, d2, d3] }
  | _ => none }
def ecdsaNoncesRow : OpenClaim := { program := "ytfappeeggccicaadoor", sum := "fb3baa0bf7533f3354321df064619ac56cd34f0626c9b0658fcaba5dc61be0b0", func := "waybill/waybilllaw06.EcdsaNonces", spec := "ecdsaNonces", inPlace := ["math/bits.Sub64", "math/bits.Add64"], unfollowed := true, recurses := true, named := ["waybill/field.moduli", "waybill/sha.start", "waybill/sha.constants"], apart := false, laid := [("waybill/sha.constants", laid_waybill_sha_constants), ("waybill/sha.start", laid_waybill_sha_start), ("waybill/field.moduli", laid_waybill_field_moduli)] }
def EcdsaNoncesSaid : Prop := ecdsaNoncesRow.holds Tryd.pinned (OpenSpec.ofChange ecdsaNoncesSpec)

/-- ITS FALSE NEIGHBOUR: 'it returns false'. Refute it at one input. -/
def ecdsaNoncesWrong : ChangeSpec := { name := "ecdsaNonces", fn := fun _ => fun
  | [d1, d2, d3] => { results := [.lit (.bool false)], args := [d1, d2, d3] }
  | _ => none }
def EcdsaNoncesWrongFalsely : Prop := ecdsaNoncesRow.holds Tryd.pinned (OpenSpec.ofChange ecdsaNoncesWrong)

/-- 'waybilllaw06.EcdsaGenuine': WHATEVER THE INPUT: true; the input reads as it did. -/
def ecdsaGenuineSpec : ChangeSpec := { name := "ecdsaGenuine", fn := fun _ => fun
  | [d1, d2] => { results := [.lit (.bool true)], args := [d1, d2] }
  | _ => none }
def ecdsaGenuineRow : OpenClaim := { program := "ytfappeeggccicaadoor", sum := "fb3baa0bf7533f3354321df064619ac56cd34f0626c9b0658fcaba5dc61be0b0", func := "waybill/waybilllaw06.EcdsaGenuine", spec := "ecdsaGenuine", inPlace := ["math/bits.Sub64", "math/bits.Add64"], unfollowed := true, recurses := true, named := ["waybill/field.moduli", "waybill/sha.start", "waybill/sha.constants", "waybill/curve.base"], apart := false, laid := [("waybill/sha.constants", laid_waybill_sha_constants), ("waybill/sha.start", laid_waybill_sha_start), ("waybill/field.moduli", laid_waybill_field_moduli), ("waybill/curve.base", laid_waybill_curve_base)] }
def EcdsaGenuineSaid : Prop := ecdsaGenuineRow.holds Tryd.pinned (OpenSpec.ofChange ecdsaGenuineSpec)

/-- ITS FALSE NEIGHBOUR: 'it returns false'. Refute it at one input. -/
def ecdsaGenuineWrong : ChangeSpec := { name := "ecdsaGenuine", fn := fun _ => fun
  | [d1, d2] => { results := [.lit (.bool false)], args := [d1, d2] }
  | _ => none }
def EcdsaGenuineWrongFalsely : Prop := ecdsaGenuineRow.holds Tryd.pinned (OpenSpec.ofChange ecdsaGenuineWrong)

/- THE SECOND FORM. 'bulk': how many values and letters a reading holds, each counted each time it is reached (what is shared counts as often as it is met; a slice's spare places count too). A statement '..UptoSaid' is the law's where the arguments, and the package variables that the reading takes, are together of bulk at most 1048576: NARROWER than '..Said'. Prove '..Said' where nothing that the law and all that it calls make is longer than what came in: it says more and counts as full. Else prove '..UptoSaid'. A law counts once. -/
mutual
def uptoBulk {H : Type} : DataW H → Nat
  | .lit (.string bytes) => bytes.length + 1
  | .lit _ => 1
  | .nil => 1
  | .ptr d => uptoBulk d + 1
  | .slice elems spare => uptoBulkAll elems + uptoBulkAll spare + 1
  | .agg parts => uptoBulkAll parts + 1
  | .iface _ d => uptoBulk d + 1
  | .map entries => uptoBulkEntries entries + 1
  | .held _ => 1
def uptoBulkAll {H : Type} : List (DataW H) → Nat
  | [] => 0
  | d :: r => uptoBulk d + uptoBulkAll r
def uptoBulkEntries {H : Type} : List (Lit × DataW H) → Nat
  | [] => 0
  | x :: r => uptoBulkEntry x + uptoBulkEntries r
def uptoBulkEntry {H : Type} : Lit × DataW H → Nat
  | (.string bytes, d) => bytes.length + uptoBulk d + 1
  | (_, d) => uptoBulk d + 1
 end
def uptoSmall : (H : Type) → List (DataW H) → Bool := fun _ ds => decide (uptoBulkAll ds ≤ 1048576)
def OpenSpec.upto (s : _root_.Go.ChangeSpec) : _root_.Go.OpenSpec := { _root_.Go.OpenSpec.ofChange s with cond := some uptoSmall }

/-- 'waybilllaw06.EcdsaPacks', WHERE WHAT IT READS IS OF BULK AT MOST 1048576: true; the input reads as it did. -/
def ecdsaPacksUptoRow : OpenClaim := { program := "ytfappeeggccicaadoor", sum := "fb3baa0bf7533f3354321df064619ac56cd34f0626c9b0658fcaba5dc61be0b0", func := "waybill/waybilllaw06.EcdsaPacks", spec := "ecdsaPacks", inPlace := ["math/bits.Sub64"], recurses := true, named := ["waybill/field.moduli"], apart := false, laid := [("waybill/field.moduli", laid_waybill_field_moduli)], narrowed := true }
def EcdsaPacksUptoSaid : Prop := ecdsaPacksUptoRow.holds Tryd.pinned (OpenSpec.upto ecdsaPacksSpec)

/-- 'waybilllaw06.EcdsaBytes', WHERE WHAT IT READS IS OF BULK AT MOST 1048576: true; the input reads as it did. -/
def ecdsaBytesUptoRow : OpenClaim := { program := "ytfappeeggccicaadoor", sum := "fb3baa0bf7533f3354321df064619ac56cd34f0626c9b0658fcaba5dc61be0b0", func := "waybill/waybilllaw06.EcdsaBytes", spec := "ecdsaBytes", inPlace := ["math/bits.Sub64"], recurses := true, named := ["waybill/field.moduli"], apart := false, laid := [("waybill/field.moduli", laid_waybill_field_moduli)], narrowed := true }
def EcdsaBytesUptoSaid : Prop := ecdsaBytesUptoRow.holds Tryd.pinned (OpenSpec.upto ecdsaBytesSpec)

/-- 'waybilllaw05.CurveBytes', WHERE WHAT IT READS IS OF BULK AT MOST 1048576: true; the input reads as it did. -/
def curveBytesUptoRow : OpenClaim := { program := "ytfappeeggccicaadoor", sum := "fb3baa0bf7533f3354321df064619ac56cd34f0626c9b0658fcaba5dc61be0b0", func := "waybill/waybilllaw05.CurveBytes", spec := "curveBytes", inPlace := ["math/bits.Sub64", "math/bits.Add64"], named := ["waybill/field.moduli"], apart := false, laid := [("waybill/field.moduli", laid_waybill_field_moduli)], narrowed := true }
def CurveBytesUptoSaid : Prop := curveBytesUptoRow.holds Tryd.pinned (OpenSpec.upto curveBytesSpec)

/-- 'waybilllaw04.FieldInverses', WHERE WHAT IT READS IS OF BULK AT MOST 1048576: true; the input reads as it did. -/
def fieldInversesUptoRow : OpenClaim := { program := "ytfappeeggccicaadoor", sum := "fb3baa0bf7533f3354321df064619ac56cd34f0626c9b0658fcaba5dc61be0b0", func := "waybill/waybilllaw04.FieldInverses", spec := "fieldInverses", inPlace := ["math/bits.Add64", "math/bits.Sub64"], named := ["waybill/field.moduli"], apart := false, laid := [("waybill/field.moduli", laid_waybill_field_moduli)], narrowed := true }
def FieldInversesUptoSaid : Prop := fieldInversesUptoRow.holds Tryd.pinned (OpenSpec.upto fieldInversesSpec)

/-- 'waybilllaw06.EcdsaNonces', WHERE WHAT IT READS IS OF BULK AT MOST 1048576: true; the input reads as it did. -/
def ecdsaNoncesUptoRow : OpenClaim := { program := "ytfappeeggccicaadoor", sum := "fb3baa0bf7533f3354321df064619ac56cd34f0626c9b0658fcaba5dc61be0b0", func := "waybill/waybilllaw06.EcdsaNonces", spec := "ecdsaNonces", inPlace := ["math/bits.Sub64", "math/bits.Add64"], unfollowed := true, recurses := true, named := ["waybill/field.moduli", "waybill/sha.start", "waybill/sha.constants"], apart := false, laid := [("waybill/sha.constants", laid_waybill_sha_constants), ("waybill/sha.start", laid_waybill_sha_start), ("waybill/field.moduli", laid_waybill_field_moduli)], narrowed := true }
def EcdsaNoncesUptoSaid : Prop := ecdsaNoncesUptoRow.holds Tryd.pinned (OpenSpec.upto ecdsaNoncesSpec)

/-- 'waybilllaw06.EcdsaGenuine', WHERE WHAT IT READS IS OF BULK AT MOST 1048576: true; the input reads as it did. -/
def ecdsaGenuineUptoRow : OpenClaim := { program := "ytfappeeggccicaadoor", sum := "fb3baa0bf7533f3354321df064619ac56cd34f0626c9b0658fcaba5dc61be0b0", func := "waybill/waybilllaw06.EcdsaGenuine", spec := "ecdsaGenuine", inPlace := ["math/bits.Sub64", "math/bits.Add64"], unfollowed := true, recurses := true, named := ["waybill/field.moduli", "waybill/sha.start", "waybill/sha.constants", "waybill/curve.base"], apart := false, laid := [("waybill/sha.constants", laid_waybill_sha_constants), ("waybill/sha.start", laid_waybill_sha_start), ("waybill/field.moduli", laid_waybill_field_moduli), ("waybill/curve.base", laid_waybill_curve_base)], narrowed := true }
def EcdsaGenuineUptoSaid : Prop := ecdsaGenuineUptoRow.holds Tryd.pinned (OpenSpec.upto ecdsaGenuineSpec)

end Rows
end Go.Proofs.YtfappeeggccicaaDoor
