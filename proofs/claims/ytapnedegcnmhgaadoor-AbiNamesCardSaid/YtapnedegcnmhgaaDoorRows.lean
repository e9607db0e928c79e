/-
  NARROWER THAN 'FOR EVERY INPUT', by the rows' own cells (each row's printed sentence says how): AbiTypes: laid · AbiChecks: loops, laid · AbiNames: laid · AbiHeads: loops, laid · AbiEncodes: loops, laid · AbiBack: loops, laid · AbiStrict: laid · AbiInvokes: loops, laid · AbiApart: loops, laid.
  DERIVED. THE GIVEN ROWS OF THIS SEAT. 9 by the template 'for every input the law returns true; each argument reads behind the call as it read before'; 0 by the template 'total and deterministic' (their statements: YtapnedegcnmhgaaDoorTotals.lean).
  GIVEN WITH THE SEED: the statements are not yours to turn. If you find one false, say at which input.
  Laid BY PROGRAM, IN A SANDBOX (cutbox-rows.mjs): the forced cells as the released guide's own fill.sh prints them over the translation 0167b3ee7292528d… (all of the seat's roots in one cut). By AI agents, Wed Nov 11 2026. No macro, syntax, notation, axiom, sorry.
-/
import Derived.Test.YtapnedegcnmhgaaDoorChecked
import GoSem.Claim
import GoSem.ClaimJoined
import GoSem.ClaimMapViews
import Derived.JoinedTies
import Derived.KernelRfl
namespace Go.Proofs.YtapnedegcnmhgaaDoor
/- THE CELL 'sum', in the pinned program and in every row, IS THE sha256 OF THE DUMP (.gsa) THAT YtapnedegcnmhgaaDoorProg.lean LOADS. Nothing in Lean hashes anything: it is a label: what it is worth is what the hold of that sum in a sandbox is worth. -/
noncomputable def Tryd.pinned : Pinned := { name := "ytapnedegcnmhgaadoor", sum := "0167b3ee7292528d0b47a69e94d45d93d9e1f9d746c7a9b9be23f17445305a08", checked := Tryd.checked }
namespace Rows
def none {H : Type} : Left H := { results := [], args := [] }

/- WHAT THE LISTED PACKAGE-LEVEL VARIABLES READ AS WHEN THE CALL BEGINS. Each datum BY PROGRAM (the guide's laid-datum.mjs) off the statement by which the dump's own 'gosem.cut.vars' lays the variable. In a bare row this is a premise. The card (YtapnedegcnmhgaaDoorCards.lean) ties it to the program's text. -/
def laid_math_bits_deBruijn32tab {H : Type} : DataW H := .agg [.lit (.int .u8 0), .lit (.int .u8 1), .lit (.int .u8 28), .lit (.int .u8 2), .lit (.int .u8 29), .lit (.int .u8 14), .lit (.int .u8 24), .lit (.int .u8 3), .lit (.int .u8 30), .lit (.int .u8 22), .lit (.int .u8 20), .lit (.int .u8 15), .lit (.int .u8 25), .lit (.int .u8 17), .lit (.int .u8 4), .lit (.int .u8 8), .lit (.int .u8 31), .lit (.int .u8 27), .lit (.int .u8 13), .lit (.int .u8 23), .lit (.int .u8 21), .lit (.int .u8 19), .lit (.int .u8 16), .lit (.int .u8 7), .lit (.int .u8 26), .lit (.int .u8 12), .lit (.int .u8 18), .lit (.int .u8 6), .lit (.int .u8 11), .lit (.int .u8 5), .lit (.int .u8 10), .lit (.int .u8 9)]
def laid_math_bits_deBruijn64tab {H : Type} : DataW H := .agg [.lit (.int .u8 0), .lit (.int .u8 1), .lit (.int .u8 56), .lit (.int .u8 2), .lit (.int .u8 57), .lit (.int .u8 49), .lit (.int .u8 28), .lit (.int .u8 3), .lit (.int .u8 61), .lit (.int .u8 58), .lit (.int .u8 42), .lit (.int .u8 50), .lit (.int .u8 38), .lit (.int .u8 29), .lit (.int .u8 17), .lit (.int .u8 4), .lit (.int .u8 62), .lit (.int .u8 47), .lit (.int .u8 59), .lit (.int .u8 36), .lit (.int .u8 45), .lit (.int .u8 43), .lit (.int .u8 51), .lit (.int .u8 22), .lit (.int .u8 53), .lit (.int .u8 39), .lit (.int .u8 33), .lit (.int .u8 30), .lit (.int .u8 24), .lit (.int .u8 18), .lit (.int .u8 12), .lit (.int .u8 5), .lit (.int .u8 63), .lit (.int .u8 55), .lit (.int .u8 48), .lit (.int .u8 27), .lit (.int .u8 60), .lit (.int .u8 41), .lit (.int .u8 37), .lit (.int .u8 16), .lit (.int .u8 46), .lit (.int .u8 35), .lit (.int .u8 44), .lit (.int .u8 21), .lit (.int .u8 52), .lit (.int .u8 32), .lit (.int .u8 23), .lit (.int .u8 11), .lit (.int .u8 54), .lit (.int .u8 26), .lit (.int .u8 40), .lit (.int .u8 15), .lit (.int .u8 34), .lit (.int .u8 20), .lit (.int .u8 31), .lit (.int .u8 10), .lit (.int .u8 25), .lit (.int .u8 14), .lit (.int .u8 19), .lit (.int .u8 9), .lit (.int .u8 13), .lit (.int .u8 8), .lit (.int .u8 7), .lit (.int .u8 6)]
def laid_internal_strconv_uint64pow10 {H : Type} : DataW H := .agg [.lit (.int .u64 1), .lit (.int .u64 10), .lit (.int .u64 100), .lit (.int .u64 1000), .lit (.int .u64 10000), .lit (.int .u64 100000), .lit (.int .u64 1000000), .lit (.int .u64 10000000), .lit (.int .u64 100000000), .lit (.int .u64 1000000000), .lit (.int .u64 10000000000), .lit (.int .u64 100000000000), .lit (.int .u64 1000000000000), .lit (.int .u64 10000000000000), .lit (.int .u64 100000000000000), .lit (.int .u64 1000000000000000), .lit (.int .u64 10000000000000000), .lit (.int .u64 100000000000000000), .lit (.int .u64 1000000000000000000), .lit (.int .u64 10000000000000000000)]
def laid_waybill_abi_bases {H : Type} : DataW H := .agg [.agg [.lit (.string [117, 105, 110, 116]), .lit (.int .i64 0), .lit (.int .i64 8), .lit (.int .i64 256), .lit (.int .i64 8), .lit (.int .i64 256)], .agg [.lit (.string [105, 110, 116]), .lit (.int .i64 1), .lit (.int .i64 8), .lit (.int .i64 256), .lit (.int .i64 8), .lit (.int .i64 256)], .agg [.lit (.string [97, 100, 100, 114, 101, 115, 115]), .lit (.int .i64 2), .lit (.int .i64 0), .lit (.int .i64 0), .lit (.int .i64 0), .lit (.int .i64 0)], .agg [.lit (.string [98, 111, 111, 108]), .lit (.int .i64 3), .lit (.int .i64 0), .lit (.int .i64 0), .lit (.int .i64 0), .lit (.int .i64 0)], .agg [.lit (.string [115, 116, 114, 105, 110, 103]), .lit (.int .i64 6), .lit (.int .i64 0), .lit (.int .i64 0), .lit (.int .i64 0), .lit (.int .i64 0)], .agg [.lit (.string [98, 121, 116, 101, 115]), .lit (.int .i64 4), .lit (.int .i64 1), .lit (.int .i64 32), .lit (.int .i64 1), .lit (.int .i64 0)]]
def laid_waybill_keccak_first {H : Type} : DataW H := .agg [.lit (.int .u8 1), .lit (.int .u8 6)]
def laid_waybill_waybillref02_rounds {H : Type} : DataW H := .agg [.lit (.int .u64 1), .lit (.int .u64 32898), .lit (.int .u64 9223372036854808714), .lit (.int .u64 9223372039002292224), .lit (.int .u64 32907), .lit (.int .u64 2147483649), .lit (.int .u64 9223372039002292353), .lit (.int .u64 9223372036854808585), .lit (.int .u64 138), .lit (.int .u64 136), .lit (.int .u64 2147516425), .lit (.int .u64 2147483658), .lit (.int .u64 2147516555), .lit (.int .u64 9223372036854775947), .lit (.int .u64 9223372036854808713), .lit (.int .u64 9223372036854808579), .lit (.int .u64 9223372036854808578), .lit (.int .u64 9223372036854775936), .lit (.int .u64 32778), .lit (.int .u64 9223372039002259466), .lit (.int .u64 9223372039002292353), .lit (.int .u64 9223372036854808704), .lit (.int .u64 2147483649), .lit (.int .u64 9223372039002292232)]
def laid_waybill_waybillref02_turns {H : Type} : DataW H := .agg [.lit (.int .i64 0), .lit (.int .i64 1), .lit (.int .i64 62), .lit (.int .i64 28), .lit (.int .i64 27), .lit (.int .i64 36), .lit (.int .i64 44), .lit (.int .i64 6), .lit (.int .i64 55), .lit (.int .i64 20), .lit (.int .i64 3), .lit (.int .i64 10), .lit (.int .i64 43), .lit (.int .i64 25), .lit (.int .i64 39), .lit (.int .i64 41), .lit (.int .i64 45), .lit (.int .i64 15), .lit (.int .i64 21), .lit (.int .i64 8), .lit (.int .i64 18), .lit (.int .i64 2), .lit (.int .i64 61), .lit (.int .i64 56), .lit (.int .i64 14)]

/-- 'waybilllaw22.AbiTypes': WHATEVER THE INPUT: true; the input reads as it did. -/
def abiTypesSpec : ChangeSpec := { name := "abiTypes", fn := fun _ => fun
  | [d] => { results := [.lit (.bool true)], args := [d] }
  | _ => none }
def abiTypesRow : OpenClaim := { program := "ytapnedegcnmhgaadoor", sum := "0167b3ee7292528d0b47a69e94d45d93d9e1f9d746c7a9b9be23f17445305a08", func := "waybill/waybilllaw22.AbiTypes", spec := "abiTypes", inPlace := ["internal/abi.NoEscape", "internal/bytealg.MakeNoZero"], unfollowed := true, recurses := true, named := ["waybill/abi.bases", "internal/strconv.uint64pow10", "math/bits.deBruijn32tab", "math/bits.deBruijn64tab"], apart := false, laid := [("math/bits.deBruijn32tab", laid_math_bits_deBruijn32tab), ("math/bits.deBruijn64tab", laid_math_bits_deBruijn64tab), ("internal/strconv.uint64pow10", laid_internal_strconv_uint64pow10), ("waybill/abi.bases", laid_waybill_abi_bases)] }
def AbiTypesSaid : Prop := abiTypesRow.holds Tryd.pinned (OpenSpec.ofChange abiTypesSpec)

/-- ITS FALSE NEIGHBOUR: 'it returns false'. Refute it at one input. -/
def abiTypesWrong : ChangeSpec := { name := "abiTypes", fn := fun _ => fun
  | [d] => { results := [.lit (.bool false)], args := [d] }
  | _ => none }
def AbiTypesWrongFalsely : Prop := abiTypesRow.holds Tryd.pinned (OpenSpec.ofChange abiTypesWrong)

/-- 'waybilllaw22.AbiChecks': WHATEVER THE INPUT: true; the input reads as it did. -/
def abiChecksSpec : ChangeSpec := { name := "abiChecks", fn := fun _ => fun
  | [d1, d2] => { results := [.lit (.bool true)], args := [d1, d2] }
  | _ => none }
def abiChecksRow : OpenClaim := { program := "ytapnedegcnmhgaadoor", sum := "0167b3ee7292528d0b47a69e94d45d93d9e1f9d746c7a9b9be23f17445305a08", func := "waybill/waybilllaw22.AbiChecks", spec := "abiChecks", inPlace := ["internal/abi.NoEscape", "internal/bytealg.MakeNoZero"], unfollowed := true, recurses := true, named := ["waybill/abi.bases", "internal/strconv.uint64pow10", "math/bits.deBruijn32tab", "math/bits.deBruijn64tab"], loops := true, apart := false, laid := [("math/bits.deBruijn32tab", laid_math_bits_deBruijn32tab), ("math/bits.deBruijn64tab", laid_math_bits_deBruijn64tab), ("internal/strconv.uint64pow10", laid_internal_strconv_uint64pow10), ("waybill/abi.bases", laid_waybill_abi_bases)] }
def AbiChecksSaid : Prop := abiChecksRow.holds Tryd.pinned (OpenSpec.ofChange abiChecksSpec)

/-- ITS FALSE NEIGHBOUR: 'it returns false'. Refute it at one input. -/
def abiChecksWrong : ChangeSpec := { name := "abiChecks", fn := fun _ => fun
  | [d1, d2] => { results := [.lit (.bool false)], args := [d1, d2] }
  | _ => none }
def AbiChecksWrongFalsely : Prop := abiChecksRow.holds Tryd.pinned (OpenSpec.ofChange abiChecksWrong)

/-- 'waybilllaw22.AbiNames': WHATEVER THE INPUT: true; the input reads as it did. -/
def abiNamesSpec : ChangeSpec := { name := "abiNames", fn := fun _ => fun
  | [d] => { results := [.lit (.bool true)], args := [d] }
  | _ => none }
def abiNamesRow : OpenClaim := { program := "ytapnedegcnmhgaadoor", sum := "0167b3ee7292528d0b47a69e94d45d93d9e1f9d746c7a9b9be23f17445305a08", func := "waybill/waybilllaw22.AbiNames", spec := "abiNames", inPlace := ["internal/abi.NoEscape", "internal/bytealg.MakeNoZero"], unfollowed := true, recurses := true, named := ["waybill/abi.bases", "internal/strconv.uint64pow10", "math/bits.deBruijn32tab", "math/bits.deBruijn64tab", "waybill/keccak.first", "waybill/waybillref02.rounds", "waybill/waybillref02.turns"], apart := false, laid := [("math/bits.deBruijn32tab", laid_math_bits_deBruijn32tab), ("math/bits.deBruijn64tab", laid_math_bits_deBruijn64tab), ("internal/strconv.uint64pow10", laid_internal_strconv_uint64pow10), ("waybill/keccak.first", laid_waybill_keccak_first), ("waybill/abi.bases", laid_waybill_abi_bases), ("waybill/waybillref02.rounds", laid_waybill_waybillref02_rounds), ("waybill/waybillref02.turns", laid_waybill_waybillref02_turns)] }
def AbiNamesSaid : Prop := abiNamesRow.holds Tryd.pinned (OpenSpec.ofChange abiNamesSpec)

/-- ITS FALSE NEIGHBOUR: 'it returns false'. Refute it at one input. -/
def abiNamesWrong : ChangeSpec := { name := "abiNames", fn := fun _ => fun
  | [d] => { results := [.lit (.bool false)], args := [d] }
  | _ => none }
def AbiNamesWrongFalsely : Prop := abiNamesRow.holds Tryd.pinned (OpenSpec.ofChange abiNamesWrong)

/-- 'waybilllaw22.AbiHeads': WHATEVER THE INPUT: true; the input reads as it did. -/
def abiHeadsSpec : ChangeSpec := { name := "abiHeads", fn := fun _ => fun
  | [d1, d2] => { results := [.lit (.bool true)], args := [d1, d2] }
  | _ => none }
def abiHeadsRow : OpenClaim := { program := "ytapnedegcnmhgaadoor", sum := "0167b3ee7292528d0b47a69e94d45d93d9e1f9d746c7a9b9be23f17445305a08", func := "waybill/waybilllaw22.AbiHeads", spec := "abiHeads", inPlace := ["internal/abi.NoEscape", "internal/bytealg.MakeNoZero"], unfollowed := true, recurses := true, named := ["waybill/abi.bases", "internal/strconv.uint64pow10", "math/bits.deBruijn32tab", "math/bits.deBruijn64tab"], loops := true, apart := false, laid := [("math/bits.deBruijn32tab", laid_math_bits_deBruijn32tab), ("math/bits.deBruijn64tab", laid_math_bits_deBruijn64tab), ("internal/strconv.uint64pow10", laid_internal_strconv_uint64pow10), ("waybill/abi.bases", laid_waybill_abi_bases)] }
def AbiHeadsSaid : Prop := abiHeadsRow.holds Tryd.pinned (OpenSpec.ofChange abiHeadsSpec)

/-- ITS FALSE NEIGHBOUR: 'it returns false'. Refute it at one input. -/
def abiHeadsWrong : ChangeSpec := { name := "abiHeads", fn := fun _ => fun
  | [d1, d2] => { results := [.lit (.bool false)], args := [d1, d2] }
  | _ => none }
def AbiHeadsWrongFalsely : Prop := abiHeadsRow.holds Tryd.pinned (OpenSpec.ofChange abiHeadsWrong)

/-- 'waybilllaw22.AbiEncodes': WHATEVER THE INPUT: true; the input reads as it did. -/
def abiEncodesSpec : ChangeSpec := { name := "abiEncodes", fn := fun _ => fun
  | [d1, d2] => { results := [.lit (.bool true)], args := [d1, d2] }
  | _ => none }
def abiEncodesRow : OpenClaim := { program := "ytapnedegcnmhgaadoor", sum := "0167b3ee7292528d0b47a69e94d45d93d9e1f9d746c7a9b9be23f17445305a08", func := "waybill/waybilllaw22.AbiEncodes", spec := "abiEncodes", inPlace := ["internal/abi.NoEscape", "internal/bytealg.MakeNoZero"], unfollowed := true, recurses := true, named := ["waybill/abi.bases", "internal/strconv.uint64pow10", "math/bits.deBruijn32tab", "math/bits.deBruijn64tab"], loops := true, apart := false, laid := [("math/bits.deBruijn32tab", laid_math_bits_deBruijn32tab), ("math/bits.deBruijn64tab", laid_math_bits_deBruijn64tab), ("internal/strconv.uint64pow10", laid_internal_strconv_uint64pow10), ("waybill/abi.bases", laid_waybill_abi_bases)] }
def AbiEncodesSaid : Prop := abiEncodesRow.holds Tryd.pinned (OpenSpec.ofChange abiEncodesSpec)

/-- ITS FALSE NEIGHBOUR: 'it returns false'. Refute it at one input. -/
def abiEncodesWrong : ChangeSpec := { name := "abiEncodes", fn := fun _ => fun
  | [d1, d2] => { results := [.lit (.bool false)], args := [d1, d2] }
  | _ => none }
def AbiEncodesWrongFalsely : Prop := abiEncodesRow.holds Tryd.pinned (OpenSpec.ofChange abiEncodesWrong)

/-- 'waybilllaw22.AbiBack': WHATEVER THE INPUT: true; the input reads as it did. -/
def abiBackSpec : ChangeSpec := { name := "abiBack", fn := fun _ => fun
  | [d1, d2] => { results := [.lit (.bool true)], args := [d1, d2] }
  | _ => none }
def abiBackRow : OpenClaim := { program := "ytapnedegcnmhgaadoor", sum := "0167b3ee7292528d0b47a69e94d45d93d9e1f9d746c7a9b9be23f17445305a08", func := "waybill/waybilllaw22.AbiBack", spec := "abiBack", inPlace := ["internal/abi.NoEscape", "internal/bytealg.MakeNoZero", "math/bits.Sub64"], unfollowed := true, recurses := true, named := ["waybill/abi.bases", "internal/strconv.uint64pow10", "math/bits.deBruijn32tab", "math/bits.deBruijn64tab"], loops := true, apart := false, laid := [("math/bits.deBruijn32tab", laid_math_bits_deBruijn32tab), ("math/bits.deBruijn64tab", laid_math_bits_deBruijn64tab), ("internal/strconv.uint64pow10", laid_internal_strconv_uint64pow10), ("waybill/abi.bases", laid_waybill_abi_bases)] }
def AbiBackSaid : Prop := abiBackRow.holds Tryd.pinned (OpenSpec.ofChange abiBackSpec)

/-- ITS FALSE NEIGHBOUR: 'it returns false'. Refute it at one input. -/
def abiBackWrong : ChangeSpec := { name := "abiBack", fn := fun _ => fun
  | [d1, d2] => { results := [.lit (.bool false)], args := [d1, d2] }
  | _ => none }
def AbiBackWrongFalsely : Prop := abiBackRow.holds Tryd.pinned (OpenSpec.ofChange abiBackWrong)

/-- 'waybilllaw22.AbiStrict': WHATEVER THE INPUT: true; the input reads as it did. -/
def abiStrictSpec : ChangeSpec := { name := "abiStrict", fn := fun _ => fun
  | [d1, d2, d3, d4] => { results := [.lit (.bool true)], args := [d1, d2, d3, d4] }
  | _ => none }
def abiStrictRow : OpenClaim := { program := "ytapnedegcnmhgaadoor", sum := "0167b3ee7292528d0b47a69e94d45d93d9e1f9d746c7a9b9be23f17445305a08", func := "waybill/waybilllaw22.AbiStrict", spec := "abiStrict", inPlace := ["internal/abi.NoEscape", "internal/bytealg.MakeNoZero", "math/bits.Sub64"], unfollowed := true, recurses := true, named := ["waybill/abi.bases", "internal/strconv.uint64pow10", "math/bits.deBruijn32tab", "math/bits.deBruijn64tab"], apart := false, laid := [("math/bits.deBruijn32tab", laid_math_bits_deBruijn32tab), ("math/bits.deBruijn64tab", laid_math_bits_deBruijn64tab), ("internal/strconv.uint64pow10", laid_internal_strconv_uint64pow10), ("waybill/abi.bases", laid_waybill_abi_bases)] }
def AbiStrictSaid : Prop := abiStrictRow.holds Tryd.pinned (OpenSpec.ofChange abiStrictSpec)

/-- ITS FALSE NEIGHBOUR: 'it returns false'. Refute it at one input. -/
def abiStrictWrong : ChangeSpec := { name := "abiStrict", fn := fun _ => fun
  | [d1, d2, d3, d4] => { results := [.lit (.bool false)], args := [d1, d2, d3, d4] }
  | _ => none }
def AbiStrictWrongFalsely : Prop := abiStrictRow.holds Tryd.pinned (OpenSpec.ofChange abiStrictWrong)

/-- 'waybilllaw22.AbiInvokes': WHATEVER THE INPUT: true; the input reads as it did. -/
def abiInvokesSpec : ChangeSpec := { name := "abiInvokes", fn := fun _ => fun
  | [d1, d2, d3] => { results := [.lit (.bool true)], args := [d1, d2, d3] }
  | _ => none }
def abiInvokesRow : OpenClaim := { program := "ytapnedegcnmhgaadoor", sum := "0167b3ee7292528d0b47a69e94d45d93d9e1f9d746c7a9b9be23f17445305a08", func := "waybill/waybilllaw22.AbiInvokes", spec := "abiInvokes", inPlace := ["internal/abi.NoEscape", "internal/bytealg.MakeNoZero", "math/bits.Sub64"], unfollowed := true, recurses := true, named := ["waybill/abi.bases", "internal/strconv.uint64pow10", "math/bits.deBruijn32tab", "math/bits.deBruijn64tab", "waybill/keccak.first"], loops := true, apart := false, laid := [("math/bits.deBruijn32tab", laid_math_bits_deBruijn32tab), ("math/bits.deBruijn64tab", laid_math_bits_deBruijn64tab), ("internal/strconv.uint64pow10", laid_internal_strconv_uint64pow10), ("waybill/keccak.first", laid_waybill_keccak_first), ("waybill/abi.bases", laid_waybill_abi_bases)] }
def AbiInvokesSaid : Prop := abiInvokesRow.holds Tryd.pinned (OpenSpec.ofChange abiInvokesSpec)

/-- ITS FALSE NEIGHBOUR: 'it returns false'. Refute it at one input. -/
def abiInvokesWrong : ChangeSpec := { name := "abiInvokes", fn := fun _ => fun
  | [d1, d2, d3] => { results := [.lit (.bool false)], args := [d1, d2, d3] }
  | _ => none }
def AbiInvokesWrongFalsely : Prop := abiInvokesRow.holds Tryd.pinned (OpenSpec.ofChange abiInvokesWrong)

/-- 'waybilllaw22.AbiApart': WHATEVER THE INPUT: true; the input reads as it did. -/
def abiApartSpec : ChangeSpec := { name := "abiApart", fn := fun _ => fun
  | [d1, d2] => { results := [.lit (.bool true)], args := [d1, d2] }
  | _ => none }
def abiApartRow : OpenClaim := { program := "ytapnedegcnmhgaadoor", sum := "0167b3ee7292528d0b47a69e94d45d93d9e1f9d746c7a9b9be23f17445305a08", func := "waybill/waybilllaw22.AbiApart", spec := "abiApart", inPlace := ["internal/abi.NoEscape", "internal/bytealg.MakeNoZero", "math/bits.Sub64"], unfollowed := true, recurses := true, named := ["waybill/abi.bases", "internal/strconv.uint64pow10", "math/bits.deBruijn32tab", "math/bits.deBruijn64tab", "waybill/keccak.first"], loops := true, apart := false, laid := [("math/bits.deBruijn32tab", laid_math_bits_deBruijn32tab), ("math/bits.deBruijn64tab", laid_math_bits_deBruijn64tab), ("internal/strconv.uint64pow10", laid_internal_strconv_uint64pow10), ("waybill/keccak.first", laid_waybill_keccak_first), ("waybill/abi.bases", laid_waybill_abi_bases)] }
def AbiApartSaid : Prop := abiApartRow.holds Tryd.pinned (OpenSpec.ofChange abiApartSpec)

/-- ITS FALSE NEIGHBOUR: 'it returns false'. Refute it at one input. -/
def abiApartWrong : ChangeSpec := { name := "abiApart", fn := fun _ => fun
  | [d1, d2] => { results := [.lit (.bool false)], args := [d1, d2] }
  | _ => none }
def AbiApartWrongFalsely : Prop := abiApartRow.holds Tryd.pinned (OpenSpec.ofChange abiApartWrong)

/- THE SECOND FORM. 'bulk': how many values and letters a reading holds, each counted each time it is reached (what is shared counts as often as it is met; a slice's spare places count too). A statement '..UptoSaid' is the law's where the arguments, and the package variables that the reading takes, are together of bulk at most 1048576: NARROWER than '..Said'. Prove '..Said' where nothing that the law and all that it calls make is longer than what came in: it says more and counts as full. Else prove '..UptoSaid'. A law counts once. -/
mutual
def uptoBulk {H : Type} : DataW H → Nat
  | .lit (.string bytes) => bytes.length + 1
  | .lit _ => 1
  | .nil => 1
  | .ptr d => uptoBulk d + 1
  | .slice elems spare => uptoBulkAll elems + uptoBulkAll spare + 1
  | .agg parts => uptoBulkAll parts + 1
  | .iface _ d => uptoBulk d + 1
  | .map entries => uptoBulkEntries entries + 1
  | .held _ => 1
def uptoBulkAll {H : Type} : List (DataW H) → Nat
  | [] => 0
  | d :: r => uptoBulk d + uptoBulkAll r
def uptoBulkEntries {H : Type} : List (Lit × DataW H) → Nat
  | [] => 0
  | x :: r => uptoBulkEntry x + uptoBulkEntries r
def uptoBulkEntry {H : Type} : Lit × DataW H → Nat
  | (.string bytes, d) => bytes.length + uptoBulk d + 1
  | (_, d) => uptoBulk d + 1
 end
def uptoSmall : (H : Type) → List (DataW H) → Bool := fun _ ds => decide (uptoBulkAll ds ≤ 1048576)
def OpenSpec.upto (s : _root_.Go.ChangeSpec) : _root_.Go.OpenSpec := { _root_.Go.OpenSpec.ofChange s with cond := some uptoSmall }

/-- 'waybilllaw22.AbiTypes', WHERE WHAT IT READS IS OF BULK AT MOST 1048576: true; the input reads as it did. -/
def abiTypesUptoRow : OpenClaim := { program := "ytapnedegcnmhgaadoor", sum := "0167b3ee7292528d0b47a69e94d45d93d9e1f9d746c7a9b9be23f17445305a08", func := "waybill/waybilllaw22.AbiTypes", spec := "abiTypes", inPlace := ["internal/abi.NoEscape", "internal/bytealg.MakeNoZero"], unfollowed := true, recurses := true, named := ["waybill/abi.bases", "internal/strconv.uint64pow10", "math/bits.deBruijn32tab", "math/bits.deBruijn64tab"], apart := false, laid := [("math/bits.deBruijn32tab", laid_math_bits_deBruijn32tab), ("math/bits.deBruijn64tab", laid_math_bits_deBruijn64tab), ("internal/strconv.uint64pow10", laid_internal_strconv_uint64pow10), ("waybill/abi.bases", laid_waybill_abi_bases)], narrowed := true }
def AbiTypesUptoSaid : Prop := abiTypesUptoRow.holds Tryd.pinned (OpenSpec.upto abiTypesSpec)

/-- 'waybilllaw22.AbiChecks', WHERE WHAT IT READS IS OF BULK AT MOST 1048576: true; the input reads as it did. -/
def abiChecksUptoRow : OpenClaim := { program := "ytapnedegcnmhgaadoor", sum := "0167b3ee7292528d0b47a69e94d45d93d9e1f9d746c7a9b9be23f17445305a08", func := "waybill/waybilllaw22.AbiChecks", spec := "abiChecks", inPlace := ["internal/abi.NoEscape", "internal/bytealg.MakeNoZero"], unfollowed := true, recurses := true, named := ["waybill/abi.bases", "internal/strconv.uint64pow10", "math/bits.deBruijn32tab", "math/bits.deBruijn64tab"], loops := true, apart := false, laid := [("math/bits.deBruijn32tab", laid_math_bits_deBruijn32tab), ("math/bits.deBruijn64tab", laid_math_bits_deBruijn64tab), ("internal/strconv.uint64pow10", laid_internal_strconv_uint64pow10), ("waybill/abi.bases", laid_waybill_abi_bases)], narrowed := true }
def AbiChecksUptoSaid : Prop := abiChecksUptoRow.holds Tryd.pinned (OpenSpec.upto abiChecksSpec)

/-- 'waybilllaw22.AbiNames', WHERE WHAT IT READS IS OF BULK AT MOST 1048576: true; the input reads as it did. -/
def abiNamesUptoRow : OpenClaim := { program := "ytapnedegcnmhgaadoor", sum := "0167b3ee7292528d0b47a69e94d45d93d9e1f9d746c7a9b9be23f17445305a08", func := "waybill/waybilllaw22.AbiNames", spec := "abiNames", inPlace := ["internal/abi.NoEscape", "internal/bytealg.MakeNoZero"], unfollowed := true, recurses := true, named := ["waybill/abi.bases", "internal/strconv.uint64pow10", "math/bits.deBruijn32tab", "math/bits.deBruijn64tab", "waybill/keccak.first", "waybill/waybillref02.rounds", "waybill/waybillref02.turns"], apart := false, laid := [("math/bits.deBruijn32tab", laid_math_bits_deBruijn32tab), ("math/bits.deBruijn64tab", laid_math_bits_deBruijn64tab), ("internal/strconv.uint64pow10", laid_internal_strconv_uint64pow10), ("waybill/keccak.first", laid_waybill_keccak_first), ("waybill/abi.bases", laid_waybill_abi_bases), ("waybill/waybillref02.rounds", laid_waybill_waybillref02_rounds), ("waybill/waybillref02.turns", laid_waybill_waybillref02_turns)], narrowed := true }
def AbiNamesUptoSaid : Prop := abiNamesUptoRow.holds Tryd.pinned (OpenSpec.upto abiNamesSpec)

/-- 'waybilllaw22.AbiHeads', WHERE WHAT IT READS IS OF BULK AT MOST 1048576: true; the input reads as it did. -/
def abiHeadsUptoRow : OpenClaim := { program := "ytapnedegcnmhgaadoor", sum := "0167b3ee7292528d0b47a69e94d45d93d9e1f9d746c7a9b9be23f17445305a08", func := "waybill/waybilllaw22.AbiHeads", spec := "abiHeads", inPlace := ["internal/abi.NoEscape", "internal/bytealg.MakeNoZero"], unfollowed := true, recurses := true, named := ["waybill/abi.bases", "internal/strconv.uint64pow10", "math/bits.deBruijn32tab", "math/bits.deBruijn64tab"], loops := true, apart := false, laid := [("math/bits.deBruijn32tab", laid_math_bits_deBruijn32tab), ("math/bits.deBruijn64tab", laid_math_bits_deBruijn64tab), ("internal/strconv.uint64pow10", laid_internal_strconv_uint64pow10), ("waybill/abi.bases", laid_waybill_abi_bases)], narrowed := true }
def AbiHeadsUptoSaid : Prop := abiHeadsUptoRow.holds Tryd.pinned (OpenSpec.upto abiHeadsSpec)

/-- 'waybilllaw22.AbiEncodes', WHERE WHAT IT READS IS OF BULK AT MOST 1048576: true; the input reads as it did. -/
def abiEncodesUptoRow : OpenClaim := { program := "ytapnedegcnmhgaadoor", sum := "0167b3ee7292528d0b47a69e94d45d93d9e1f9d746c7a9b9be23f17445305a08", func := "waybill/waybilllaw22.AbiEncodes", spec := "abiEncodes", inPlace := ["internal/abi.NoEscape", "internal/bytealg.MakeNoZero"], unfollowed := true, recurses := true, named := ["waybill/abi.bases", "internal/strconv.uint64pow10", "math/bits.deBruijn32tab", "math/bits.deBruijn64tab"], loops := true, apart := false, laid := [("math/bits.deBruijn32tab", laid_math_bits_deBruijn32tab), ("math/bits.deBruijn64tab", laid_math_bits_deBruijn64tab), ("internal/strconv.uint64pow10", laid_internal_strconv_uint64pow10), ("waybill/abi.bases", laid_waybill_abi_bases)], narrowed := true }
def AbiEncodesUptoSaid : Prop := abiEncodesUptoRow.holds Tryd.pinned (OpenSpec.upto abiEncodesSpec)

/-- 'waybilllaw22.AbiBack', WHERE WHAT IT READS IS OF BULK AT MOST 1048576: true; the input reads as it did. -/
def abiBackUptoRow : OpenClaim := { program := "ytapnedegcnmhgaadoor", sum := "0167b3ee7292528d0b47a69e94d45d93d9e1f9d746c7a9b9be23f17445305a08", func := "waybill/waybilllaw22.AbiBack", spec := "abiBack", inPlace := ["internal/abi.NoEscape", "internal/bytealg.MakeNoZero", "math/bits.Sub64"], unfollowed := true, recurses := true, named := ["waybill/abi.bases", "internal/strconv.uint64pow10", "math/bits.deBruijn32tab", "math/bits.deBruijn64tab"], loops := true, apart := false, laid := [("math/bits.deBruijn32tab", laid_math_bits_deBruijn32tab), ("math/bits.deBruijn64tab", laid_math_bits_deBruijn64tab), ("internal/strconv.uint64pow10", laid_internal_strconv_uint64pow10), ("waybill/abi.bases", laid_waybill_abi_bases)], narrowed := true }
def AbiBackUptoSaid : Prop := abiBackUptoRow.holds Tryd.pinned (OpenSpec.upto abiBackSpec)

/-- 'waybilllaw22.AbiStrict', WHERE WHAT IT READS IS OF BULK AT MOST 1048576: true; the input reads as it did. -/
def abiStrictUptoRow : OpenClaim := { program := "ytapnedegcnmhgaadoor", sum := "0167b3ee7292528d0b47a69e94d45d93d9e1f9d746c7a9b9be23f17445305a08", func := "waybill/waybilllaw22.AbiStrict", spec := "abiStrict", inPlace := ["internal/abi.NoEscape", "internal/bytealg.MakeNoZero", "math/bits.Sub64"], unfollowed := true, recurses := true, named := ["waybill/abi.bases", "internal/strconv.uint64pow10", "math/bits.deBruijn32tab", "math/bits.deBruijn64tab"], apart := false, laid := [("math/bits.deBruijn32tab", laid_math_bits_deBruijn32tab), ("math/bits.deBruijn64tab", laid_math_bits_deBruijn64tab), ("internal/strconv.uint64pow10", laid_internal_strconv_uint64pow10), ("waybill/abi.bases", laid_waybill_abi_bases)], narrowed := true }
def AbiStrictUptoSaid : Prop := abiStrictUptoRow.holds Tryd.pinned (OpenSpec.upto abiStrictSpec)

/-- 'waybilllaw22.AbiInvokes', WHERE WHAT IT READS IS OF BULK AT MOST 1048576: true; the input reads as it did. -/
def abiInvokesUptoRow : OpenClaim := { program := "ytapnedegcnmhgaadoor", sum := "0167b3ee7292528d0b47a69e94d45d93d9e1f9d746c7a9b9be23f17445305a08", func := "waybill/waybilllaw22.AbiInvokes", spec := "abiInvokes", inPlace := ["internal/abi.NoEscape", "internal/bytealg.MakeNoZero", "math/bits.Sub64"], unfollowed := true, recurses := true, named := ["waybill/abi.bases", "internal/strconv.uint64pow10", "math/bits.deBruijn32tab", "math/bits.deBruijn64tab", "waybill/keccak.first"], loops := true, apart := false, laid := [("math/bits.deBruijn32tab", laid_math_bits_deBruijn32tab), ("math/bits.deBruijn64tab", laid_math_bits_deBruijn64tab), ("internal/strconv.uint64pow10", laid_internal_strconv_uint64pow10), ("waybill/keccak.first", laid_waybill_keccak_first), ("waybill/abi.bases", laid_waybill_abi_bases)], narrowed := true }
def AbiInvokesUptoSaid : Prop := abiInvokesUptoRow.holds Tryd.pinned (OpenSpec.upto abiInvokesSpec)

/-- 'waybilllaw22.AbiApart', WHERE WHAT IT READS IS OF BULK AT MOST 1048576: true; the input reads as it did. -/
def abiApartUptoRow : OpenClaim := { program := "ytapnedegcnmhgaadoor", sum := "0167b3ee7292528d0b47a69e94d45d93d9e1f9d746c7a9b9be23f17445305a08", func := "waybill/waybilllaw22.AbiApart", spec := "abiApart", inPlace := ["internal/abi.NoEscape", "internal/bytealg.MakeNoZero", "math/bits.Sub64"], unfollowed := true, recurses := true, named := ["waybill/abi.bases", "internal/strconv.uint64pow10", "math/bits.deBruijn32tab", "math/bits.deBruijn64tab", "waybill/keccak.first"], loops := true, apart := false, laid := [("math/bits.deBruijn32tab", laid_math_bits_deBruijn32tab), ("math/bits.deBruijn64tab", laid_math_bits_deBruijn64tab), ("internal/strconv.uint64pow10", laid_internal_strconv_uint64pow10), ("waybill/keccak.first", laid_waybill_keccak_first), ("waybill/abi.bases", laid_waybill_abi_bases)], narrowed := true }
def AbiApartUptoSaid : Prop := abiApartUptoRow.holds Tryd.pinned (OpenSpec.upto abiApartSpec)

end Rows
end Go.Proofs.YtapnedegcnmhgaaDoor
