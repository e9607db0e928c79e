/- The links: each typed function is what the code computes. Printed by a program. -/
import Derived.Test.YtmbcolalfgepiaaDoorSyVT
import Derived.Test.YtmbcolalfgepiaaDoorSyKf
import Derived.Test.YtmbcolalfgepiaaDoorProg
set_option linter.unusedVariables false
set_option maxRecDepth 100000
namespace Go.Sy
open Go Go.Proofs

def globsG : List (Nat × AV) := [(0, .arr .u2 2 fieldModuli)]

theorem bitsSub64K : CallOk Tryd.prog (Glob globsG) 95 bitsSub64E := bitsSub64_ok (fn := Tryd.f95) Tryd.func95 (by kernel_rfl) (by kernel_rfl) (by kernel_rfl) (by kernel_rfl)
theorem bitsAdd64K : CallOk Tryd.prog (Glob globsG) 106 bitsAdd64E := bitsAdd64_ok (fn := Tryd.f106) Tryd.func106 (by kernel_rfl) (by kernel_rfl) (by kernel_rfl) (by kernel_rfl)
noncomputable def fieldIOfE : Entry := mkE [.int .i64] [.st [.u256, .u256], .int .i64] fun p => fieldIOf p

noncomputable def fieldIOfX : Cx := mkCx Tryd.prog 14 globsG [] [] []
theorem fieldIOfC : CxOk fieldIOfX (Glob globsG) := cx_ok (by kernel_rfl) (by kernel_rfl) trivial
theorem fieldIOfK : CallOk Tryd.prog (Glob globsG) 68 fieldIOfE :=
  fun_ok (cx := fieldIOfX) fieldIOfC (fn := Tryd.f68) Tryd.func68 (by kernel_rfl) Tryd.ntmps68 Tryd.call68 _ _ _ (by kernel_rfl) (by kernel_rfl) (by kernel_rfl)
    (fun w0 hG => lall_of lall_nil (by kernel_rfl : loopsOf (bodyOf Tryd.f68) = _)) (fun p => Eq.trans (b := fieldIOfB p) (by kernel_rfl) (fieldIOf_eq p).symm)

noncomputable def fieldModulusE : Entry := mkE [.int .i64] [.u256, .int .i64] fun p => fieldModulus p

noncomputable def fieldModulusX : Cx := mkCx Tryd.prog 14 globsG [(68, fieldIOfE)] [] []
theorem fieldModulusC : CxOk fieldModulusX (Glob globsG) := cx_ok (by kernel_rfl) (by kernel_rfl) ⟨fieldIOfK, trivial⟩
theorem fieldModulusK : CallOk Tryd.prog (Glob globsG) 25 fieldModulusE :=
  fun_ok (cx := fieldModulusX) fieldModulusC (fn := Tryd.f25) Tryd.func25 (by kernel_rfl) Tryd.ntmps25 Tryd.call25 _ _ _ (by kernel_rfl) (by kernel_rfl) (by kernel_rfl)
    (fun w0 hG => lall_of lall_nil (by kernel_rfl : loopsOf (bodyOf Tryd.f25) = _)) (fun p => Eq.trans (b := fieldModulusB p) (by kernel_rfl) (fieldModulus_eq p).symm)

noncomputable def ecdsaIOrderE : Entry := mkE [] [.u256] fun _ => ecdsaIOrder

noncomputable def ecdsaIOrderX : Cx := mkCx Tryd.prog 8 globsG [(25, fieldModulusE)] [] []
theorem ecdsaIOrderC : CxOk ecdsaIOrderX (Glob globsG) := cx_ok (by kernel_rfl) (by kernel_rfl) ⟨fieldModulusK, trivial⟩
theorem ecdsaIOrderK : CallOk Tryd.prog (Glob globsG) 97 ecdsaIOrderE :=
  fun_ok (cx := ecdsaIOrderX) ecdsaIOrderC (fn := Tryd.f97) Tryd.func97 (by kernel_rfl) Tryd.ntmps97 Tryd.call97 _ _ _ (by kernel_rfl) (by kernel_rfl) (by kernel_rfl)
    (fun w0 hG => lall_of lall_nil (by kernel_rfl : loopsOf (bodyOf Tryd.f97) = _)) (fun p => Eq.trans (b := ecdsaIOrderB ) (by kernel_rfl) (ecdsaIOrder_eq ).symm)

noncomputable def u256SubE : Entry := mkE [.u256, .u256] [.u256, .int .u64] fun p => u256Sub p.1 p.2

noncomputable def u256SubX : Cx := mkCx Tryd.prog 28 globsG [(95, bitsSub64E)] [] []
theorem u256SubC : CxOk u256SubX (Glob globsG) := cx_ok (by kernel_rfl) (by kernel_rfl) ⟨bitsSub64K, trivial⟩
theorem u256SubK : CallOk Tryd.prog (Glob globsG) 61 u256SubE :=
  fun_ok (cx := u256SubX) u256SubC (fn := Tryd.f61) Tryd.func61 (by kernel_rfl) Tryd.ntmps61 Tryd.call61 _ _ _ (by kernel_rfl) (by kernel_rfl) (by kernel_rfl)
    (fun w0 hG => lall_of (lall_free (b := loopAt Tryd.f61 0) (by kernel_rfl) (lall_nil)) (by kernel_rfl : loopsOf (bodyOf Tryd.f61) = _)) (fun p => Eq.trans (b := u256SubB p.1 p.2) (by kernel_rfl) (u256Sub_eq p.1 p.2).symm)

noncomputable def u256CmpE : Entry := mkE [.u256, .u256] [.int .i64] fun p => u256Cmp p.1 p.2

noncomputable def u256CmpX : Cx := mkCx Tryd.prog 18 globsG [(61, u256SubE)] [] []
theorem u256CmpC : CxOk u256CmpX (Glob globsG) := cx_ok (by kernel_rfl) (by kernel_rfl) ⟨u256SubK, trivial⟩
theorem u256CmpK : CallOk Tryd.prog (Glob globsG) 44 u256CmpE :=
  fun_ok (cx := u256CmpX) u256CmpC (fn := Tryd.f44) Tryd.func44 (by kernel_rfl) Tryd.ntmps44 Tryd.call44 _ _ _ (by kernel_rfl) (by kernel_rfl) (by kernel_rfl)
    (fun w0 hG => lall_of lall_nil (by kernel_rfl : loopsOf (bodyOf Tryd.f44) = _)) (fun p => Eq.trans (b := u256CmpB p.1 p.2) (by kernel_rfl) (u256Cmp_eq p.1 p.2).symm)

noncomputable def ecdsaIFitE : Entry := mkE [.u256] [.bool] fun p => ecdsaIFit p

noncomputable def ecdsaIFitX : Cx := mkCx Tryd.prog 12 globsG [(44, u256CmpE), (97, ecdsaIOrderE)] [] []
theorem ecdsaIFitC : CxOk ecdsaIFitX (Glob globsG) := cx_ok (by kernel_rfl) (by kernel_rfl) ⟨u256CmpK, ecdsaIOrderK, trivial⟩
theorem ecdsaIFitK : CallOk Tryd.prog (Glob globsG) 64 ecdsaIFitE :=
  fun_ok (cx := ecdsaIFitX) ecdsaIFitC (fn := Tryd.f64) Tryd.func64 (by kernel_rfl) Tryd.ntmps64 Tryd.call64 _ _ _ (by kernel_rfl) (by kernel_rfl) (by kernel_rfl)
    (fun w0 hG => lall_of lall_nil (by kernel_rfl : loopsOf (bodyOf Tryd.f64) = _)) (fun p => Eq.trans (b := ecdsaIFitB p) (by kernel_rfl) (ecdsaIFit_eq p).symm)

noncomputable def u256ShlE : Entry := mkE [.u256, .int .i64] [.u256] fun p => u256Shl p.1 p.2

def u256ShlL0Y : Lay := ⟨[(false, 2, .ptr 1002 []), (false, 4, .ptr 1004 []), (false, 5, .ptr 1005 [])], [(false, 1, .int .i64), (false, 6, .int .i64), (true, 1002, .u256), (true, 1004, .u256), (true, 1005, .u256)], [⟨[(1002, 1002), (1004, 1004), (1005, 1005)], []⟩]⟩
def u256ShlL0Z : List (Ex × Lay) := [(.exit 0, ⟨[(false, 4, .ptr 1004 []), (false, 5, .ptr 1005 [])], [(true, 1004, .u256), (true, 1005, .u256)], [⟨[(1004, 1004), (1005, 1005)], []⟩]⟩)]
noncomputable def u256ShlL0E : LEntry := mkL u256ShlL0Y u256ShlL0Z fun p => u256ShlL0 p.1 p.2.1 p.2.2.1 p.2.2.2.1 p.2.2.2.2
noncomputable def u256ShlX : Cx := mkCx Tryd.prog 63 globsG [] [(7, u256ShlL0E)] []
theorem u256ShlC : CxOk u256ShlX (Glob globsG) := cx_ok (by kernel_rfl) (by kernel_rfl) trivial
theorem u256ShlL0K (w0 : Ini) (hG : Glob globsG w0) : LoopOk u256ShlX w0 (loopAt Tryd.f96 0) u256ShlL0E :=
  loop_okH u256ShlC hG (loopAt Tryd.f96 0) (lall_of lall_nil (by kernel_rfl : loopsOf (loopAt Tryd.f96 0) = _))
    u256ShlL0Y u256ShlL0Z (by kernel_rfl) (fun p => u256ShlL0R p.1 p.2.1 p.2.2.1 p.2.2.2.1 p.2.2.2.2) (fun p => 1000) (fun p => by kernel_rfl) _ (fun p => u256ShlL0_eq p.1 p.2.1 p.2.2.1 p.2.2.2.1 p.2.2.2.2)
theorem u256ShlK : CallOk Tryd.prog (Glob globsG) 96 u256ShlE :=
  fun_ok (cx := u256ShlX) u256ShlC (fn := Tryd.f96) Tryd.func96 (by kernel_rfl) Tryd.ntmps96 Tryd.call96 _ _ _ (by kernel_rfl) (by kernel_rfl) (by kernel_rfl)
    (fun w0 hG => lall_of (lall_cut (b := loopAt Tryd.f96 0) (u256ShlL0K w0 hG) (by kernel_rfl) (lall_nil)) (by kernel_rfl : loopsOf (bodyOf Tryd.f96) = _)) (fun p => Eq.trans (b := u256ShlB p.1 p.2) (by kernel_rfl) (u256Shl_eq p.1 p.2).symm)

noncomputable def u256ShrE : Entry := mkE [.u256, .int .i64] [.u256] fun p => u256Shr p.1 p.2

def u256ShrL0Y : Lay := ⟨[(false, 2, .ptr 1002 []), (false, 4, .ptr 1004 []), (false, 5, .ptr 1005 [])], [(false, 1, .int .i64), (false, 6, .int .i64), (true, 1002, .u256), (true, 1004, .u256), (true, 1005, .u256)], [⟨[(1002, 1002), (1004, 1004), (1005, 1005)], []⟩]⟩
def u256ShrL0Z : List (Ex × Lay) := [(.exit 0, ⟨[(false, 4, .ptr 1004 []), (false, 5, .ptr 1005 [])], [(true, 1004, .u256), (true, 1005, .u256)], [⟨[(1004, 1004), (1005, 1005)], []⟩]⟩)]
noncomputable def u256ShrL0E : LEntry := mkL u256ShrL0Y u256ShrL0Z fun p => u256ShrL0 p.1 p.2.1 p.2.2.1 p.2.2.2.1 p.2.2.2.2
noncomputable def u256ShrX : Cx := mkCx Tryd.prog 65 globsG [(96, u256ShlE)] [(7, u256ShrL0E)] []
theorem u256ShrC : CxOk u256ShrX (Glob globsG) := cx_ok (by kernel_rfl) (by kernel_rfl) ⟨u256ShlK, trivial⟩
theorem u256ShrL0K (w0 : Ini) (hG : Glob globsG w0) : LoopOk u256ShrX w0 (loopAt Tryd.f62 0) u256ShrL0E :=
  loop_okH u256ShrC hG (loopAt Tryd.f62 0) (lall_of lall_nil (by kernel_rfl : loopsOf (loopAt Tryd.f62 0) = _))
    u256ShrL0Y u256ShrL0Z (by kernel_rfl) (fun p => u256ShrL0R p.1 p.2.1 p.2.2.1 p.2.2.2.1 p.2.2.2.2) (fun p => 1000) (fun p => by kernel_rfl) _ (fun p => u256ShrL0_eq p.1 p.2.1 p.2.2.1 p.2.2.2.1 p.2.2.2.2)
theorem u256ShrK : CallOk Tryd.prog (Glob globsG) 62 u256ShrE :=
  fun_ok (cx := u256ShrX) u256ShrC (fn := Tryd.f62) Tryd.func62 (by kernel_rfl) Tryd.ntmps62 Tryd.call62 _ _ _ (by kernel_rfl) (by kernel_rfl) (by kernel_rfl)
    (fun w0 hG => lall_of (lall_cut (b := loopAt Tryd.f62 0) (u256ShrL0K w0 hG) (by kernel_rfl) (lall_nil)) (by kernel_rfl : loopsOf (bodyOf Tryd.f62) = _)) (fun p => Eq.trans (b := u256ShrB p.1 p.2) (by kernel_rfl) (u256Shr_eq p.1 p.2).symm)

noncomputable def ecdsaILowE : Entry := mkE [.u256] [.bool] fun p => ecdsaILow p

noncomputable def ecdsaILowX : Cx := mkCx Tryd.prog 8 globsG [(44, u256CmpE), (62, u256ShrE), (97, ecdsaIOrderE)] [] []
theorem ecdsaILowC : CxOk ecdsaILowX (Glob globsG) := cx_ok (by kernel_rfl) (by kernel_rfl) ⟨u256CmpK, u256ShrK, ecdsaIOrderK, trivial⟩
theorem ecdsaILowK : CallOk Tryd.prog (Glob globsG) 65 ecdsaILowE :=
  fun_ok (cx := ecdsaILowX) ecdsaILowC (fn := Tryd.f65) Tryd.func65 (by kernel_rfl) Tryd.ntmps65 Tryd.call65 _ _ _ (by kernel_rfl) (by kernel_rfl) (by kernel_rfl)
    (fun w0 hG => lall_of lall_nil (by kernel_rfl : loopsOf (bodyOf Tryd.f65) = _)) (fun p => Eq.trans (b := ecdsaILowB p) (by kernel_rfl) (ecdsaILow_eq p).symm)

noncomputable def ecdsaCheckE : Entry := mkE [.st [.u256, .u256, .bool]] [.int .i64] fun p => ecdsaCheck p

noncomputable def ecdsaCheckX : Cx := mkCx Tryd.prog 18 globsG [(64, ecdsaIFitE), (65, ecdsaILowE)] [] []
theorem ecdsaCheckC : CxOk ecdsaCheckX (Glob globsG) := cx_ok (by kernel_rfl) (by kernel_rfl) ⟨ecdsaIFitK, ecdsaILowK, trivial⟩
theorem ecdsaCheckK : CallOk Tryd.prog (Glob globsG) 16 ecdsaCheckE :=
  fun_ok (cx := ecdsaCheckX) ecdsaCheckC (fn := Tryd.f16) Tryd.func16 (by kernel_rfl) Tryd.ntmps16 Tryd.call16 _ _ _ (by kernel_rfl) (by kernel_rfl) (by kernel_rfl)
    (fun w0 hG => lall_of lall_nil (by kernel_rfl : loopsOf (bodyOf Tryd.f16) = _)) (fun p => Eq.trans (b := ecdsaCheckB p) (by kernel_rfl) (ecdsaCheck_eq p).symm)

noncomputable def law06INumE : Entry := mkE [.int .i64] [.int .i64] fun p => law06INum p

noncomputable def law06INumX : Cx := mkCx Tryd.prog 4 globsG [] [] []
theorem law06INumC : CxOk law06INumX (Glob globsG) := cx_ok (by kernel_rfl) (by kernel_rfl) trivial
theorem law06INumK : CallOk Tryd.prog (Glob globsG) 15 law06INumE :=
  fun_ok (cx := law06INumX) law06INumC (fn := Tryd.f15) Tryd.func15 (by kernel_rfl) Tryd.ntmps15 Tryd.call15 _ _ _ (by kernel_rfl) (by kernel_rfl) (by kernel_rfl)
    (fun w0 hG => lall_of lall_nil (by kernel_rfl : loopsOf (bodyOf Tryd.f15) = _)) (fun p => Eq.trans (b := law06INumB p) (by kernel_rfl) (law06INum_eq p).symm)

noncomputable def ref04IGoodE : Entry := mkE [.int .i64] [.bool] fun p => ref04IGood p

noncomputable def ref04IGoodX : Cx := mkCx Tryd.prog 9 globsG [] [] []
theorem ref04IGoodC : CxOk ref04IGoodX (Glob globsG) := cx_ok (by kernel_rfl) (by kernel_rfl) trivial
theorem ref04IGoodK : CallOk Tryd.prog (Glob globsG) 70 ref04IGoodE :=
  fun_ok (cx := ref04IGoodX) ref04IGoodC (fn := Tryd.f70) Tryd.func70 (by kernel_rfl) Tryd.ntmps70 Tryd.call70 _ _ _ (by kernel_rfl) (by kernel_rfl) (by kernel_rfl)
    (fun w0 hG => lall_of lall_nil (by kernel_rfl : loopsOf (bodyOf Tryd.f70) = _)) (fun p => Eq.trans (b := ref04IGoodB p) (by kernel_rfl) (ref04IGood_eq p).symm)

noncomputable def ref04IModulusE : Entry := mkE [.int .i64] [.u256] fun p => ref04IModulus p

noncomputable def ref04IModulusX : Cx := mkCx Tryd.prog 7 globsG [] [] []
theorem ref04IModulusC : CxOk ref04IModulusX (Glob globsG) := cx_ok (by kernel_rfl) (by kernel_rfl) trivial
theorem ref04IModulusK : CallOk Tryd.prog (Glob globsG) 74 ref04IModulusE :=
  fun_ok (cx := ref04IModulusX) ref04IModulusC (fn := Tryd.f74) Tryd.func74 (by kernel_rfl) Tryd.ntmps74 Tryd.call74 _ _ _ (by kernel_rfl) (by kernel_rfl) (by kernel_rfl)
    (fun w0 hG => lall_of lall_nil (by kernel_rfl : loopsOf (bodyOf Tryd.f74) = _)) (fun p => Eq.trans (b := ref04IModulusB p) (by kernel_rfl) (ref04IModulus_eq p).symm)

noncomputable def ref04ModulusE : Entry := mkE [.int .i64] [.u256, .int .i64] fun p => ref04Modulus p

noncomputable def ref04ModulusX : Cx := mkCx Tryd.prog 12 globsG [(70, ref04IGoodE), (74, ref04IModulusE)] [] []
theorem ref04ModulusC : CxOk ref04ModulusX (Glob globsG) := cx_ok (by kernel_rfl) (by kernel_rfl) ⟨ref04IGoodK, ref04IModulusK, trivial⟩
theorem ref04ModulusK : CallOk Tryd.prog (Glob globsG) 26 ref04ModulusE :=
  fun_ok (cx := ref04ModulusX) ref04ModulusC (fn := Tryd.f26) Tryd.func26 (by kernel_rfl) Tryd.ntmps26 Tryd.call26 _ _ _ (by kernel_rfl) (by kernel_rfl) (by kernel_rfl)
    (fun w0 hG => lall_of lall_nil (by kernel_rfl : loopsOf (bodyOf Tryd.f26) = _)) (fun p => Eq.trans (b := ref04ModulusB p) (by kernel_rfl) (ref04Modulus_eq p).symm)

noncomputable def ref06IOrderE : Entry := mkE [] [.u256] fun _ => ref06IOrder

noncomputable def ref06IOrderX : Cx := mkCx Tryd.prog 8 globsG [(26, ref04ModulusE)] [] []
theorem ref06IOrderC : CxOk ref06IOrderX (Glob globsG) := cx_ok (by kernel_rfl) (by kernel_rfl) ⟨ref04ModulusK, trivial⟩
theorem ref06IOrderK : CallOk Tryd.prog (Glob globsG) 99 ref06IOrderE :=
  fun_ok (cx := ref06IOrderX) ref06IOrderC (fn := Tryd.f99) Tryd.func99 (by kernel_rfl) Tryd.ntmps99 Tryd.call99 _ _ _ (by kernel_rfl) (by kernel_rfl) (by kernel_rfl)
    (fun w0 hG => lall_of lall_nil (by kernel_rfl : loopsOf (bodyOf Tryd.f99) = _)) (fun p => Eq.trans (b := ref06IOrderB ) (by kernel_rfl) (ref06IOrder_eq ).symm)

noncomputable def ref01CmpE : Entry := mkE [.u256, .u256] [.int .i64] fun p => ref01Cmp p.1 p.2

def ref01CmpL0Y : Lay := ⟨[(false, 2, .ptr 1002 []), (false, 3, .ptr 1003 [])], [(false, 5, .int .i64), (true, 1002, .u256), (true, 1003, .u256)], [⟨[(1002, 1002), (1003, 1003)], []⟩]⟩
def ref01CmpL0Z : List (Ex × Lay) := [(.ret, ⟨[], [(false, 4, .int .i64)], [⟨[], []⟩]⟩), (.exit 0, ⟨[], [], [⟨[], []⟩]⟩)]
noncomputable def ref01CmpL0E : LEntry := mkL ref01CmpL0Y ref01CmpL0Z fun p => ref01CmpL0 p.1 p.2.1 p.2.2
noncomputable def ref01CmpX : Cx := mkCx Tryd.prog 24 globsG [] [(2, ref01CmpL0E)] []
theorem ref01CmpC : CxOk ref01CmpX (Glob globsG) := cx_ok (by kernel_rfl) (by kernel_rfl) trivial
theorem ref01CmpL0K (w0 : Ini) (hG : Glob globsG w0) : LoopOk ref01CmpX w0 (loopAt Tryd.f98 0) ref01CmpL0E :=
  loop_okH ref01CmpC hG (loopAt Tryd.f98 0) (lall_of lall_nil (by kernel_rfl : loopsOf (loopAt Tryd.f98 0) = _))
    ref01CmpL0Y ref01CmpL0Z (by kernel_rfl) (fun p => ref01CmpL0R p.1 p.2.1 p.2.2) (fun p => 1000) (fun p => by kernel_rfl) _ (fun p => ref01CmpL0_eq p.1 p.2.1 p.2.2)
theorem ref01CmpK : CallOk Tryd.prog (Glob globsG) 98 ref01CmpE :=
  fun_ok (cx := ref01CmpX) ref01CmpC (fn := Tryd.f98) Tryd.func98 (by kernel_rfl) Tryd.ntmps98 Tryd.call98 _ _ _ (by kernel_rfl) (by kernel_rfl) (by kernel_rfl)
    (fun w0 hG => lall_of (lall_cut (b := loopAt Tryd.f98 0) (ref01CmpL0K w0 hG) (by kernel_rfl) (lall_nil)) (by kernel_rfl : loopsOf (bodyOf Tryd.f98) = _)) (fun p => Eq.trans (b := ref01CmpB p.1 p.2) (by kernel_rfl) (ref01Cmp_eq p.1 p.2).symm)

noncomputable def ref06FitE : Entry := mkE [.u256] [.bool] fun p => ref06Fit p

noncomputable def ref06FitX : Cx := mkCx Tryd.prog 12 globsG [(98, ref01CmpE), (99, ref06IOrderE)] [] []
theorem ref06FitC : CxOk ref06FitX (Glob globsG) := cx_ok (by kernel_rfl) (by kernel_rfl) ⟨ref01CmpK, ref06IOrderK, trivial⟩
theorem ref06FitK : CallOk Tryd.prog (Glob globsG) 66 ref06FitE :=
  fun_ok (cx := ref06FitX) ref06FitC (fn := Tryd.f66) Tryd.func66 (by kernel_rfl) Tryd.ntmps66 Tryd.call66 _ _ _ (by kernel_rfl) (by kernel_rfl) (by kernel_rfl)
    (fun w0 hG => lall_of lall_nil (by kernel_rfl : loopsOf (bodyOf Tryd.f66) = _)) (fun p => Eq.trans (b := ref06FitB p) (by kernel_rfl) (ref06Fit_eq p).symm)

noncomputable def ref01BitE : Entry := mkE [.u256, .int .i64] [.int .i64] fun p => ref01Bit p.1 p.2

noncomputable def ref01BitX : Cx := mkCx Tryd.prog 21 globsG [] [] []
theorem ref01BitC : CxOk ref01BitX (Glob globsG) := cx_ok (by kernel_rfl) (by kernel_rfl) trivial
theorem ref01BitK : CallOk Tryd.prog (Glob globsG) 103 ref01BitE :=
  fun_ok (cx := ref01BitX) ref01BitC (fn := Tryd.f103) Tryd.func103 (by kernel_rfl) Tryd.ntmps103 Tryd.call103 _ _ _ (by kernel_rfl) (by kernel_rfl) (by kernel_rfl)
    (fun w0 hG => lall_of lall_nil (by kernel_rfl : loopsOf (bodyOf Tryd.f103) = _)) (fun p => Eq.trans (b := ref01BitB p.1 p.2) (by kernel_rfl) (ref01Bit_eq p.1 p.2).symm)

noncomputable def ref01IWithE : Entry := mkE [.u256, .int .i64] [.u256] fun p => ref01IWith p.1 p.2

noncomputable def ref01IWithX : Cx := mkCx Tryd.prog 18 globsG [] [] []
theorem ref01IWithC : CxOk ref01IWithX (Glob globsG) := cx_ok (by kernel_rfl) (by kernel_rfl) trivial
theorem ref01IWithK : CallOk Tryd.prog (Glob globsG) 110 ref01IWithE :=
  fun_ok (cx := ref01IWithX) ref01IWithC (fn := Tryd.f110) Tryd.func110 (by kernel_rfl) Tryd.ntmps110 Tryd.call110 _ _ _ (by kernel_rfl) (by kernel_rfl) (by kernel_rfl)
    (fun w0 hG => lall_of lall_nil (by kernel_rfl : loopsOf (bodyOf Tryd.f110) = _)) (fun p => Eq.trans (b := ref01IWithB p.1 p.2) (by kernel_rfl) (ref01IWith_eq p.1 p.2).symm)

noncomputable def ref01ShlE : Entry := mkE [.u256, .int .i64] [.u256] fun p => ref01Shl p.1 p.2

def ref01ShlL0Y : Lay := ⟨[(false, 2, .ptr 1002 []), (false, 4, .ptr 1004 []), (false, 5, .ptr 1005 [])], [(false, 1, .int .i64), (false, 6, .int .i64), (true, 1002, .u256), (true, 1004, .u256), (true, 1005, .u256)], [⟨[(1002, 1002), (1004, 1004), (1005, 1005)], []⟩]⟩
def ref01ShlL0Z : List (Ex × Lay) := [(.exit 0, ⟨[(false, 4, .ptr 1004 []), (false, 5, .ptr 1005 [])], [(true, 1004, .u256), (true, 1005, .u256)], [⟨[(1004, 1004), (1005, 1005)], []⟩]⟩)]
noncomputable def ref01ShlL0E : LEntry := mkL ref01ShlL0Y ref01ShlL0Z fun p => ref01ShlL0 p.1 p.2.1 p.2.2.1 p.2.2.2.1 p.2.2.2.2
noncomputable def ref01ShlX : Cx := mkCx Tryd.prog 28 globsG [(103, ref01BitE), (110, ref01IWithE)] [(5, ref01ShlL0E)] []
theorem ref01ShlC : CxOk ref01ShlX (Glob globsG) := cx_ok (by kernel_rfl) (by kernel_rfl) ⟨ref01BitK, ref01IWithK, trivial⟩
theorem ref01ShlL0K (w0 : Ini) (hG : Glob globsG w0) : LoopOk ref01ShlX w0 (loopAt Tryd.f107 0) ref01ShlL0E :=
  loop_okH ref01ShlC hG (loopAt Tryd.f107 0) (lall_of lall_nil (by kernel_rfl : loopsOf (loopAt Tryd.f107 0) = _))
    ref01ShlL0Y ref01ShlL0Z (by kernel_rfl) (fun p => ref01ShlL0R p.1 p.2.1 p.2.2.1 p.2.2.2.1 p.2.2.2.2) (fun p => 1000) (fun p => by kernel_rfl) _ (fun p => ref01ShlL0_eq p.1 p.2.1 p.2.2.1 p.2.2.2.1 p.2.2.2.2)
theorem ref01ShlK : CallOk Tryd.prog (Glob globsG) 107 ref01ShlE :=
  fun_ok (cx := ref01ShlX) ref01ShlC (fn := Tryd.f107) Tryd.func107 (by kernel_rfl) Tryd.ntmps107 Tryd.call107 _ _ _ (by kernel_rfl) (by kernel_rfl) (by kernel_rfl)
    (fun w0 hG => lall_of (lall_cut (b := loopAt Tryd.f107 0) (ref01ShlL0K w0 hG) (by kernel_rfl) (lall_nil)) (by kernel_rfl : loopsOf (bodyOf Tryd.f107) = _)) (fun p => Eq.trans (b := ref01ShlB p.1 p.2) (by kernel_rfl) (ref01Shl_eq p.1 p.2).symm)

noncomputable def ref01ShrE : Entry := mkE [.u256, .int .i64] [.u256] fun p => ref01Shr p.1 p.2

noncomputable def ref01ShrX : Cx := mkCx Tryd.prog 16 globsG [(107, ref01ShlE)] [] []
theorem ref01ShrC : CxOk ref01ShrX (Glob globsG) := cx_ok (by kernel_rfl) (by kernel_rfl) ⟨ref01ShlK, trivial⟩
theorem ref01ShrK : CallOk Tryd.prog (Glob globsG) 92 ref01ShrE :=
  fun_ok (cx := ref01ShrX) ref01ShrC (fn := Tryd.f92) Tryd.func92 (by kernel_rfl) Tryd.ntmps92 Tryd.call92 _ _ _ (by kernel_rfl) (by kernel_rfl) (by kernel_rfl)
    (fun w0 hG => lall_of lall_nil (by kernel_rfl : loopsOf (bodyOf Tryd.f92) = _)) (fun p => Eq.trans (b := ref01ShrB p.1 p.2) (by kernel_rfl) (ref01Shr_eq p.1 p.2).symm)

noncomputable def ref06LowE : Entry := mkE [.u256] [.bool] fun p => ref06Low p

noncomputable def ref06LowX : Cx := mkCx Tryd.prog 10 globsG [(92, ref01ShrE), (98, ref01CmpE), (99, ref06IOrderE)] [] []
theorem ref06LowC : CxOk ref06LowX (Glob globsG) := cx_ok (by kernel_rfl) (by kernel_rfl) ⟨ref01ShrK, ref01CmpK, ref06IOrderK, trivial⟩
theorem ref06LowK : CallOk Tryd.prog (Glob globsG) 67 ref06LowE :=
  fun_ok (cx := ref06LowX) ref06LowC (fn := Tryd.f67) Tryd.func67 (by kernel_rfl) Tryd.ntmps67 Tryd.call67 _ _ _ (by kernel_rfl) (by kernel_rfl) (by kernel_rfl)
    (fun w0 hG => lall_of lall_nil (by kernel_rfl : loopsOf (bodyOf Tryd.f67) = _)) (fun p => Eq.trans (b := ref06LowB p) (by kernel_rfl) (ref06Low_eq p).symm)

noncomputable def ref06CheckE : Entry := mkE [.st [.u256, .u256, .bool]] [.int .i64] fun p => ref06Check p

noncomputable def ref06CheckX : Cx := mkCx Tryd.prog 21 globsG [(66, ref06FitE), (67, ref06LowE)] [] []
theorem ref06CheckC : CxOk ref06CheckX (Glob globsG) := cx_ok (by kernel_rfl) (by kernel_rfl) ⟨ref06FitK, ref06LowK, trivial⟩
theorem ref06CheckK : CallOk Tryd.prog (Glob globsG) 17 ref06CheckE :=
  fun_ok (cx := ref06CheckX) ref06CheckC (fn := Tryd.f17) Tryd.func17 (by kernel_rfl) Tryd.ntmps17 Tryd.call17 _ _ _ (by kernel_rfl) (by kernel_rfl) (by kernel_rfl)
    (fun w0 hG => lall_of lall_nil (by kernel_rfl : loopsOf (bodyOf Tryd.f17) = _)) (fun p => Eq.trans (b := ref06CheckB p) (by kernel_rfl) (ref06Check_eq p).symm)

noncomputable def law06EcdsaChecksE : Entry := mkE [.st [.u256, .u256, .bool]] [.bool] fun p => law06EcdsaChecks p

noncomputable def law06EcdsaChecksX : Cx := mkCx Tryd.prog 9 globsG [(15, law06INumE), (16, ecdsaCheckE), (17, ref06CheckE)] [] []
theorem law06EcdsaChecksC : CxOk law06EcdsaChecksX (Glob globsG) := cx_ok (by kernel_rfl) (by kernel_rfl) ⟨law06INumK, ecdsaCheckK, ref06CheckK, trivial⟩
theorem law06EcdsaChecksK : CallOk Tryd.prog (Glob globsG) 3 law06EcdsaChecksE :=
  fun_ok (cx := law06EcdsaChecksX) law06EcdsaChecksC (fn := Tryd.f3) Tryd.func3 (by kernel_rfl) Tryd.ntmps3 Tryd.call3 _ _ _ (by kernel_rfl) (by kernel_rfl) (by kernel_rfl)
    (fun w0 hG => lall_of lall_nil (by kernel_rfl : loopsOf (bodyOf Tryd.f3) = _)) (fun p => Eq.trans (b := law06EcdsaChecksB p) (by kernel_rfl) (law06EcdsaChecks_eq p).symm)

noncomputable def bitsMul64E : Entry := mkE [.int .u64, .int .u64] [.int .u64, .int .u64] fun p => bitsMul64 p.1 p.2

noncomputable def bitsMul64X : Cx := mkCx Tryd.prog 51 globsG [] [] []
theorem bitsMul64C : CxOk bitsMul64X (Glob globsG) := cx_ok (by kernel_rfl) (by kernel_rfl) trivial
theorem bitsMul64K : CallOk Tryd.prog (Glob globsG) 108 bitsMul64E :=
  fun_ok (cx := bitsMul64X) bitsMul64C (fn := Tryd.f108) Tryd.func108 (by kernel_rfl) Tryd.ntmps108 Tryd.call108 _ _ _ (by kernel_rfl) (by kernel_rfl) (by kernel_rfl)
    (fun w0 hG => lall_of lall_nil (by kernel_rfl : loopsOf (bodyOf Tryd.f108) = _)) (fun p => Eq.trans (b := bitsMul64B p.1 p.2) (by kernel_rfl) (bitsMul64_eq p.1 p.2).symm)

noncomputable def u256MulE : Entry := mkE [.u256, .u256] [.u256, .u256] fun p => u256Mul p.1 p.2

def u256MulL1Y : Lay := ⟨[(false, 2, .ptr 1002 []), (false, 3, .ptr 1003 []), (false, 4, .ptr 1004 []), (false, 5, .ptr 1005 []), (false, 6, .ptr 1006 [])], [(false, 7, .int .i64), (false, 8, .int .u64), (false, 13, .int .i64), (false, 16, .int .i64), (true, 1002, .u256), (true, 1003, .u256), (true, 1004, .u256), (true, 1005, .u256), (true, 1006, .arr (.int .u64) 8)], [⟨[(1002, 1002), (1003, 1003), (1004, 1004), (1005, 1005), (1006, 1006)], []⟩]⟩
def u256MulL1Z : List (Ex × Lay) := [(.exit 2, ⟨[(false, 2, .ptr 1002 []), (false, 3, .ptr 1003 []), (false, 4, .ptr 1004 []), (false, 5, .ptr 1005 []), (false, 6, .ptr 1006 [])], [(false, 7, .int .i64), (false, 8, .int .u64), (false, 13, .int .i64), (true, 1002, .u256), (true, 1003, .u256), (true, 1004, .u256), (true, 1005, .u256), (true, 1006, .arr (.int .u64) 8)], [⟨[(1002, 1002), (1003, 1003), (1004, 1004), (1005, 1005), (1006, 1006)], []⟩]⟩)]
noncomputable def u256MulL1E : LEntry := mkL u256MulL1Y u256MulL1Z fun p => u256MulL1 p.1 p.2.1 p.2.2.1 p.2.2.2.1 p.2.2.2.2.1 p.2.2.2.2.2.1 p.2.2.2.2.2.2.1 p.2.2.2.2.2.2.2.1 p.2.2.2.2.2.2.2.2
def u256MulL0Y : Lay := ⟨[(false, 2, .ptr 1002 []), (false, 3, .ptr 1003 []), (false, 4, .ptr 1004 []), (false, 5, .ptr 1005 []), (false, 6, .ptr 1006 [])], [(false, 13, .int .i64), (true, 1002, .u256), (true, 1003, .u256), (true, 1004, .u256), (true, 1005, .u256), (true, 1006, .arr (.int .u64) 8)], [⟨[(1002, 1002), (1003, 1003), (1004, 1004), (1005, 1005), (1006, 1006)], []⟩]⟩
def u256MulL0Z : List (Ex × Lay) := [(.exit 0, ⟨[(false, 4, .ptr 1004 []), (false, 5, .ptr 1005 []), (false, 6, .ptr 1006 [])], [(true, 1004, .u256), (true, 1005, .u256), (true, 1006, .arr (.int .u64) 8)], [⟨[(1004, 1004), (1005, 1005), (1006, 1006)], []⟩]⟩)]
noncomputable def u256MulL0E : LEntry := mkL u256MulL0Y u256MulL0Z fun p => u256MulL0 p.1 p.2.1 p.2.2.1 p.2.2.2.1 p.2.2.2.2.1 p.2.2.2.2.2
noncomputable def u256MulX : Cx := mkCx Tryd.prog 70 globsG [(106, bitsAdd64E), (108, bitsMul64E)] [(7, u256MulL1E), (3, u256MulL0E)] []
theorem u256MulC : CxOk u256MulX (Glob globsG) := cx_ok (by kernel_rfl) (by kernel_rfl) ⟨bitsAdd64K, bitsMul64K, trivial⟩
theorem u256MulL1K (w0 : Ini) (hG : Glob globsG w0) : LoopOk u256MulX w0 (loopAt Tryd.f93 1) u256MulL1E :=
  loop_okH u256MulC hG (loopAt Tryd.f93 1) (lall_of lall_nil (by kernel_rfl : loopsOf (loopAt Tryd.f93 1) = _))
    u256MulL1Y u256MulL1Z (by kernel_rfl) (fun p => u256MulL1R p.1 p.2.1 p.2.2.1 p.2.2.2.1 p.2.2.2.2.1 p.2.2.2.2.2.1 p.2.2.2.2.2.2.1 p.2.2.2.2.2.2.2.1 p.2.2.2.2.2.2.2.2) (fun p => 1000) (fun p => by kernel_rfl) _ (fun p => u256MulL1_eq p.1 p.2.1 p.2.2.1 p.2.2.2.1 p.2.2.2.2.1 p.2.2.2.2.2.1 p.2.2.2.2.2.2.1 p.2.2.2.2.2.2.2.1 p.2.2.2.2.2.2.2.2)
theorem u256MulL0K (w0 : Ini) (hG : Glob globsG w0) : LoopOk u256MulX w0 (loopAt Tryd.f93 0) u256MulL0E :=
  loop_okH u256MulC hG (loopAt Tryd.f93 0) (lall_of (lall_cut (b := loopAt Tryd.f93 1) (u256MulL1K w0 hG) (by kernel_rfl) (lall_nil)) (by kernel_rfl : loopsOf (loopAt Tryd.f93 0) = _))
    u256MulL0Y u256MulL0Z (by kernel_rfl) (fun p => u256MulL0R p.1 p.2.1 p.2.2.1 p.2.2.2.1 p.2.2.2.2.1 p.2.2.2.2.2) (fun p => 1000) (fun p => by kernel_rfl) _ (fun p => u256MulL0_eq p.1 p.2.1 p.2.2.1 p.2.2.2.1 p.2.2.2.2.1 p.2.2.2.2.2)
theorem u256MulK : CallOk Tryd.prog (Glob globsG) 93 u256MulE :=
  fun_ok (cx := u256MulX) u256MulC (fn := Tryd.f93) Tryd.func93 (by kernel_rfl) Tryd.ntmps93 Tryd.call93 _ _ _ (by kernel_rfl) (by kernel_rfl) (by kernel_rfl)
    (fun w0 hG => lall_of (lall_cut (b := loopAt Tryd.f93 0) (u256MulL0K w0 hG) (by kernel_rfl) (lall_cut (b := loopAt Tryd.f93 1) (u256MulL1K w0 hG) (by kernel_rfl) (lall_nil))) (by kernel_rfl : loopsOf (bodyOf Tryd.f93) = _)) (fun p => Eq.trans (b := u256MulB p.1 p.2) (by kernel_rfl) (u256Mul_eq p.1 p.2).symm)

noncomputable def u256AddE : Entry := mkE [.u256, .u256] [.u256, .int .u64] fun p => u256Add p.1 p.2

noncomputable def u256AddX : Cx := mkCx Tryd.prog 28 globsG [(106, bitsAdd64E)] [] []
theorem u256AddC : CxOk u256AddX (Glob globsG) := cx_ok (by kernel_rfl) (by kernel_rfl) ⟨bitsAdd64K, trivial⟩
theorem u256AddK : CallOk Tryd.prog (Glob globsG) 90 u256AddE :=
  fun_ok (cx := u256AddX) u256AddC (fn := Tryd.f90) Tryd.func90 (by kernel_rfl) Tryd.ntmps90 Tryd.call90 _ _ _ (by kernel_rfl) (by kernel_rfl) (by kernel_rfl)
    (fun w0 hG => lall_of (lall_free (b := loopAt Tryd.f90 0) (by kernel_rfl) (lall_nil)) (by kernel_rfl : loopsOf (bodyOf Tryd.f90) = _)) (fun p => Eq.trans (b := u256AddB p.1 p.2) (by kernel_rfl) (u256Add_eq p.1 p.2).symm)

noncomputable def u256FromE : Entry := mkE [.int .u64] [.u256] fun p => u256From p

noncomputable def u256FromX : Cx := mkCx Tryd.prog 5 globsG [] [] []
theorem u256FromC : CxOk u256FromX (Glob globsG) := cx_ok (by kernel_rfl) (by kernel_rfl) trivial
theorem u256FromK : CallOk Tryd.prog (Glob globsG) 43 u256FromE :=
  fun_ok (cx := u256FromX) u256FromC (fn := Tryd.f43) Tryd.func43 (by kernel_rfl) Tryd.ntmps43 Tryd.call43 _ _ _ (by kernel_rfl) (by kernel_rfl) (by kernel_rfl)
    (fun w0 hG => lall_of lall_nil (by kernel_rfl : loopsOf (bodyOf Tryd.f43) = _)) (fun p => Eq.trans (b := u256FromB p) (by kernel_rfl) (u256From_eq p).symm)

noncomputable def fieldModulusFoldE : Entry := mkE [.st [.u256, .u256], .u256, .u256] [.u256] fun p => fieldModulusFold p.1 p.2.1 p.2.2

def fieldModulusFoldL0Y : Lay := ⟨[(false, 3, .ptr 1003 []), (false, 4, .ptr 1004 []), (false, 5, .ptr 1005 []), (false, 6, .ptr 1006 [])], [(true, 1003, .st [.u256, .u256]), (true, 1004, .u256), (true, 1005, .u256), (true, 1006, .u256)], [⟨[(1003, 1003), (1004, 1004), (1005, 1005), (1006, 1006)], []⟩]⟩
def fieldModulusFoldL0Z : List (Ex × Lay) := [(.exit 0, ⟨[(false, 3, .ptr 1003 []), (false, 5, .ptr 1005 []), (false, 6, .ptr 1006 [])], [(true, 1003, .st [.u256, .u256]), (true, 1005, .u256), (true, 1006, .u256)], [⟨[(1003, 1003), (1005, 1005), (1006, 1006)], []⟩]⟩)]
noncomputable def fieldModulusFoldL0E : LEntry := mkL fieldModulusFoldL0Y fieldModulusFoldL0Z fun p => fieldModulusFoldL0 p.1 p.2.1 p.2.2.1 p.2.2.2
def fieldModulusFoldL1Y : Lay := ⟨[(false, 3, .ptr 1003 []), (false, 5, .ptr 1005 []), (false, 6, .ptr 1006 [])], [(true, 1003, .st [.u256, .u256]), (true, 1005, .u256), (true, 1006, .u256)], [⟨[(1003, 1003), (1005, 1005), (1006, 1006)], []⟩]⟩
def fieldModulusFoldL1Z : List (Ex × Lay) := [(.exit 2, ⟨[(false, 5, .ptr 1005 []), (false, 6, .ptr 1006 [])], [(true, 1005, .u256), (true, 1006, .u256)], [⟨[(1005, 1005), (1006, 1006)], []⟩]⟩)]
noncomputable def fieldModulusFoldL1E : LEntry := mkL fieldModulusFoldL1Y fieldModulusFoldL1Z fun p => fieldModulusFoldL1 p.1 p.2.1 p.2.2
noncomputable def fieldModulusFoldX : Cx := mkCx Tryd.prog 46 globsG [(43, u256FromE), (44, u256CmpE), (61, u256SubE), (90, u256AddE), (93, u256MulE)] [(1, fieldModulusFoldL0E), (6, fieldModulusFoldL1E)] []
theorem fieldModulusFoldC : CxOk fieldModulusFoldX (Glob globsG) := cx_ok (by kernel_rfl) (by kernel_rfl) ⟨u256FromK, u256CmpK, u256SubK, u256AddK, u256MulK, trivial⟩
theorem fieldModulusFoldL0K (w0 : Ini) (hG : Glob globsG w0) : LoopOk fieldModulusFoldX w0 (loopAt Tryd.f72 0) fieldModulusFoldL0E :=
  loop_okH fieldModulusFoldC hG (loopAt Tryd.f72 0) (lall_of lall_nil (by kernel_rfl : loopsOf (loopAt Tryd.f72 0) = _))
    fieldModulusFoldL0Y fieldModulusFoldL0Z (by kernel_rfl) (fun p => fieldModulusFoldL0R p.1 p.2.1 p.2.2.1 p.2.2.2) (fun p => 1000) (fun p => by kernel_rfl) _ (fun p => fieldModulusFoldL0_eq p.1 p.2.1 p.2.2.1 p.2.2.2)
theorem fieldModulusFoldL1K (w0 : Ini) (hG : Glob globsG w0) : LoopOk fieldModulusFoldX w0 (loopAt Tryd.f72 1) fieldModulusFoldL1E :=
  loop_okH fieldModulusFoldC hG (loopAt Tryd.f72 1) (lall_of lall_nil (by kernel_rfl : loopsOf (loopAt Tryd.f72 1) = _))
    fieldModulusFoldL1Y fieldModulusFoldL1Z (by kernel_rfl) (fun p => fieldModulusFoldL1R p.1 p.2.1 p.2.2) (fun p => 1000) (fun p => by kernel_rfl) _ (fun p => fieldModulusFoldL1_eq p.1 p.2.1 p.2.2)
theorem fieldModulusFoldK : CallOk Tryd.prog (Glob globsG) 72 fieldModulusFoldE :=
  fun_ok (cx := fieldModulusFoldX) fieldModulusFoldC (fn := Tryd.f72) Tryd.func72 (by kernel_rfl) Tryd.ntmps72 Tryd.call72 _ _ _ (by kernel_rfl) (by kernel_rfl) (by kernel_rfl)
    (fun w0 hG => lall_of (lall_cut (b := loopAt Tryd.f72 0) (fieldModulusFoldL0K w0 hG) (by kernel_rfl) (lall_cut (b := loopAt Tryd.f72 1) (fieldModulusFoldL1K w0 hG) (by kernel_rfl) (lall_nil))) (by kernel_rfl : loopsOf (bodyOf Tryd.f72) = _)) (fun p => Eq.trans (b := fieldModulusFoldB p.1 p.2.1 p.2.2) (by kernel_rfl) (fieldModulusFold_eq p.1 p.2.1 p.2.2).symm)

noncomputable def fieldModulusMulE : Entry := mkE [.st [.u256, .u256], .u256, .u256] [.u256] fun p => fieldModulusMul p.1 p.2.1 p.2.2

noncomputable def fieldModulusMulX : Cx := mkCx Tryd.prog 14 globsG [(72, fieldModulusFoldE), (93, u256MulE)] [] []
theorem fieldModulusMulC : CxOk fieldModulusMulX (Glob globsG) := cx_ok (by kernel_rfl) (by kernel_rfl) ⟨fieldModulusFoldK, u256MulK, trivial⟩
theorem fieldModulusMulK : CallOk Tryd.prog (Glob globsG) 69 fieldModulusMulE :=
  fun_ok (cx := fieldModulusMulX) fieldModulusMulC (fn := Tryd.f69) Tryd.func69 (by kernel_rfl) Tryd.ntmps69 Tryd.call69 _ _ _ (by kernel_rfl) (by kernel_rfl) (by kernel_rfl)
    (fun w0 hG => lall_of lall_nil (by kernel_rfl : loopsOf (bodyOf Tryd.f69) = _)) (fun p => Eq.trans (b := fieldModulusMulB p.1 p.2.1 p.2.2) (by kernel_rfl) (fieldModulusMul_eq p.1 p.2.1 p.2.2).symm)

noncomputable def fieldMulE : Entry := mkE [.int .i64, .u256, .u256] [.u256, .int .i64] fun p => fieldMul p.1 p.2.1 p.2.2

noncomputable def fieldMulX : Cx := mkCx Tryd.prog 23 globsG [(68, fieldIOfE), (69, fieldModulusMulE)] [] []
theorem fieldMulC : CxOk fieldMulX (Glob globsG) := cx_ok (by kernel_rfl) (by kernel_rfl) ⟨fieldIOfK, fieldModulusMulK, trivial⟩
theorem fieldMulK : CallOk Tryd.prog (Glob globsG) 18 fieldMulE :=
  fun_ok (cx := fieldMulX) fieldMulC (fn := Tryd.f18) Tryd.func18 (by kernel_rfl) Tryd.ntmps18 Tryd.call18 _ _ _ (by kernel_rfl) (by kernel_rfl) (by kernel_rfl)
    (fun w0 hG => lall_of lall_nil (by kernel_rfl : loopsOf (bodyOf Tryd.f18) = _)) (fun p => Eq.trans (b := fieldMulB p.1 p.2.1 p.2.2) (by kernel_rfl) (fieldMul_eq p.1 p.2.1 p.2.2).symm)

noncomputable def ref01IDigitsE : Entry := mkE [.u256] [.arr (.int .u64) 8] fun p => ref01IDigits p

noncomputable def ref01IDigitsX : Cx := mkCx Tryd.prog 25 globsG [] [] []
theorem ref01IDigitsC : CxOk ref01IDigitsX (Glob globsG) := cx_ok (by kernel_rfl) (by kernel_rfl) trivial
theorem ref01IDigitsK : CallOk Tryd.prog (Glob globsG) 104 ref01IDigitsE :=
  fun_ok (cx := ref01IDigitsX) ref01IDigitsC (fn := Tryd.f104) Tryd.func104 (by kernel_rfl) Tryd.ntmps104 Tryd.call104 _ _ _ (by kernel_rfl) (by kernel_rfl) (by kernel_rfl)
    (fun w0 hG => lall_of (lall_free (b := loopAt Tryd.f104 0) (by kernel_rfl) (lall_nil)) (by kernel_rfl : loopsOf (bodyOf Tryd.f104) = _)) (fun p => Eq.trans (b := ref01IDigitsB p) (by kernel_rfl) (ref01IDigits_eq p).symm)

noncomputable def ref01INumberE : Entry := mkE [.arr (.int .u64) 8] [.u256] fun p => ref01INumber p

noncomputable def ref01INumberX : Cx := mkCx Tryd.prog 23 globsG [] [] []
theorem ref01INumberC : CxOk ref01INumberX (Glob globsG) := cx_ok (by kernel_rfl) (by kernel_rfl) trivial
theorem ref01INumberK : CallOk Tryd.prog (Glob globsG) 105 ref01INumberE :=
  fun_ok (cx := ref01INumberX) ref01INumberC (fn := Tryd.f105) Tryd.func105 (by kernel_rfl) Tryd.ntmps105 Tryd.call105 _ _ _ (by kernel_rfl) (by kernel_rfl) (by kernel_rfl)
    (fun w0 hG => lall_of (lall_free (b := loopAt Tryd.f105 0) (by kernel_rfl) (lall_nil)) (by kernel_rfl : loopsOf (bodyOf Tryd.f105) = _)) (fun p => Eq.trans (b := ref01INumberB p) (by kernel_rfl) (ref01INumber_eq p).symm)

noncomputable def ref01MulE : Entry := mkE [.u256, .u256] [.u256, .u256] fun p => ref01Mul p.1 p.2

def ref01MulL1Y : Lay := ⟨[(false, 4, .ptr 1004 []), (false, 5, .ptr 1005 []), (false, 6, .ptr 1006 []), (false, 7, .ptr 1007 []), (false, 8, .ptr 1008 [])], [(false, 9, .int .i64), (false, 10, .int .u64), (false, 11, .int .i64), (true, 1004, .u256), (true, 1005, .u256), (true, 1006, .arr (.int .u64) 8), (true, 1007, .arr (.int .u64) 8), (true, 1008, .arr (.int .u64) 16)], [⟨[(1004, 1004), (1005, 1005), (1006, 1006), (1007, 1007), (1008, 1008)], []⟩]⟩
def ref01MulL1Z : List (Ex × Lay) := [(.exit 2, ⟨[(false, 4, .ptr 1004 []), (false, 5, .ptr 1005 []), (false, 6, .ptr 1006 []), (false, 7, .ptr 1007 []), (false, 8, .ptr 1008 [])], [(false, 9, .int .i64), (false, 10, .int .u64), (true, 1004, .u256), (true, 1005, .u256), (true, 1006, .arr (.int .u64) 8), (true, 1007, .arr (.int .u64) 8), (true, 1008, .arr (.int .u64) 16)], [⟨[(1004, 1004), (1005, 1005), (1006, 1006), (1007, 1007), (1008, 1008)], []⟩]⟩)]
noncomputable def ref01MulL1E : LEntry := mkL ref01MulL1Y ref01MulL1Z fun p => ref01MulL1 p.1 p.2.1 p.2.2.1 p.2.2.2.1 p.2.2.2.2.1 p.2.2.2.2.2.1 p.2.2.2.2.2.2.1 p.2.2.2.2.2.2.2
def ref01MulL0Y : Lay := ⟨[(false, 4, .ptr 1004 []), (false, 5, .ptr 1005 []), (false, 6, .ptr 1006 []), (false, 7, .ptr 1007 []), (false, 8, .ptr 1008 [])], [(false, 9, .int .i64), (true, 1004, .u256), (true, 1005, .u256), (true, 1006, .arr (.int .u64) 8), (true, 1007, .arr (.int .u64) 8), (true, 1008, .arr (.int .u64) 16)], [⟨[(1004, 1004), (1005, 1005), (1006, 1006), (1007, 1007), (1008, 1008)], []⟩]⟩
def ref01MulL0Z : List (Ex × Lay) := [(.exit 0, ⟨[(false, 4, .ptr 1004 []), (false, 5, .ptr 1005 []), (false, 8, .ptr 1008 [])], [(true, 1004, .u256), (true, 1005, .u256), (true, 1008, .arr (.int .u64) 16)], [⟨[(1004, 1004), (1005, 1005), (1008, 1008)], []⟩]⟩)]
noncomputable def ref01MulL0E : LEntry := mkL ref01MulL0Y ref01MulL0Z fun p => ref01MulL0 p.1 p.2.1 p.2.2.1 p.2.2.2.1 p.2.2.2.2.1 p.2.2.2.2.2
def ref01MulL2Y : Lay := ⟨[(false, 4, .ptr 1004 []), (false, 5, .ptr 1005 []), (false, 8, .ptr 1008 []), (false, 13, .ptr 1013 []), (false, 14, .ptr 1014 [])], [(false, 15, .int .i64), (true, 1004, .u256), (true, 1005, .u256), (true, 1008, .arr (.int .u64) 16), (true, 1013, .arr (.int .u64) 8), (true, 1014, .arr (.int .u64) 8)], [⟨[(1004, 1004), (1005, 1005), (1008, 1008), (1013, 1013), (1014, 1014)], []⟩]⟩
def ref01MulL2Z : List (Ex × Lay) := [(.exit 4, ⟨[(false, 4, .ptr 1004 []), (false, 5, .ptr 1005 []), (false, 13, .ptr 1013 []), (false, 14, .ptr 1014 [])], [(true, 1004, .u256), (true, 1005, .u256), (true, 1013, .arr (.int .u64) 8), (true, 1014, .arr (.int .u64) 8)], [⟨[(1004, 1004), (1005, 1005), (1013, 1013), (1014, 1014)], []⟩]⟩)]
noncomputable def ref01MulL2E : LEntry := mkL ref01MulL2Y ref01MulL2Z fun p => ref01MulL2 p.1 p.2.1 p.2.2.1 p.2.2.2.1 p.2.2.2.2.1 p.2.2.2.2.2
noncomputable def ref01MulX : Cx := mkCx Tryd.prog 74 globsG [(104, ref01IDigitsE), (105, ref01INumberE)] [(9, ref01MulL1E), (5, ref01MulL0E), (17, ref01MulL2E)] []
theorem ref01MulC : CxOk ref01MulX (Glob globsG) := cx_ok (by kernel_rfl) (by kernel_rfl) ⟨ref01IDigitsK, ref01INumberK, trivial⟩
theorem ref01MulL1K (w0 : Ini) (hG : Glob globsG w0) : LoopOk ref01MulX w0 (loopAt Tryd.f100 1) ref01MulL1E :=
  loop_okH ref01MulC hG (loopAt Tryd.f100 1) (lall_of lall_nil (by kernel_rfl : loopsOf (loopAt Tryd.f100 1) = _))
    ref01MulL1Y ref01MulL1Z (by kernel_rfl) (fun p => ref01MulL1R p.1 p.2.1 p.2.2.1 p.2.2.2.1 p.2.2.2.2.1 p.2.2.2.2.2.1 p.2.2.2.2.2.2.1 p.2.2.2.2.2.2.2) (fun p => 1000) (fun p => by kernel_rfl) _ (fun p => ref01MulL1_eq p.1 p.2.1 p.2.2.1 p.2.2.2.1 p.2.2.2.2.1 p.2.2.2.2.2.1 p.2.2.2.2.2.2.1 p.2.2.2.2.2.2.2)
theorem ref01MulL0K (w0 : Ini) (hG : Glob globsG w0) : LoopOk ref01MulX w0 (loopAt Tryd.f100 0) ref01MulL0E :=
  loop_okH ref01MulC hG (loopAt Tryd.f100 0) (lall_of (lall_cut (b := loopAt Tryd.f100 1) (ref01MulL1K w0 hG) (by kernel_rfl) (lall_nil)) (by kernel_rfl : loopsOf (loopAt Tryd.f100 0) = _))
    ref01MulL0Y ref01MulL0Z (by kernel_rfl) (fun p => ref01MulL0R p.1 p.2.1 p.2.2.1 p.2.2.2.1 p.2.2.2.2.1 p.2.2.2.2.2) (fun p => 1000) (fun p => by kernel_rfl) _ (fun p => ref01MulL0_eq p.1 p.2.1 p.2.2.1 p.2.2.2.1 p.2.2.2.2.1 p.2.2.2.2.2)
theorem ref01MulL2K (w0 : Ini) (hG : Glob globsG w0) : LoopOk ref01MulX w0 (loopAt Tryd.f100 2) ref01MulL2E :=
  loop_okH ref01MulC hG (loopAt Tryd.f100 2) (lall_of lall_nil (by kernel_rfl : loopsOf (loopAt Tryd.f100 2) = _))
    ref01MulL2Y ref01MulL2Z (by kernel_rfl) (fun p => ref01MulL2R p.1 p.2.1 p.2.2.1 p.2.2.2.1 p.2.2.2.2.1 p.2.2.2.2.2) (fun p => 1000) (fun p => by kernel_rfl) _ (fun p => ref01MulL2_eq p.1 p.2.1 p.2.2.1 p.2.2.2.1 p.2.2.2.2.1 p.2.2.2.2.2)
theorem ref01MulK : CallOk Tryd.prog (Glob globsG) 100 ref01MulE :=
  fun_ok (cx := ref01MulX) ref01MulC (fn := Tryd.f100) Tryd.func100 (by kernel_rfl) Tryd.ntmps100 Tryd.call100 _ _ _ (by kernel_rfl) (by kernel_rfl) (by kernel_rfl)
    (fun w0 hG => lall_of (lall_cut (b := loopAt Tryd.f100 0) (ref01MulL0K w0 hG) (by kernel_rfl) (lall_cut (b := loopAt Tryd.f100 1) (ref01MulL1K w0 hG) (by kernel_rfl) (lall_cut (b := loopAt Tryd.f100 2) (ref01MulL2K w0 hG) (by kernel_rfl) (lall_nil)))) (by kernel_rfl : loopsOf (bodyOf Tryd.f100) = _)) (fun p => Eq.trans (b := ref01MulB p.1 p.2) (by kernel_rfl) (ref01Mul_eq p.1 p.2).symm)

noncomputable def ref01SubE : Entry := mkE [.u256, .u256] [.u256, .int .u64] fun p => ref01Sub p.1 p.2

def ref01SubL0Y : Lay := ⟨[(false, 4, .ptr 1004 []), (false, 6, .ptr 1006 []), (false, 7, .ptr 1007 [])], [(false, 8, .int .u64), (false, 9, .int .i64), (true, 1004, .u256), (true, 1006, .arr (.int .u64) 8), (true, 1007, .arr (.int .u64) 8)], [⟨[(1004, 1004), (1006, 1006), (1007, 1007)], []⟩]⟩
def ref01SubL0Z : List (Ex × Lay) := [(.exit 0, ⟨[(false, 4, .ptr 1004 []), (false, 6, .ptr 1006 [])], [(false, 8, .int .u64), (true, 1004, .u256), (true, 1006, .arr (.int .u64) 8)], [⟨[(1004, 1004), (1006, 1006)], []⟩]⟩)]
noncomputable def ref01SubL0E : LEntry := mkL ref01SubL0Y ref01SubL0Z fun p => ref01SubL0 p.1 p.2.1 p.2.2.1 p.2.2.2.1 p.2.2.2.2
noncomputable def ref01SubX : Cx := mkCx Tryd.prog 45 globsG [(104, ref01IDigitsE), (105, ref01INumberE)] [(5, ref01SubL0E)] []
theorem ref01SubC : CxOk ref01SubX (Glob globsG) := cx_ok (by kernel_rfl) (by kernel_rfl) ⟨ref01IDigitsK, ref01INumberK, trivial⟩
theorem ref01SubL0K (w0 : Ini) (hG : Glob globsG w0) : LoopOk ref01SubX w0 (loopAt Tryd.f88 0) ref01SubL0E :=
  loop_okH ref01SubC hG (loopAt Tryd.f88 0) (lall_of lall_nil (by kernel_rfl : loopsOf (loopAt Tryd.f88 0) = _))
    ref01SubL0Y ref01SubL0Z (by kernel_rfl) (fun p => ref01SubL0R p.1 p.2.1 p.2.2.1 p.2.2.2.1 p.2.2.2.2) (fun p => 1000) (fun p => by kernel_rfl) _ (fun p => ref01SubL0_eq p.1 p.2.1 p.2.2.1 p.2.2.2.1 p.2.2.2.2)
theorem ref01SubK : CallOk Tryd.prog (Glob globsG) 88 ref01SubE :=
  fun_ok (cx := ref01SubX) ref01SubC (fn := Tryd.f88) Tryd.func88 (by kernel_rfl) Tryd.ntmps88 Tryd.call88 _ _ _ (by kernel_rfl) (by kernel_rfl) (by kernel_rfl)
    (fun w0 hG => lall_of (lall_cut (b := loopAt Tryd.f88 0) (ref01SubL0K w0 hG) (by kernel_rfl) (lall_nil)) (by kernel_rfl : loopsOf (bodyOf Tryd.f88) = _)) (fun p => Eq.trans (b := ref01SubB p.1 p.2) (by kernel_rfl) (ref01Sub_eq p.1 p.2).symm)

noncomputable def ref01AddE : Entry := mkE [.u256, .u256] [.u256, .int .u64] fun p => ref01Add p.1 p.2

def ref01AddL0Y : Lay := ⟨[(false, 4, .ptr 1004 []), (false, 6, .ptr 1006 []), (false, 7, .ptr 1007 [])], [(false, 8, .int .u64), (false, 9, .int .i64), (true, 1004, .u256), (true, 1006, .arr (.int .u64) 8), (true, 1007, .arr (.int .u64) 8)], [⟨[(1004, 1004), (1006, 1006), (1007, 1007)], []⟩]⟩
def ref01AddL0Z : List (Ex × Lay) := [(.exit 0, ⟨[(false, 4, .ptr 1004 []), (false, 6, .ptr 1006 [])], [(false, 8, .int .u64), (true, 1004, .u256), (true, 1006, .arr (.int .u64) 8)], [⟨[(1004, 1004), (1006, 1006)], []⟩]⟩)]
noncomputable def ref01AddL0E : LEntry := mkL ref01AddL0Y ref01AddL0Z fun p => ref01AddL0 p.1 p.2.1 p.2.2.1 p.2.2.2.1 p.2.2.2.2
noncomputable def ref01AddX : Cx := mkCx Tryd.prog 37 globsG [(104, ref01IDigitsE), (105, ref01INumberE)] [(5, ref01AddL0E)] []
theorem ref01AddC : CxOk ref01AddX (Glob globsG) := cx_ok (by kernel_rfl) (by kernel_rfl) ⟨ref01IDigitsK, ref01INumberK, trivial⟩
theorem ref01AddL0K (w0 : Ini) (hG : Glob globsG w0) : LoopOk ref01AddX w0 (loopAt Tryd.f91 0) ref01AddL0E :=
  loop_okH ref01AddC hG (loopAt Tryd.f91 0) (lall_of lall_nil (by kernel_rfl : loopsOf (loopAt Tryd.f91 0) = _))
    ref01AddL0Y ref01AddL0Z (by kernel_rfl) (fun p => ref01AddL0R p.1 p.2.1 p.2.2.1 p.2.2.2.1 p.2.2.2.2) (fun p => 1000) (fun p => by kernel_rfl) _ (fun p => ref01AddL0_eq p.1 p.2.1 p.2.2.1 p.2.2.2.1 p.2.2.2.2)
theorem ref01AddK : CallOk Tryd.prog (Glob globsG) 91 ref01AddE :=
  fun_ok (cx := ref01AddX) ref01AddC (fn := Tryd.f91) Tryd.func91 (by kernel_rfl) Tryd.ntmps91 Tryd.call91 _ _ _ (by kernel_rfl) (by kernel_rfl) (by kernel_rfl)
    (fun w0 hG => lall_of (lall_cut (b := loopAt Tryd.f91 0) (ref01AddL0K w0 hG) (by kernel_rfl) (lall_nil)) (by kernel_rfl : loopsOf (bodyOf Tryd.f91) = _)) (fun p => Eq.trans (b := ref01AddB p.1 p.2) (by kernel_rfl) (ref01Add_eq p.1 p.2).symm)

noncomputable def ref01FromE : Entry := mkE [.int .u64] [.u256] fun p => ref01From p

noncomputable def ref01FromX : Cx := mkCx Tryd.prog 5 globsG [] [] []
theorem ref01FromC : CxOk ref01FromX (Glob globsG) := cx_ok (by kernel_rfl) (by kernel_rfl) trivial
theorem ref01FromK : CallOk Tryd.prog (Glob globsG) 89 ref01FromE :=
  fun_ok (cx := ref01FromX) ref01FromC (fn := Tryd.f89) Tryd.func89 (by kernel_rfl) Tryd.ntmps89 Tryd.call89 _ _ _ (by kernel_rfl) (by kernel_rfl) (by kernel_rfl)
    (fun w0 hG => lall_of lall_nil (by kernel_rfl : loopsOf (bodyOf Tryd.f89) = _)) (fun p => Eq.trans (b := ref01FromB p) (by kernel_rfl) (ref01From_eq p).symm)

noncomputable def ref04IFoldE : Entry := mkE [.int .i64, .u256, .u256] [.u256] fun p => ref04IFold p.1 p.2.1 p.2.2

def ref04IFoldL0Y : Lay := ⟨[(false, 4, .ptr 1004 []), (false, 5, .ptr 1005 []), (false, 6, .ptr 1006 []), (false, 7, .ptr 1007 []), (false, 8, .ptr 1008 []), (false, 9, .ptr 1009 [])], [(true, 1004, .u256), (true, 1005, .u256), (true, 1006, .u256), (true, 1007, .u256), (true, 1008, .u256), (true, 1009, .u256)], [⟨[(1004, 1004), (1005, 1005), (1006, 1006), (1007, 1007), (1008, 1008), (1009, 1009)], []⟩]⟩
def ref04IFoldL0Z : List (Ex × Lay) := [(.exit 0, ⟨[(false, 5, .ptr 1005 []), (false, 6, .ptr 1006 []), (false, 8, .ptr 1008 [])], [(true, 1005, .u256), (true, 1006, .u256), (true, 1008, .u256)], [⟨[(1005, 1005), (1006, 1006), (1008, 1008)], []⟩]⟩)]
noncomputable def ref04IFoldL0E : LEntry := mkL ref04IFoldL0Y ref04IFoldL0Z fun p => ref04IFoldL0 p.1 p.2.1 p.2.2.1 p.2.2.2.1 p.2.2.2.2.1 p.2.2.2.2.2
def ref04IFoldL1Y : Lay := ⟨[(false, 5, .ptr 1005 []), (false, 6, .ptr 1006 []), (false, 8, .ptr 1008 [])], [(true, 1005, .u256), (true, 1006, .u256), (true, 1008, .u256)], [⟨[(1005, 1005), (1006, 1006), (1008, 1008)], []⟩]⟩
def ref04IFoldL1Z : List (Ex × Lay) := [(.exit 2, ⟨[(false, 5, .ptr 1005 []), (false, 6, .ptr 1006 [])], [(true, 1005, .u256), (true, 1006, .u256)], [⟨[(1005, 1005), (1006, 1006)], []⟩]⟩)]
noncomputable def ref04IFoldL1E : LEntry := mkL ref04IFoldL1Y ref04IFoldL1Z fun p => ref04IFoldL1 p.1 p.2.1 p.2.2
noncomputable def ref04IFoldX : Cx := mkCx Tryd.prog 64 globsG [(74, ref04IModulusE), (88, ref01SubE), (89, ref01FromE), (91, ref01AddE), (98, ref01CmpE), (100, ref01MulE)] [(4, ref04IFoldL0E), (10, ref04IFoldL1E)] []
theorem ref04IFoldC : CxOk ref04IFoldX (Glob globsG) := cx_ok (by kernel_rfl) (by kernel_rfl) ⟨ref04IModulusK, ref01SubK, ref01FromK, ref01AddK, ref01CmpK, ref01MulK, trivial⟩
theorem ref04IFoldL0K (w0 : Ini) (hG : Glob globsG w0) : LoopOk ref04IFoldX w0 (loopAt Tryd.f73 0) ref04IFoldL0E :=
  loop_okH ref04IFoldC hG (loopAt Tryd.f73 0) (lall_of lall_nil (by kernel_rfl : loopsOf (loopAt Tryd.f73 0) = _))
    ref04IFoldL0Y ref04IFoldL0Z (by kernel_rfl) (fun p => ref04IFoldL0R p.1 p.2.1 p.2.2.1 p.2.2.2.1 p.2.2.2.2.1 p.2.2.2.2.2) (fun p => 1000) (fun p => by kernel_rfl) _ (fun p => ref04IFoldL0_eq p.1 p.2.1 p.2.2.1 p.2.2.2.1 p.2.2.2.2.1 p.2.2.2.2.2)
theorem ref04IFoldL1K (w0 : Ini) (hG : Glob globsG w0) : LoopOk ref04IFoldX w0 (loopAt Tryd.f73 1) ref04IFoldL1E :=
  loop_okH ref04IFoldC hG (loopAt Tryd.f73 1) (lall_of lall_nil (by kernel_rfl : loopsOf (loopAt Tryd.f73 1) = _))
    ref04IFoldL1Y ref04IFoldL1Z (by kernel_rfl) (fun p => ref04IFoldL1R p.1 p.2.1 p.2.2) (fun p => 1000) (fun p => by kernel_rfl) _ (fun p => ref04IFoldL1_eq p.1 p.2.1 p.2.2)
theorem ref04IFoldK : CallOk Tryd.prog (Glob globsG) 73 ref04IFoldE :=
  fun_ok (cx := ref04IFoldX) ref04IFoldC (fn := Tryd.f73) Tryd.func73 (by kernel_rfl) Tryd.ntmps73 Tryd.call73 _ _ _ (by kernel_rfl) (by kernel_rfl) (by kernel_rfl)
    (fun w0 hG => lall_of (lall_cut (b := loopAt Tryd.f73 0) (ref04IFoldL0K w0 hG) (by kernel_rfl) (lall_cut (b := loopAt Tryd.f73 1) (ref04IFoldL1K w0 hG) (by kernel_rfl) (lall_nil))) (by kernel_rfl : loopsOf (bodyOf Tryd.f73) = _)) (fun p => Eq.trans (b := ref04IFoldB p.1 p.2.1 p.2.2) (by kernel_rfl) (ref04IFold_eq p.1 p.2.1 p.2.2).symm)

noncomputable def ref04ITimesE : Entry := mkE [.int .i64, .u256, .u256] [.u256] fun p => ref04ITimes p.1 p.2.1 p.2.2

noncomputable def ref04ITimesX : Cx := mkCx Tryd.prog 19 globsG [(73, ref04IFoldE), (100, ref01MulE)] [] []
theorem ref04ITimesC : CxOk ref04ITimesX (Glob globsG) := cx_ok (by kernel_rfl) (by kernel_rfl) ⟨ref04IFoldK, ref01MulK, trivial⟩
theorem ref04ITimesK : CallOk Tryd.prog (Glob globsG) 71 ref04ITimesE :=
  fun_ok (cx := ref04ITimesX) ref04ITimesC (fn := Tryd.f71) Tryd.func71 (by kernel_rfl) Tryd.ntmps71 Tryd.call71 _ _ _ (by kernel_rfl) (by kernel_rfl) (by kernel_rfl)
    (fun w0 hG => lall_of lall_nil (by kernel_rfl : loopsOf (bodyOf Tryd.f71) = _)) (fun p => Eq.trans (b := ref04ITimesB p.1 p.2.1 p.2.2) (by kernel_rfl) (ref04ITimes_eq p.1 p.2.1 p.2.2).symm)

noncomputable def ref04MulE : Entry := mkE [.int .i64, .u256, .u256] [.u256, .int .i64] fun p => ref04Mul p.1 p.2.1 p.2.2

noncomputable def ref04MulX : Cx := mkCx Tryd.prog 18 globsG [(70, ref04IGoodE), (71, ref04ITimesE)] [] []
theorem ref04MulC : CxOk ref04MulX (Glob globsG) := cx_ok (by kernel_rfl) (by kernel_rfl) ⟨ref04IGoodK, ref04ITimesK, trivial⟩
theorem ref04MulK : CallOk Tryd.prog (Glob globsG) 19 ref04MulE :=
  fun_ok (cx := ref04MulX) ref04MulC (fn := Tryd.f19) Tryd.func19 (by kernel_rfl) Tryd.ntmps19 Tryd.call19 _ _ _ (by kernel_rfl) (by kernel_rfl) (by kernel_rfl)
    (fun w0 hG => lall_of lall_nil (by kernel_rfl : loopsOf (bodyOf Tryd.f19) = _)) (fun p => Eq.trans (b := ref04MulB p.1 p.2.1 p.2.2) (by kernel_rfl) (ref04Mul_eq p.1 p.2.1 p.2.2).symm)

noncomputable def law04INumE : Entry := mkE [.int .i64] [.int .i64] fun p => law04INum p

noncomputable def law04INumX : Cx := mkCx Tryd.prog 4 globsG [] [] []
theorem law04INumC : CxOk law04INumX (Glob globsG) := cx_ok (by kernel_rfl) (by kernel_rfl) trivial
theorem law04INumK : CallOk Tryd.prog (Glob globsG) 20 law04INumE :=
  fun_ok (cx := law04INumX) law04INumC (fn := Tryd.f20) Tryd.func20 (by kernel_rfl) Tryd.ntmps20 Tryd.call20 _ _ _ (by kernel_rfl) (by kernel_rfl) (by kernel_rfl)
    (fun w0 hG => lall_of lall_nil (by kernel_rfl : loopsOf (bodyOf Tryd.f20) = _)) (fun p => Eq.trans (b := law04INumB p) (by kernel_rfl) (law04INum_eq p).symm)

noncomputable def fieldSquareE : Entry := mkE [.int .i64, .u256] [.u256, .int .i64] fun p => fieldSquare p.1 p.2

noncomputable def fieldSquareX : Cx := mkCx Tryd.prog 12 globsG [(18, fieldMulE)] [] []
theorem fieldSquareC : CxOk fieldSquareX (Glob globsG) := cx_ok (by kernel_rfl) (by kernel_rfl) ⟨fieldMulK, trivial⟩
theorem fieldSquareK : CallOk Tryd.prog (Glob globsG) 21 fieldSquareE :=
  fun_ok (cx := fieldSquareX) fieldSquareC (fn := Tryd.f21) Tryd.func21 (by kernel_rfl) Tryd.ntmps21 Tryd.call21 _ _ _ (by kernel_rfl) (by kernel_rfl) (by kernel_rfl)
    (fun w0 hG => lall_of lall_nil (by kernel_rfl : loopsOf (bodyOf Tryd.f21) = _)) (fun p => Eq.trans (b := fieldSquareB p.1 p.2) (by kernel_rfl) (fieldSquare_eq p.1 p.2).symm)

noncomputable def ref04SquareE : Entry := mkE [.int .i64, .u256] [.u256, .int .i64] fun p => ref04Square p.1 p.2

noncomputable def ref04SquareX : Cx := mkCx Tryd.prog 12 globsG [(19, ref04MulE)] [] []
theorem ref04SquareC : CxOk ref04SquareX (Glob globsG) := cx_ok (by kernel_rfl) (by kernel_rfl) ⟨ref04MulK, trivial⟩
theorem ref04SquareK : CallOk Tryd.prog (Glob globsG) 22 ref04SquareE :=
  fun_ok (cx := ref04SquareX) ref04SquareC (fn := Tryd.f22) Tryd.func22 (by kernel_rfl) Tryd.ntmps22 Tryd.call22 _ _ _ (by kernel_rfl) (by kernel_rfl) (by kernel_rfl)
    (fun w0 hG => lall_of lall_nil (by kernel_rfl : loopsOf (bodyOf Tryd.f22) = _)) (fun p => Eq.trans (b := ref04SquareB p.1 p.2) (by kernel_rfl) (ref04Square_eq p.1 p.2).symm)

noncomputable def fieldReduceE : Entry := mkE [.int .i64, .u256, .u256] [.u256, .int .i64] fun p => fieldReduce p.1 p.2.1 p.2.2

noncomputable def fieldReduceX : Cx := mkCx Tryd.prog 23 globsG [(68, fieldIOfE), (72, fieldModulusFoldE)] [] []
theorem fieldReduceC : CxOk fieldReduceX (Glob globsG) := cx_ok (by kernel_rfl) (by kernel_rfl) ⟨fieldIOfK, fieldModulusFoldK, trivial⟩
theorem fieldReduceK : CallOk Tryd.prog (Glob globsG) 23 fieldReduceE :=
  fun_ok (cx := fieldReduceX) fieldReduceC (fn := Tryd.f23) Tryd.func23 (by kernel_rfl) Tryd.ntmps23 Tryd.call23 _ _ _ (by kernel_rfl) (by kernel_rfl) (by kernel_rfl)
    (fun w0 hG => lall_of lall_nil (by kernel_rfl : loopsOf (bodyOf Tryd.f23) = _)) (fun p => Eq.trans (b := fieldReduceB p.1 p.2.1 p.2.2) (by kernel_rfl) (fieldReduce_eq p.1 p.2.1 p.2.2).symm)

noncomputable def ref04ReduceE : Entry := mkE [.int .i64, .u256, .u256] [.u256, .int .i64] fun p => ref04Reduce p.1 p.2.1 p.2.2

noncomputable def ref04ReduceX : Cx := mkCx Tryd.prog 18 globsG [(70, ref04IGoodE), (73, ref04IFoldE)] [] []
theorem ref04ReduceC : CxOk ref04ReduceX (Glob globsG) := cx_ok (by kernel_rfl) (by kernel_rfl) ⟨ref04IGoodK, ref04IFoldK, trivial⟩
theorem ref04ReduceK : CallOk Tryd.prog (Glob globsG) 24 ref04ReduceE :=
  fun_ok (cx := ref04ReduceX) ref04ReduceC (fn := Tryd.f24) Tryd.func24 (by kernel_rfl) Tryd.ntmps24 Tryd.call24 _ _ _ (by kernel_rfl) (by kernel_rfl) (by kernel_rfl)
    (fun w0 hG => lall_of lall_nil (by kernel_rfl : loopsOf (bodyOf Tryd.f24) = _)) (fun p => Eq.trans (b := ref04ReduceB p.1 p.2.1 p.2.2) (by kernel_rfl) (ref04Reduce_eq p.1 p.2.1 p.2.2).symm)

noncomputable def law04FieldProductsE : Entry := mkE [.int .i64, .u256, .u256] [.bool] fun p => law04FieldProducts p.1 p.2.1 p.2.2

noncomputable def law04FieldProductsX : Cx := mkCx Tryd.prog 78 globsG [(18, fieldMulE), (19, ref04MulE), (20, law04INumE), (21, fieldSquareE), (22, ref04SquareE), (23, fieldReduceE), (24, ref04ReduceE)] [] []
theorem law04FieldProductsC : CxOk law04FieldProductsX (Glob globsG) := cx_ok (by kernel_rfl) (by kernel_rfl) ⟨fieldMulK, ref04MulK, law04INumK, fieldSquareK, ref04SquareK, fieldReduceK, ref04ReduceK, trivial⟩
theorem law04FieldProductsK : CallOk Tryd.prog (Glob globsG) 4 law04FieldProductsE :=
  fun_ok (cx := law04FieldProductsX) law04FieldProductsC (fn := Tryd.f4) Tryd.func4 (by kernel_rfl) Tryd.ntmps4 Tryd.call4 _ _ _ (by kernel_rfl) (by kernel_rfl) (by kernel_rfl)
    (fun w0 hG => lall_of lall_nil (by kernel_rfl : loopsOf (bodyOf Tryd.f4) = _)) (fun p => Eq.trans (b := law04FieldProductsB p.1 p.2.1 p.2.2) (by kernel_rfl) (law04FieldProducts_eq p.1 p.2.1 p.2.2).symm)

noncomputable def fieldModulusAddE : Entry := mkE [.st [.u256, .u256], .u256, .u256] [.u256] fun p => fieldModulusAdd p.1 p.2.1 p.2.2

noncomputable def fieldModulusAddX : Cx := mkCx Tryd.prog 20 globsG [(43, u256FromE), (72, fieldModulusFoldE), (90, u256AddE)] [] []
theorem fieldModulusAddC : CxOk fieldModulusAddX (Glob globsG) := cx_ok (by kernel_rfl) (by kernel_rfl) ⟨u256FromK, fieldModulusFoldK, u256AddK, trivial⟩
theorem fieldModulusAddK : CallOk Tryd.prog (Glob globsG) 75 fieldModulusAddE :=
  fun_ok (cx := fieldModulusAddX) fieldModulusAddC (fn := Tryd.f75) Tryd.func75 (by kernel_rfl) Tryd.ntmps75 Tryd.call75 _ _ _ (by kernel_rfl) (by kernel_rfl) (by kernel_rfl)
    (fun w0 hG => lall_of lall_nil (by kernel_rfl : loopsOf (bodyOf Tryd.f75) = _)) (fun p => Eq.trans (b := fieldModulusAddB p.1 p.2.1 p.2.2) (by kernel_rfl) (fieldModulusAdd_eq p.1 p.2.1 p.2.2).symm)

noncomputable def fieldAddE : Entry := mkE [.int .i64, .u256, .u256] [.u256, .int .i64] fun p => fieldAdd p.1 p.2.1 p.2.2

noncomputable def fieldAddX : Cx := mkCx Tryd.prog 23 globsG [(68, fieldIOfE), (75, fieldModulusAddE)] [] []
theorem fieldAddC : CxOk fieldAddX (Glob globsG) := cx_ok (by kernel_rfl) (by kernel_rfl) ⟨fieldIOfK, fieldModulusAddK, trivial⟩
theorem fieldAddK : CallOk Tryd.prog (Glob globsG) 27 fieldAddE :=
  fun_ok (cx := fieldAddX) fieldAddC (fn := Tryd.f27) Tryd.func27 (by kernel_rfl) Tryd.ntmps27 Tryd.call27 _ _ _ (by kernel_rfl) (by kernel_rfl) (by kernel_rfl)
    (fun w0 hG => lall_of lall_nil (by kernel_rfl : loopsOf (bodyOf Tryd.f27) = _)) (fun p => Eq.trans (b := fieldAddB p.1 p.2.1 p.2.2) (by kernel_rfl) (fieldAdd_eq p.1 p.2.1 p.2.2).symm)

noncomputable def ref04IPlusE : Entry := mkE [.int .i64, .u256, .u256] [.u256] fun p => ref04IPlus p.1 p.2.1 p.2.2

noncomputable def ref04IPlusX : Cx := mkCx Tryd.prog 20 globsG [(73, ref04IFoldE), (89, ref01FromE), (91, ref01AddE)] [] []
theorem ref04IPlusC : CxOk ref04IPlusX (Glob globsG) := cx_ok (by kernel_rfl) (by kernel_rfl) ⟨ref04IFoldK, ref01FromK, ref01AddK, trivial⟩
theorem ref04IPlusK : CallOk Tryd.prog (Glob globsG) 76 ref04IPlusE :=
  fun_ok (cx := ref04IPlusX) ref04IPlusC (fn := Tryd.f76) Tryd.func76 (by kernel_rfl) Tryd.ntmps76 Tryd.call76 _ _ _ (by kernel_rfl) (by kernel_rfl) (by kernel_rfl)
    (fun w0 hG => lall_of lall_nil (by kernel_rfl : loopsOf (bodyOf Tryd.f76) = _)) (fun p => Eq.trans (b := ref04IPlusB p.1 p.2.1 p.2.2) (by kernel_rfl) (ref04IPlus_eq p.1 p.2.1 p.2.2).symm)

noncomputable def ref04AddE : Entry := mkE [.int .i64, .u256, .u256] [.u256, .int .i64] fun p => ref04Add p.1 p.2.1 p.2.2

noncomputable def ref04AddX : Cx := mkCx Tryd.prog 18 globsG [(70, ref04IGoodE), (76, ref04IPlusE)] [] []
theorem ref04AddC : CxOk ref04AddX (Glob globsG) := cx_ok (by kernel_rfl) (by kernel_rfl) ⟨ref04IGoodK, ref04IPlusK, trivial⟩
theorem ref04AddK : CallOk Tryd.prog (Glob globsG) 28 ref04AddE :=
  fun_ok (cx := ref04AddX) ref04AddC (fn := Tryd.f28) Tryd.func28 (by kernel_rfl) Tryd.ntmps28 Tryd.call28 _ _ _ (by kernel_rfl) (by kernel_rfl) (by kernel_rfl)
    (fun w0 hG => lall_of lall_nil (by kernel_rfl : loopsOf (bodyOf Tryd.f28) = _)) (fun p => Eq.trans (b := ref04AddB p.1 p.2.1 p.2.2) (by kernel_rfl) (ref04Add_eq p.1 p.2.1 p.2.2).symm)

noncomputable def fieldModulusOneE : Entry := mkE [.st [.u256, .u256], .u256] [.u256] fun p => fieldModulusOne p.1 p.2

noncomputable def fieldModulusOneX : Cx := mkCx Tryd.prog 9 globsG [(72, fieldModulusFoldE)] [] []
theorem fieldModulusOneC : CxOk fieldModulusOneX (Glob globsG) := cx_ok (by kernel_rfl) (by kernel_rfl) ⟨fieldModulusFoldK, trivial⟩
theorem fieldModulusOneK : CallOk Tryd.prog (Glob globsG) 85 fieldModulusOneE :=
  fun_ok (cx := fieldModulusOneX) fieldModulusOneC (fn := Tryd.f85) Tryd.func85 (by kernel_rfl) Tryd.ntmps85 Tryd.call85 _ _ _ (by kernel_rfl) (by kernel_rfl) (by kernel_rfl)
    (fun w0 hG => lall_of lall_nil (by kernel_rfl : loopsOf (bodyOf Tryd.f85) = _)) (fun p => Eq.trans (b := fieldModulusOneB p.1 p.2) (by kernel_rfl) (fieldModulusOne_eq p.1 p.2).symm)

noncomputable def fieldModulusNegE : Entry := mkE [.st [.u256, .u256], .u256] [.u256] fun p => fieldModulusNeg p.1 p.2

noncomputable def fieldModulusNegX : Cx := mkCx Tryd.prog 19 globsG [(61, u256SubE), (85, fieldModulusOneE)] [] []
theorem fieldModulusNegC : CxOk fieldModulusNegX (Glob globsG) := cx_ok (by kernel_rfl) (by kernel_rfl) ⟨u256SubK, fieldModulusOneK, trivial⟩
theorem fieldModulusNegK : CallOk Tryd.prog (Glob globsG) 77 fieldModulusNegE :=
  fun_ok (cx := fieldModulusNegX) fieldModulusNegC (fn := Tryd.f77) Tryd.func77 (by kernel_rfl) Tryd.ntmps77 Tryd.call77 _ _ _ (by kernel_rfl) (by kernel_rfl) (by kernel_rfl)
    (fun w0 hG => lall_of lall_nil (by kernel_rfl : loopsOf (bodyOf Tryd.f77) = _)) (fun p => Eq.trans (b := fieldModulusNegB p.1 p.2) (by kernel_rfl) (fieldModulusNeg_eq p.1 p.2).symm)

noncomputable def fieldSubE : Entry := mkE [.int .i64, .u256, .u256] [.u256, .int .i64] fun p => fieldSub p.1 p.2.1 p.2.2

noncomputable def fieldSubX : Cx := mkCx Tryd.prog 25 globsG [(68, fieldIOfE), (75, fieldModulusAddE), (77, fieldModulusNegE)] [] []
theorem fieldSubC : CxOk fieldSubX (Glob globsG) := cx_ok (by kernel_rfl) (by kernel_rfl) ⟨fieldIOfK, fieldModulusAddK, fieldModulusNegK, trivial⟩
theorem fieldSubK : CallOk Tryd.prog (Glob globsG) 29 fieldSubE :=
  fun_ok (cx := fieldSubX) fieldSubC (fn := Tryd.f29) Tryd.func29 (by kernel_rfl) Tryd.ntmps29 Tryd.call29 _ _ _ (by kernel_rfl) (by kernel_rfl) (by kernel_rfl)
    (fun w0 hG => lall_of lall_nil (by kernel_rfl : loopsOf (bodyOf Tryd.f29) = _)) (fun p => Eq.trans (b := fieldSubB p.1 p.2.1 p.2.2) (by kernel_rfl) (fieldSub_eq p.1 p.2.1 p.2.2).symm)

noncomputable def ref04IBelowE : Entry := mkE [.int .i64, .u256] [.u256] fun p => ref04IBelow p.1 p.2

noncomputable def ref04IBelowX : Cx := mkCx Tryd.prog 9 globsG [(73, ref04IFoldE)] [] []
theorem ref04IBelowC : CxOk ref04IBelowX (Glob globsG) := cx_ok (by kernel_rfl) (by kernel_rfl) ⟨ref04IFoldK, trivial⟩
theorem ref04IBelowK : CallOk Tryd.prog (Glob globsG) 87 ref04IBelowE :=
  fun_ok (cx := ref04IBelowX) ref04IBelowC (fn := Tryd.f87) Tryd.func87 (by kernel_rfl) Tryd.ntmps87 Tryd.call87 _ _ _ (by kernel_rfl) (by kernel_rfl) (by kernel_rfl)
    (fun w0 hG => lall_of lall_nil (by kernel_rfl : loopsOf (bodyOf Tryd.f87) = _)) (fun p => Eq.trans (b := ref04IBelowB p.1 p.2) (by kernel_rfl) (ref04IBelow_eq p.1 p.2).symm)

noncomputable def ref04ILessE : Entry := mkE [.int .i64, .u256] [.u256] fun p => ref04ILess p.1 p.2

noncomputable def ref04ILessX : Cx := mkCx Tryd.prog 19 globsG [(74, ref04IModulusE), (87, ref04IBelowE), (88, ref01SubE)] [] []
theorem ref04ILessC : CxOk ref04ILessX (Glob globsG) := cx_ok (by kernel_rfl) (by kernel_rfl) ⟨ref04IModulusK, ref04IBelowK, ref01SubK, trivial⟩
theorem ref04ILessK : CallOk Tryd.prog (Glob globsG) 78 ref04ILessE :=
  fun_ok (cx := ref04ILessX) ref04ILessC (fn := Tryd.f78) Tryd.func78 (by kernel_rfl) Tryd.ntmps78 Tryd.call78 _ _ _ (by kernel_rfl) (by kernel_rfl) (by kernel_rfl)
    (fun w0 hG => lall_of lall_nil (by kernel_rfl : loopsOf (bodyOf Tryd.f78) = _)) (fun p => Eq.trans (b := ref04ILessB p.1 p.2) (by kernel_rfl) (ref04ILess_eq p.1 p.2).symm)

noncomputable def ref04SubE : Entry := mkE [.int .i64, .u256, .u256] [.u256, .int .i64] fun p => ref04Sub p.1 p.2.1 p.2.2

noncomputable def ref04SubX : Cx := mkCx Tryd.prog 20 globsG [(70, ref04IGoodE), (76, ref04IPlusE), (78, ref04ILessE)] [] []
theorem ref04SubC : CxOk ref04SubX (Glob globsG) := cx_ok (by kernel_rfl) (by kernel_rfl) ⟨ref04IGoodK, ref04IPlusK, ref04ILessK, trivial⟩
theorem ref04SubK : CallOk Tryd.prog (Glob globsG) 30 ref04SubE :=
  fun_ok (cx := ref04SubX) ref04SubC (fn := Tryd.f30) Tryd.func30 (by kernel_rfl) Tryd.ntmps30 Tryd.call30 _ _ _ (by kernel_rfl) (by kernel_rfl) (by kernel_rfl)
    (fun w0 hG => lall_of lall_nil (by kernel_rfl : loopsOf (bodyOf Tryd.f30) = _)) (fun p => Eq.trans (b := ref04SubB p.1 p.2.1 p.2.2) (by kernel_rfl) (ref04Sub_eq p.1 p.2.1 p.2.2).symm)

noncomputable def fieldNegE : Entry := mkE [.int .i64, .u256] [.u256, .int .i64] fun p => fieldNeg p.1 p.2

noncomputable def fieldNegX : Cx := mkCx Tryd.prog 20 globsG [(68, fieldIOfE), (77, fieldModulusNegE)] [] []
theorem fieldNegC : CxOk fieldNegX (Glob globsG) := cx_ok (by kernel_rfl) (by kernel_rfl) ⟨fieldIOfK, fieldModulusNegK, trivial⟩
theorem fieldNegK : CallOk Tryd.prog (Glob globsG) 31 fieldNegE :=
  fun_ok (cx := fieldNegX) fieldNegC (fn := Tryd.f31) Tryd.func31 (by kernel_rfl) Tryd.ntmps31 Tryd.call31 _ _ _ (by kernel_rfl) (by kernel_rfl) (by kernel_rfl)
    (fun w0 hG => lall_of lall_nil (by kernel_rfl : loopsOf (bodyOf Tryd.f31) = _)) (fun p => Eq.trans (b := fieldNegB p.1 p.2) (by kernel_rfl) (fieldNeg_eq p.1 p.2).symm)

noncomputable def ref04NegE : Entry := mkE [.int .i64, .u256] [.u256, .int .i64] fun p => ref04Neg p.1 p.2

noncomputable def ref04NegX : Cx := mkCx Tryd.prog 15 globsG [(70, ref04IGoodE), (78, ref04ILessE)] [] []
theorem ref04NegC : CxOk ref04NegX (Glob globsG) := cx_ok (by kernel_rfl) (by kernel_rfl) ⟨ref04IGoodK, ref04ILessK, trivial⟩
theorem ref04NegK : CallOk Tryd.prog (Glob globsG) 32 ref04NegE :=
  fun_ok (cx := ref04NegX) ref04NegC (fn := Tryd.f32) Tryd.func32 (by kernel_rfl) Tryd.ntmps32 Tryd.call32 _ _ _ (by kernel_rfl) (by kernel_rfl) (by kernel_rfl)
    (fun w0 hG => lall_of lall_nil (by kernel_rfl : loopsOf (bodyOf Tryd.f32) = _)) (fun p => Eq.trans (b := ref04NegB p.1 p.2) (by kernel_rfl) (ref04Neg_eq p.1 p.2).symm)

noncomputable def law04FieldSumsE : Entry := mkE [.int .i64, .u256, .u256] [.bool] fun p => law04FieldSums p.1 p.2.1 p.2.2

noncomputable def law04FieldSumsX : Cx := mkCx Tryd.prog 97 globsG [(20, law04INumE), (25, fieldModulusE), (26, ref04ModulusE), (27, fieldAddE), (28, ref04AddE), (29, fieldSubE), (30, ref04SubE), (31, fieldNegE), (32, ref04NegE)] [] []
theorem law04FieldSumsC : CxOk law04FieldSumsX (Glob globsG) := cx_ok (by kernel_rfl) (by kernel_rfl) ⟨law04INumK, fieldModulusK, ref04ModulusK, fieldAddK, ref04AddK, fieldSubK, ref04SubK, fieldNegK, ref04NegK, trivial⟩
theorem law04FieldSumsK : CallOk Tryd.prog (Glob globsG) 5 law04FieldSumsE :=
  fun_ok (cx := law04FieldSumsX) law04FieldSumsC (fn := Tryd.f5) Tryd.func5 (by kernel_rfl) Tryd.ntmps5 Tryd.call5 _ _ _ (by kernel_rfl) (by kernel_rfl) (by kernel_rfl)
    (fun w0 hG => lall_of lall_nil (by kernel_rfl : loopsOf (bodyOf Tryd.f5) = _)) (fun p => Eq.trans (b := law04FieldSumsB p.1 p.2.1 p.2.2) (by kernel_rfl) (law04FieldSums_eq p.1 p.2.1 p.2.2).symm)

noncomputable def bitsLen64E : Entry := mkE [.int .u64] [.int .i64] fun p => bitsLen64 p

noncomputable def bitsLen64X : Cx := mkCx Tryd.prog 25 globsG [] [] []
theorem bitsLen64C : CxOk bitsLen64X (Glob globsG) := cx_ok (by kernel_rfl) (by kernel_rfl) trivial
theorem bitsLen64K : CallOk Tryd.prog (Glob globsG) 109 bitsLen64E :=
  fun_ok (cx := bitsLen64X) bitsLen64C (fn := Tryd.f109) Tryd.func109 (by kernel_rfl) Tryd.ntmps109 Tryd.call109 _ _ _ (by kernel_rfl) (by kernel_rfl) (by kernel_rfl)
    (fun w0 hG => lall_of lall_nil (by kernel_rfl : loopsOf (bodyOf Tryd.f109) = _)) (fun p => Eq.trans (b := bitsLen64B p) (by kernel_rfl) (bitsLen64_eq p).symm)

noncomputable def u256LenE : Entry := mkE [.u256] [.int .i64] fun p => u256Len p

def u256LenL0Y : Lay := ⟨[(false, 1, .ptr 1001 [])], [(false, 3, .int .i64), (true, 1001, .u256)], [⟨[(1001, 1001)], []⟩]⟩
def u256LenL0Z : List (Ex × Lay) := [(.ret, ⟨[], [(false, 2, .int .i64)], [⟨[], []⟩]⟩), (.exit 0, ⟨[], [], [⟨[], []⟩]⟩)]
noncomputable def u256LenL0E : LEntry := mkL u256LenL0Y u256LenL0Z fun p => u256LenL0 p.1 p.2
noncomputable def u256LenX : Cx := mkCx Tryd.prog 19 globsG [(109, bitsLen64E)] [(2, u256LenL0E)] []
theorem u256LenC : CxOk u256LenX (Glob globsG) := cx_ok (by kernel_rfl) (by kernel_rfl) ⟨bitsLen64K, trivial⟩
theorem u256LenL0K (w0 : Ini) (hG : Glob globsG w0) : LoopOk u256LenX w0 (loopAt Tryd.f101 0) u256LenL0E :=
  loop_okH u256LenC hG (loopAt Tryd.f101 0) (lall_of lall_nil (by kernel_rfl : loopsOf (loopAt Tryd.f101 0) = _))
    u256LenL0Y u256LenL0Z (by kernel_rfl) (fun p => u256LenL0R p.1 p.2) (fun p => 1000) (fun p => by kernel_rfl) _ (fun p => u256LenL0_eq p.1 p.2)
theorem u256LenK : CallOk Tryd.prog (Glob globsG) 101 u256LenE :=
  fun_ok (cx := u256LenX) u256LenC (fn := Tryd.f101) Tryd.func101 (by kernel_rfl) Tryd.ntmps101 Tryd.call101 _ _ _ (by kernel_rfl) (by kernel_rfl) (by kernel_rfl)
    (fun w0 hG => lall_of (lall_cut (b := loopAt Tryd.f101 0) (u256LenL0K w0 hG) (by kernel_rfl) (lall_nil)) (by kernel_rfl : loopsOf (bodyOf Tryd.f101) = _)) (fun p => Eq.trans (b := u256LenB p) (by kernel_rfl) (u256Len_eq p).symm)

noncomputable def u256BitE : Entry := mkE [.u256, .int .i64] [.int .i64] fun p => u256Bit p.1 p.2

noncomputable def u256BitX : Cx := mkCx Tryd.prog 20 globsG [] [] []
theorem u256BitC : CxOk u256BitX (Glob globsG) := cx_ok (by kernel_rfl) (by kernel_rfl) trivial
theorem u256BitK : CallOk Tryd.prog (Glob globsG) 63 u256BitE :=
  fun_ok (cx := u256BitX) u256BitC (fn := Tryd.f63) Tryd.func63 (by kernel_rfl) Tryd.ntmps63 Tryd.call63 _ _ _ (by kernel_rfl) (by kernel_rfl) (by kernel_rfl)
    (fun w0 hG => lall_of lall_nil (by kernel_rfl : loopsOf (bodyOf Tryd.f63) = _)) (fun p => Eq.trans (b := u256BitB p.1 p.2) (by kernel_rfl) (u256Bit_eq p.1 p.2).symm)

noncomputable def fieldModulusExpE : Entry := mkE [.st [.u256, .u256], .u256, .u256] [.u256] fun p => fieldModulusExp p.1 p.2.1 p.2.2

def fieldModulusExpL0Y : Lay := ⟨[(false, 3, .ptr 1003 []), (false, 4, .ptr 1004 []), (false, 5, .ptr 1005 []), (false, 6, .ptr 1006 []), (false, 7, .ptr 1007 [])], [(false, 8, .int .i64), (true, 1003, .st [.u256, .u256]), (true, 1004, .u256), (true, 1005, .u256), (true, 1006, .u256), (true, 1007, .u256)], [⟨[(1003, 1003), (1004, 1004), (1005, 1005), (1006, 1006), (1007, 1007)], []⟩]⟩
def fieldModulusExpL0Z : List (Ex × Lay) := [(.exit 0, ⟨[(false, 6, .ptr 1006 []), (false, 7, .ptr 1007 [])], [(true, 1006, .u256), (true, 1007, .u256)], [⟨[(1006, 1006), (1007, 1007)], []⟩]⟩)]
noncomputable def fieldModulusExpL0E : LEntry := mkL fieldModulusExpL0Y fieldModulusExpL0Z fun p => fieldModulusExpL0 p.1 p.2.1 p.2.2.1 p.2.2.2.1 p.2.2.2.2.1 p.2.2.2.2.2
noncomputable def fieldModulusExpX : Cx := mkCx Tryd.prog 32 globsG [(43, u256FromE), (63, u256BitE), (69, fieldModulusMulE), (85, fieldModulusOneE), (101, u256LenE)] [(3, fieldModulusExpL0E)] []
theorem fieldModulusExpC : CxOk fieldModulusExpX (Glob globsG) := cx_ok (by kernel_rfl) (by kernel_rfl) ⟨u256FromK, u256BitK, fieldModulusMulK, fieldModulusOneK, u256LenK, trivial⟩
theorem fieldModulusExpL0K (w0 : Ini) (hG : Glob globsG w0) : LoopOk fieldModulusExpX w0 (loopAt Tryd.f83 0) fieldModulusExpL0E :=
  loop_okH fieldModulusExpC hG (loopAt Tryd.f83 0) (lall_of lall_nil (by kernel_rfl : loopsOf (loopAt Tryd.f83 0) = _))
    fieldModulusExpL0Y fieldModulusExpL0Z (by kernel_rfl) (fun p => fieldModulusExpL0R p.1 p.2.1 p.2.2.1 p.2.2.2.1 p.2.2.2.2.1 p.2.2.2.2.2) (fun p => 1000) (fun p => by kernel_rfl) _ (fun p => fieldModulusExpL0_eq p.1 p.2.1 p.2.2.1 p.2.2.2.1 p.2.2.2.2.1 p.2.2.2.2.2)
theorem fieldModulusExpK : CallOk Tryd.prog (Glob globsG) 83 fieldModulusExpE :=
  fun_ok (cx := fieldModulusExpX) fieldModulusExpC (fn := Tryd.f83) Tryd.func83 (by kernel_rfl) Tryd.ntmps83 Tryd.call83 _ _ _ (by kernel_rfl) (by kernel_rfl) (by kernel_rfl)
    (fun w0 hG => lall_of (lall_cut (b := loopAt Tryd.f83 0) (fieldModulusExpL0K w0 hG) (by kernel_rfl) (lall_nil)) (by kernel_rfl : loopsOf (bodyOf Tryd.f83) = _)) (fun p => Eq.trans (b := fieldModulusExpB p.1 p.2.1 p.2.2) (by kernel_rfl) (fieldModulusExp_eq p.1 p.2.1 p.2.2).symm)

noncomputable def fieldExpE : Entry := mkE [.int .i64, .u256, .u256] [.u256, .int .i64] fun p => fieldExp p.1 p.2.1 p.2.2

noncomputable def fieldExpX : Cx := mkCx Tryd.prog 23 globsG [(68, fieldIOfE), (83, fieldModulusExpE)] [] []
theorem fieldExpC : CxOk fieldExpX (Glob globsG) := cx_ok (by kernel_rfl) (by kernel_rfl) ⟨fieldIOfK, fieldModulusExpK, trivial⟩
theorem fieldExpK : CallOk Tryd.prog (Glob globsG) 47 fieldExpE :=
  fun_ok (cx := fieldExpX) fieldExpC (fn := Tryd.f47) Tryd.func47 (by kernel_rfl) Tryd.ntmps47 Tryd.call47 _ _ _ (by kernel_rfl) (by kernel_rfl) (by kernel_rfl)
    (fun w0 hG => lall_of lall_nil (by kernel_rfl : loopsOf (bodyOf Tryd.f47) = _)) (fun p => Eq.trans (b := fieldExpB p.1 p.2.1 p.2.2) (by kernel_rfl) (fieldExp_eq p.1 p.2.1 p.2.2).symm)

noncomputable def ref01LenE : Entry := mkE [.u256] [.int .i64] fun p => ref01Len p

def ref01LenL0Y : Lay := ⟨[(false, 1, .ptr 1001 [])], [(false, 3, .int .i64), (true, 1001, .u256)], [⟨[(1001, 1001)], []⟩]⟩
def ref01LenL0Z : List (Ex × Lay) := [(.ret, ⟨[], [(false, 2, .int .i64)], [⟨[], []⟩]⟩), (.exit 0, ⟨[], [], [⟨[], []⟩]⟩)]
noncomputable def ref01LenL0E : LEntry := mkL ref01LenL0Y ref01LenL0Z fun p => ref01LenL0 p.1 p.2
noncomputable def ref01LenX : Cx := mkCx Tryd.prog 14 globsG [(103, ref01BitE)] [(2, ref01LenL0E)] []
theorem ref01LenC : CxOk ref01LenX (Glob globsG) := cx_ok (by kernel_rfl) (by kernel_rfl) ⟨ref01BitK, trivial⟩
theorem ref01LenL0K (w0 : Ini) (hG : Glob globsG w0) : LoopOk ref01LenX w0 (loopAt Tryd.f102 0) ref01LenL0E :=
  loop_okH ref01LenC hG (loopAt Tryd.f102 0) (lall_of lall_nil (by kernel_rfl : loopsOf (loopAt Tryd.f102 0) = _))
    ref01LenL0Y ref01LenL0Z (by kernel_rfl) (fun p => ref01LenL0R p.1 p.2) (fun p => 1000) (fun p => by kernel_rfl) _ (fun p => ref01LenL0_eq p.1 p.2)
theorem ref01LenK : CallOk Tryd.prog (Glob globsG) 102 ref01LenE :=
  fun_ok (cx := ref01LenX) ref01LenC (fn := Tryd.f102) Tryd.func102 (by kernel_rfl) Tryd.ntmps102 Tryd.call102 _ _ _ (by kernel_rfl) (by kernel_rfl) (by kernel_rfl)
    (fun w0 hG => lall_of (lall_cut (b := loopAt Tryd.f102 0) (ref01LenL0K w0 hG) (by kernel_rfl) (lall_nil)) (by kernel_rfl : loopsOf (bodyOf Tryd.f102) = _)) (fun p => Eq.trans (b := ref01LenB p) (by kernel_rfl) (ref01Len_eq p).symm)

noncomputable def ref04IPowerE : Entry := mkE [.int .i64, .u256, .u256] [.u256] fun p => ref04IPower p.1 p.2.1 p.2.2

def ref04IPowerL0Y : Lay := ⟨[(false, 4, .ptr 1004 []), (false, 5, .ptr 1005 []), (false, 6, .ptr 1006 []), (false, 7, .ptr 1007 [])], [(false, 0, .int .i64), (false, 8, .int .i64), (true, 1004, .u256), (true, 1005, .u256), (true, 1006, .u256), (true, 1007, .u256)], [⟨[(1004, 1004), (1005, 1005), (1006, 1006), (1007, 1007)], []⟩]⟩
def ref04IPowerL0Z : List (Ex × Lay) := [(.exit 0, ⟨[(false, 6, .ptr 1006 []), (false, 7, .ptr 1007 [])], [(true, 1006, .u256), (true, 1007, .u256)], [⟨[(1006, 1006), (1007, 1007)], []⟩]⟩)]
noncomputable def ref04IPowerL0E : LEntry := mkL ref04IPowerL0Y ref04IPowerL0Z fun p => ref04IPowerL0 p.1 p.2.1 p.2.2.1 p.2.2.2.1 p.2.2.2.2.1 p.2.2.2.2.2
noncomputable def ref04IPowerX : Cx := mkCx Tryd.prog 30 globsG [(71, ref04ITimesE), (89, ref01FromE), (102, ref01LenE), (103, ref01BitE)] [(3, ref04IPowerL0E)] []
theorem ref04IPowerC : CxOk ref04IPowerX (Glob globsG) := cx_ok (by kernel_rfl) (by kernel_rfl) ⟨ref04ITimesK, ref01FromK, ref01LenK, ref01BitK, trivial⟩
theorem ref04IPowerL0K (w0 : Ini) (hG : Glob globsG w0) : LoopOk ref04IPowerX w0 (loopAt Tryd.f84 0) ref04IPowerL0E :=
  loop_okH ref04IPowerC hG (loopAt Tryd.f84 0) (lall_of lall_nil (by kernel_rfl : loopsOf (loopAt Tryd.f84 0) = _))
    ref04IPowerL0Y ref04IPowerL0Z (by kernel_rfl) (fun p => ref04IPowerL0R p.1 p.2.1 p.2.2.1 p.2.2.2.1 p.2.2.2.2.1 p.2.2.2.2.2) (fun p => 1000) (fun p => by kernel_rfl) _ (fun p => ref04IPowerL0_eq p.1 p.2.1 p.2.2.1 p.2.2.2.1 p.2.2.2.2.1 p.2.2.2.2.2)
theorem ref04IPowerK : CallOk Tryd.prog (Glob globsG) 84 ref04IPowerE :=
  fun_ok (cx := ref04IPowerX) ref04IPowerC (fn := Tryd.f84) Tryd.func84 (by kernel_rfl) Tryd.ntmps84 Tryd.call84 _ _ _ (by kernel_rfl) (by kernel_rfl) (by kernel_rfl)
    (fun w0 hG => lall_of (lall_cut (b := loopAt Tryd.f84 0) (ref04IPowerL0K w0 hG) (by kernel_rfl) (lall_nil)) (by kernel_rfl : loopsOf (bodyOf Tryd.f84) = _)) (fun p => Eq.trans (b := ref04IPowerB p.1 p.2.1 p.2.2) (by kernel_rfl) (ref04IPower_eq p.1 p.2.1 p.2.2).symm)

noncomputable def ref04ExpE : Entry := mkE [.int .i64, .u256, .u256] [.u256, .int .i64] fun p => ref04Exp p.1 p.2.1 p.2.2

noncomputable def ref04ExpX : Cx := mkCx Tryd.prog 18 globsG [(70, ref04IGoodE), (84, ref04IPowerE)] [] []
theorem ref04ExpC : CxOk ref04ExpX (Glob globsG) := cx_ok (by kernel_rfl) (by kernel_rfl) ⟨ref04IGoodK, ref04IPowerK, trivial⟩
theorem ref04ExpK : CallOk Tryd.prog (Glob globsG) 48 ref04ExpE :=
  fun_ok (cx := ref04ExpX) ref04ExpC (fn := Tryd.f48) Tryd.func48 (by kernel_rfl) Tryd.ntmps48 Tryd.call48 _ _ _ (by kernel_rfl) (by kernel_rfl) (by kernel_rfl)
    (fun w0 hG => lall_of lall_nil (by kernel_rfl : loopsOf (bodyOf Tryd.f48) = _)) (fun p => Eq.trans (b := ref04ExpB p.1 p.2.1 p.2.2) (by kernel_rfl) (ref04Exp_eq p.1 p.2.1 p.2.2).symm)

noncomputable def fieldModulusInverseE : Entry := mkE [.st [.u256, .u256], .u256] [.u256] fun p => fieldModulusInverse p.1 p.2

noncomputable def fieldModulusInverseX : Cx := mkCx Tryd.prog 18 globsG [(43, u256FromE), (61, u256SubE), (83, fieldModulusExpE)] [] []
theorem fieldModulusInverseC : CxOk fieldModulusInverseX (Glob globsG) := cx_ok (by kernel_rfl) (by kernel_rfl) ⟨u256FromK, u256SubK, fieldModulusExpK, trivial⟩
theorem fieldModulusInverseK : CallOk Tryd.prog (Glob globsG) 86 fieldModulusInverseE :=
  fun_ok (cx := fieldModulusInverseX) fieldModulusInverseC (fn := Tryd.f86) Tryd.func86 (by kernel_rfl) Tryd.ntmps86 Tryd.call86 _ _ _ (by kernel_rfl) (by kernel_rfl) (by kernel_rfl)
    (fun w0 hG => lall_of lall_nil (by kernel_rfl : loopsOf (bodyOf Tryd.f86) = _)) (fun p => Eq.trans (b := fieldModulusInverseB p.1 p.2) (by kernel_rfl) (fieldModulusInverse_eq p.1 p.2).symm)

noncomputable def fieldInverseE : Entry := mkE [.int .i64, .u256] [.u256, .int .i64] fun p => fieldInverse p.1 p.2

noncomputable def fieldInverseX : Cx := mkCx Tryd.prog 26 globsG [(68, fieldIOfE), (85, fieldModulusOneE), (86, fieldModulusInverseE)] [] []
theorem fieldInverseC : CxOk fieldInverseX (Glob globsG) := cx_ok (by kernel_rfl) (by kernel_rfl) ⟨fieldIOfK, fieldModulusOneK, fieldModulusInverseK, trivial⟩
theorem fieldInverseK : CallOk Tryd.prog (Glob globsG) 49 fieldInverseE :=
  fun_ok (cx := fieldInverseX) fieldInverseC (fn := Tryd.f49) Tryd.func49 (by kernel_rfl) Tryd.ntmps49 Tryd.call49 _ _ _ (by kernel_rfl) (by kernel_rfl) (by kernel_rfl)
    (fun w0 hG => lall_of lall_nil (by kernel_rfl : loopsOf (bodyOf Tryd.f49) = _)) (fun p => Eq.trans (b := fieldInverseB p.1 p.2) (by kernel_rfl) (fieldInverse_eq p.1 p.2).symm)

noncomputable def ref04InverseE : Entry := mkE [.int .i64, .u256] [.u256, .int .i64] fun p => ref04Inverse p.1 p.2

noncomputable def ref04InverseX : Cx := mkCx Tryd.prog 31 globsG [(70, ref04IGoodE), (74, ref04IModulusE), (84, ref04IPowerE), (87, ref04IBelowE), (88, ref01SubE), (89, ref01FromE)] [] []
theorem ref04InverseC : CxOk ref04InverseX (Glob globsG) := cx_ok (by kernel_rfl) (by kernel_rfl) ⟨ref04IGoodK, ref04IModulusK, ref04IPowerK, ref04IBelowK, ref01SubK, ref01FromK, trivial⟩
theorem ref04InverseK : CallOk Tryd.prog (Glob globsG) 50 ref04InverseE :=
  fun_ok (cx := ref04InverseX) ref04InverseC (fn := Tryd.f50) Tryd.func50 (by kernel_rfl) Tryd.ntmps50 Tryd.call50 _ _ _ (by kernel_rfl) (by kernel_rfl) (by kernel_rfl)
    (fun w0 hG => lall_of lall_nil (by kernel_rfl : loopsOf (bodyOf Tryd.f50) = _)) (fun p => Eq.trans (b := ref04InverseB p.1 p.2) (by kernel_rfl) (ref04Inverse_eq p.1 p.2).symm)

noncomputable def law04FieldPowersE : Entry := mkE [.int .i64, .u256, .u256] [.bool] fun p => law04FieldPowers p.1 p.2.1 p.2.2

noncomputable def law04FieldPowersX : Cx := mkCx Tryd.prog 55 globsG [(20, law04INumE), (47, fieldExpE), (48, ref04ExpE), (49, fieldInverseE), (50, ref04InverseE)] [] []
theorem law04FieldPowersC : CxOk law04FieldPowersX (Glob globsG) := cx_ok (by kernel_rfl) (by kernel_rfl) ⟨law04INumK, fieldExpK, ref04ExpK, fieldInverseK, ref04InverseK, trivial⟩
theorem law04FieldPowersK : CallOk Tryd.prog (Glob globsG) 8 law04FieldPowersE :=
  fun_ok (cx := law04FieldPowersX) law04FieldPowersC (fn := Tryd.f8) Tryd.func8 (by kernel_rfl) Tryd.ntmps8 Tryd.call8 _ _ _ (by kernel_rfl) (by kernel_rfl) (by kernel_rfl)
    (fun w0 hG => lall_of lall_nil (by kernel_rfl : loopsOf (bodyOf Tryd.f8) = _)) (fun p => Eq.trans (b := law04FieldPowersB p.1 p.2.1 p.2.2) (by kernel_rfl) (law04FieldPowers_eq p.1 p.2.1 p.2.2).symm)

noncomputable def fieldRootE : Entry := mkE [.u256] [.u256, .int .i64] fun p => fieldRoot p

noncomputable def fieldRootX : Cx := mkCx Tryd.prog 39 globsG [(43, u256FromE), (62, u256ShrE), (69, fieldModulusMulE), (77, fieldModulusNegE), (83, fieldModulusExpE), (85, fieldModulusOneE), (90, u256AddE)] [] []
theorem fieldRootC : CxOk fieldRootX (Glob globsG) := cx_ok (by kernel_rfl) (by kernel_rfl) ⟨u256FromK, u256ShrK, fieldModulusMulK, fieldModulusNegK, fieldModulusExpK, fieldModulusOneK, u256AddK, trivial⟩
theorem fieldRootK : CallOk Tryd.prog (Glob globsG) 54 fieldRootE :=
  fun_ok (cx := fieldRootX) fieldRootC (fn := Tryd.f54) Tryd.func54 (by kernel_rfl) Tryd.ntmps54 Tryd.call54 _ _ _ (by kernel_rfl) (by kernel_rfl) (by kernel_rfl)
    (fun w0 hG => lall_of lall_nil (by kernel_rfl : loopsOf (bodyOf Tryd.f54) = _)) (fun p => Eq.trans (b := fieldRootB p) (by kernel_rfl) (fieldRoot_eq p).symm)

noncomputable def ref04RootE : Entry := mkE [.u256] [.u256, .int .i64] fun p => ref04Root p

noncomputable def ref04RootX : Cx := mkCx Tryd.prog 33 globsG [(71, ref04ITimesE), (74, ref04IModulusE), (78, ref04ILessE), (84, ref04IPowerE), (87, ref04IBelowE), (89, ref01FromE), (91, ref01AddE), (92, ref01ShrE)] [] []
theorem ref04RootC : CxOk ref04RootX (Glob globsG) := cx_ok (by kernel_rfl) (by kernel_rfl) ⟨ref04ITimesK, ref04IModulusK, ref04ILessK, ref04IPowerK, ref04IBelowK, ref01FromK, ref01AddK, ref01ShrK, trivial⟩
theorem ref04RootK : CallOk Tryd.prog (Glob globsG) 55 ref04RootE :=
  fun_ok (cx := ref04RootX) ref04RootC (fn := Tryd.f55) Tryd.func55 (by kernel_rfl) Tryd.ntmps55 Tryd.call55 _ _ _ (by kernel_rfl) (by kernel_rfl) (by kernel_rfl)
    (fun w0 hG => lall_of lall_nil (by kernel_rfl : loopsOf (bodyOf Tryd.f55) = _)) (fun p => Eq.trans (b := ref04RootB p) (by kernel_rfl) (ref04Root_eq p).symm)

noncomputable def fieldResidueE : Entry := mkE [.u256] [.int .i64] fun p => fieldResidue p

noncomputable def fieldResidueX : Cx := mkCx Tryd.prog 18 globsG [(62, u256ShrE), (83, fieldModulusExpE)] [] []
theorem fieldResidueC : CxOk fieldResidueX (Glob globsG) := cx_ok (by kernel_rfl) (by kernel_rfl) ⟨u256ShrK, fieldModulusExpK, trivial⟩
theorem fieldResidueK : CallOk Tryd.prog (Glob globsG) 56 fieldResidueE :=
  fun_ok (cx := fieldResidueX) fieldResidueC (fn := Tryd.f56) Tryd.func56 (by kernel_rfl) Tryd.ntmps56 Tryd.call56 _ _ _ (by kernel_rfl) (by kernel_rfl) (by kernel_rfl)
    (fun w0 hG => lall_of lall_nil (by kernel_rfl : loopsOf (bodyOf Tryd.f56) = _)) (fun p => Eq.trans (b := fieldResidueB p) (by kernel_rfl) (fieldResidue_eq p).symm)

noncomputable def ref04ResidueE : Entry := mkE [.u256] [.int .i64] fun p => ref04Residue p

noncomputable def ref04ResidueX : Cx := mkCx Tryd.prog 16 globsG [(55, ref04RootE), (87, ref04IBelowE)] [] []
theorem ref04ResidueC : CxOk ref04ResidueX (Glob globsG) := cx_ok (by kernel_rfl) (by kernel_rfl) ⟨ref04RootK, ref04IBelowK, trivial⟩
theorem ref04ResidueK : CallOk Tryd.prog (Glob globsG) 57 ref04ResidueE :=
  fun_ok (cx := ref04ResidueX) ref04ResidueC (fn := Tryd.f57) Tryd.func57 (by kernel_rfl) Tryd.ntmps57 Tryd.call57 _ _ _ (by kernel_rfl) (by kernel_rfl) (by kernel_rfl)
    (fun w0 hG => lall_of lall_nil (by kernel_rfl : loopsOf (bodyOf Tryd.f57) = _)) (fun p => Eq.trans (b := ref04ResidueB p) (by kernel_rfl) (ref04Residue_eq p).symm)

noncomputable def law04FieldRootsE : Entry := mkE [.u256] [.bool] fun p => law04FieldRoots p

noncomputable def law04FieldRootsX : Cx := mkCx Tryd.prog 33 globsG [(20, law04INumE), (54, fieldRootE), (55, ref04RootE), (56, fieldResidueE), (57, ref04ResidueE)] [] []
theorem law04FieldRootsC : CxOk law04FieldRootsX (Glob globsG) := cx_ok (by kernel_rfl) (by kernel_rfl) ⟨law04INumK, fieldRootK, ref04RootK, fieldResidueK, ref04ResidueK, trivial⟩
theorem law04FieldRootsK : CallOk Tryd.prog (Glob globsG) 11 law04FieldRootsE :=
  fun_ok (cx := law04FieldRootsX) law04FieldRootsC (fn := Tryd.f11) Tryd.func11 (by kernel_rfl) Tryd.ntmps11 Tryd.call11 _ _ _ (by kernel_rfl) (by kernel_rfl) (by kernel_rfl)
    (fun w0 hG => lall_of lall_nil (by kernel_rfl : loopsOf (bodyOf Tryd.f11) = _)) (fun p => Eq.trans (b := law04FieldRootsB p) (by kernel_rfl) (law04FieldRoots_eq p).symm)

noncomputable def law04IKindE : Entry := mkE [.int .i64] [.int .i64] fun p => law04IKind p

noncomputable def law04IKindX : Cx := mkCx Tryd.prog 6 globsG [] [] []
theorem law04IKindC : CxOk law04IKindX (Glob globsG) := cx_ok (by kernel_rfl) (by kernel_rfl) trivial
theorem law04IKindK : CallOk Tryd.prog (Glob globsG) 42 law04IKindE :=
  fun_ok (cx := law04IKindX) law04IKindC (fn := Tryd.f42) Tryd.func42 (by kernel_rfl) Tryd.ntmps42 Tryd.call42 _ _ _ (by kernel_rfl) (by kernel_rfl) (by kernel_rfl)
    (fun w0 hG => lall_of lall_nil (by kernel_rfl : loopsOf (bodyOf Tryd.f42) = _)) (fun p => Eq.trans (b := law04IKindB p) (by kernel_rfl) (law04IKind_eq p).symm)

def law04SumAddI : Lay := ⟨[(false, 0, .ptr 0 [])], [(true, 0, .st [.int .i64, .bool]), (false, 1, .u256), (false, 2, .u256)], [⟨[(0, 0)], []⟩]⟩
def law04SumAddO : Lay := ⟨[], [(false, 0, .u256), (true, 0, .st [.int .i64, .bool])], [⟨[(0, 0)], []⟩]⟩
noncomputable def law04SumAddE : Entry := mkB 3 1 1 [true, false, false] law04SumAddI law04SumAddO (fun p => law04SumAdd p.1 p.2.1 p.2.2)

noncomputable def law04SumAddX : Cx := mkCx Tryd.prog 31 globsG [(27, fieldAddE)] [] []
theorem law04SumAddC : CxOk law04SumAddX (Glob globsG) := cx_ok (by kernel_rfl) (by kernel_rfl) ⟨fieldAddK, trivial⟩
theorem law04SumAddK : CallOk Tryd.prog (Glob globsG) 45 law04SumAddE :=
  fun_okB (cx := law04SumAddX) law04SumAddC (fn := Tryd.f45) Tryd.func45 (by kernel_rfl) Tryd.ntmps45 Tryd.call45 _ _ _ _ _ _ _ (by kernel_rfl) (by kernel_rfl) (by kernel_rfl)
    (fun w0 hG => lall_of lall_nil (by kernel_rfl : loopsOf (bodyOf Tryd.f45) = _)) (fun p => Eq.trans (b := law04SumAddB p.1 p.2.1 p.2.2) (by kernel_rfl) (law04SumAdd_eq p.1 p.2.1 p.2.2).symm)

def law04SumMulI : Lay := ⟨[(false, 0, .ptr 0 [])], [(true, 0, .st [.int .i64, .bool]), (false, 1, .u256), (false, 2, .u256)], [⟨[(0, 0)], []⟩]⟩
def law04SumMulO : Lay := ⟨[], [(false, 0, .u256), (true, 0, .st [.int .i64, .bool])], [⟨[(0, 0)], []⟩]⟩
noncomputable def law04SumMulE : Entry := mkB 3 1 1 [true, false, false] law04SumMulI law04SumMulO (fun p => law04SumMul p.1 p.2.1 p.2.2)

noncomputable def law04SumMulX : Cx := mkCx Tryd.prog 31 globsG [(18, fieldMulE)] [] []
theorem law04SumMulC : CxOk law04SumMulX (Glob globsG) := cx_ok (by kernel_rfl) (by kernel_rfl) ⟨fieldMulK, trivial⟩
theorem law04SumMulK : CallOk Tryd.prog (Glob globsG) 46 law04SumMulE :=
  fun_okB (cx := law04SumMulX) law04SumMulC (fn := Tryd.f46) Tryd.func46 (by kernel_rfl) Tryd.ntmps46 Tryd.call46 _ _ _ _ _ _ _ (by kernel_rfl) (by kernel_rfl) (by kernel_rfl)
    (fun w0 hG => lall_of lall_nil (by kernel_rfl : loopsOf (bodyOf Tryd.f46) = _)) (fun p => Eq.trans (b := law04SumMulB p.1 p.2.1 p.2.2) (by kernel_rfl) (law04SumMul_eq p.1 p.2.1 p.2.2).symm)

noncomputable def law04FieldLawsE : Entry := mkE [.int .i64, .arr .u256 3] [.bool] fun p => law04FieldLaws p.1 p.2

noncomputable def law04FieldLawsX : Cx := mkCx Tryd.prog 248 globsG [(21, fieldSquareE), (23, fieldReduceE), (25, fieldModulusE), (29, fieldSubE), (31, fieldNegE), (42, law04IKindE), (43, u256FromE), (44, u256CmpE), (45, law04SumAddE), (46, law04SumMulE)] [] []
theorem law04FieldLawsC : CxOk law04FieldLawsX (Glob globsG) := cx_ok (by kernel_rfl) (by kernel_rfl) ⟨fieldSquareK, fieldReduceK, fieldModulusK, fieldSubK, fieldNegK, law04IKindK, u256FromK, u256CmpK, law04SumAddK, law04SumMulK, trivial⟩
theorem law04FieldLawsK : CallOk Tryd.prog (Glob globsG) 7 law04FieldLawsE :=
  fun_ok (cx := law04FieldLawsX) law04FieldLawsC (fn := Tryd.f7) Tryd.func7 (by kernel_rfl) Tryd.ntmps7 Tryd.call7 _ _ _ (by kernel_rfl) (by kernel_rfl) (by kernel_rfl)
    (fun w0 hG => lall_of lall_nil (by kernel_rfl : loopsOf (bodyOf Tryd.f7) = _)) (fun p => Eq.trans (b := law04FieldLawsB p.1 p.2) (by kernel_rfl) (law04FieldLaws_eq p.1 p.2).symm)

noncomputable def law04FieldInvertsE : Entry := mkE [.int .i64, .u256, .u256] [.bool] fun p => law04FieldInverts p.1 p.2.1 p.2.2

noncomputable def law04FieldInvertsX : Cx := mkCx Tryd.prog 197 globsG [(20, law04INumE), (23, fieldReduceE), (25, fieldModulusE), (42, law04IKindE), (43, u256FromE), (46, law04SumMulE), (47, fieldExpE), (49, fieldInverseE), (61, u256SubE), (62, u256ShrE)] [] []
theorem law04FieldInvertsC : CxOk law04FieldInvertsX (Glob globsG) := cx_ok (by kernel_rfl) (by kernel_rfl) ⟨law04INumK, fieldReduceK, fieldModulusK, law04IKindK, u256FromK, law04SumMulK, fieldExpK, fieldInverseK, u256SubK, u256ShrK, trivial⟩
theorem law04FieldInvertsK : CallOk Tryd.prog (Glob globsG) 13 law04FieldInvertsE :=
  fun_ok (cx := law04FieldInvertsX) law04FieldInvertsC (fn := Tryd.f13) Tryd.func13 (by kernel_rfl) Tryd.ntmps13 Tryd.call13 _ _ _ (by kernel_rfl) (by kernel_rfl) (by kernel_rfl)
    (fun w0 hG => lall_of lall_nil (by kernel_rfl : loopsOf (bodyOf Tryd.f13) = _)) (fun p => Eq.trans (b := law04FieldInvertsB p.1 p.2.1 p.2.2) (by kernel_rfl) (law04FieldInverts_eq p.1 p.2.1 p.2.2).symm)

noncomputable def law04FieldSquaresE : Entry := mkE [.u256, .u256] [.bool] fun p => law04FieldSquares p.1 p.2

noncomputable def law04FieldSquaresX : Cx := mkCx Tryd.prog 165 globsG [(20, law04INumE), (25, fieldModulusE), (31, fieldNegE), (43, u256FromE), (44, u256CmpE), (46, law04SumMulE), (47, fieldExpE), (54, fieldRootE), (56, fieldResidueE), (61, u256SubE), (62, u256ShrE), (63, u256BitE)] [] []
theorem law04FieldSquaresC : CxOk law04FieldSquaresX (Glob globsG) := cx_ok (by kernel_rfl) (by kernel_rfl) ⟨law04INumK, fieldModulusK, fieldNegK, u256FromK, u256CmpK, law04SumMulK, fieldExpK, fieldRootK, fieldResidueK, u256SubK, u256ShrK, u256BitK, trivial⟩
theorem law04FieldSquaresK : CallOk Tryd.prog (Glob globsG) 14 law04FieldSquaresE :=
  fun_ok (cx := law04FieldSquaresX) law04FieldSquaresC (fn := Tryd.f14) Tryd.func14 (by kernel_rfl) Tryd.ntmps14 Tryd.call14 _ _ _ (by kernel_rfl) (by kernel_rfl) (by kernel_rfl)
    (fun w0 hG => lall_of lall_nil (by kernel_rfl : loopsOf (bodyOf Tryd.f14) = _)) (fun p => Eq.trans (b := law04FieldSquaresB p.1 p.2) (by kernel_rfl) (law04FieldSquares_eq p.1 p.2).symm)

def fieldInversesI : Lay := ⟨[], [(false, 0, .int .i64), (false, 1, .isl false .u256)], [⟨[], []⟩]⟩
def fieldInversesO : Lay := ⟨[(false, 0, .own 1000 .u256)], [(false, 1, .int .i64), (true, 1000, .row .u256)], [⟨[], [(false, 0, [], 1000)]⟩, ⟨[(1000, 1026)], []⟩]⟩
noncomputable def fieldInversesE : Entry := mkB 2 2 0 [false, false] fieldInversesI fieldInversesO (fun p => fieldInverses p.1 p.2)

def fieldInversesL0Y : Lay := ⟨[(false, 6, .ptr 1006 []), (false, 8, .own 1026 .u256), (false, 9, .ptr 1009 [])], [(false, 1, .isl false .u256), (false, 28, .isl false .u256), (false, 29, .int .i64), (false, 30, .int .i64), (true, 1006, .st [.u256, .u256]), (true, 1009, .u256), (true, 1026, .row .u256)], [⟨[(1006, 1006), (1026, 1026), (1009, 1009)], []⟩]⟩
def fieldInversesL0Z : List (Ex × Lay) := [(.ret, ⟨[(false, 4, .nsl .u256), (false, 5, .int .i64 40)], [], [⟨[], []⟩]⟩), (.exit 0, ⟨[(false, 6, .ptr 1006 []), (false, 8, .own 1026 .u256), (false, 9, .ptr 1009 [])], [(false, 1, .isl false .u256), (true, 1006, .st [.u256, .u256]), (true, 1009, .u256), (true, 1026, .row .u256)], [⟨[(1006, 1006), (1026, 1026), (1009, 1009)], []⟩]⟩)]
noncomputable def fieldInversesL0E : LEntry := mkL fieldInversesL0Y fieldInversesL0Z fun p => fieldInversesL0 p.1 p.2.1 p.2.2.1 p.2.2.2.1 p.2.2.2.2.1 p.2.2.2.2.2.1 p.2.2.2.2.2.2
def fieldInversesL1Y : Lay := ⟨[(false, 6, .ptr 1006 []), (false, 8, .own 1026 .u256), (false, 9, .ptr 1009 [])], [(false, 1, .isl false .u256), (false, 12, .int .i64), (true, 1006, .st [.u256, .u256]), (true, 1009, .u256), (true, 1026, .row .u256)], [⟨[(1006, 1006), (1026, 1026), (1009, 1009)], []⟩]⟩
def fieldInversesL1Z : List (Ex × Lay) := [(.exit 2, ⟨[(false, 8, .own 1026 .u256)], [(true, 1026, .row .u256)], [⟨[(1026, 1026)], []⟩]⟩)]
noncomputable def fieldInversesL1E : LEntry := mkL fieldInversesL1Y fieldInversesL1Z fun p => fieldInversesL1 p.1 p.2.1 p.2.2.1 p.2.2.2.1 p.2.2.2.2
noncomputable def fieldInversesX : Cx := mkCx Tryd.prog 77 globsG [(43, u256FromE), (68, fieldIOfE), (69, fieldModulusMulE), (85, fieldModulusOneE), (86, fieldModulusInverseE)] [(9, fieldInversesL0E), (18, fieldInversesL1E)] []
theorem fieldInversesC : CxOk fieldInversesX (Glob globsG) := cx_ok (by kernel_rfl) (by kernel_rfl) ⟨u256FromK, fieldIOfK, fieldModulusMulK, fieldModulusOneK, fieldModulusInverseK, trivial⟩
theorem fieldInversesL0K (w0 : Ini) (hG : Glob globsG w0) : LoopOk fieldInversesX w0 (loopAt Tryd.f51 0) fieldInversesL0E :=
  loop_okH fieldInversesC hG (loopAt Tryd.f51 0) (lall_of lall_nil (by kernel_rfl : loopsOf (loopAt Tryd.f51 0) = _))
    fieldInversesL0Y fieldInversesL0Z (by kernel_rfl) (fun p => fieldInversesL0R p.1 p.2.1 p.2.2.1 p.2.2.2.1 p.2.2.2.2.1 p.2.2.2.2.2.1 p.2.2.2.2.2.2) (fun p => bigFuel) (fun p => by kernel_rfl) _ (fun p => fieldInversesL0_eq p.1 p.2.1 p.2.2.1 p.2.2.2.1 p.2.2.2.2.1 p.2.2.2.2.2.1 p.2.2.2.2.2.2)
theorem fieldInversesL1K (w0 : Ini) (hG : Glob globsG w0) : LoopOk fieldInversesX w0 (loopAt Tryd.f51 1) fieldInversesL1E :=
  loop_okH fieldInversesC hG (loopAt Tryd.f51 1) (lall_of lall_nil (by kernel_rfl : loopsOf (loopAt Tryd.f51 1) = _))
    fieldInversesL1Y fieldInversesL1Z (by kernel_rfl) (fun p => fieldInversesL1R p.1 p.2.1 p.2.2.1 p.2.2.2.1 p.2.2.2.2) (fun p => bigFuel) (fun p => by kernel_rfl) _ (fun p => fieldInversesL1_eq p.1 p.2.1 p.2.2.1 p.2.2.2.1 p.2.2.2.2)
theorem fieldInversesK : CallOk Tryd.prog (Glob globsG) 51 fieldInversesE :=
  fun_okB (cx := fieldInversesX) fieldInversesC (fn := Tryd.f51) Tryd.func51 (by kernel_rfl) Tryd.ntmps51 Tryd.call51 _ _ _ _ _ _ _ (by kernel_rfl) (by kernel_rfl) (by kernel_rfl)
    (fun w0 hG => lall_of (lall_cut (b := loopAt Tryd.f51 0) (fieldInversesL0K w0 hG) (by kernel_rfl) (lall_cut (b := loopAt Tryd.f51 1) (fieldInversesL1K w0 hG) (by kernel_rfl) (lall_nil))) (by kernel_rfl : loopsOf (bodyOf Tryd.f51) = _)) (fun p => Eq.trans (b := fieldInversesB p.1 p.2) (by kernel_rfl) (fieldInverses_eq p.1 p.2).symm)

noncomputable def law04ISameE : Entry := mkE [.isl false .u256, .isl false .u256] [.bool] fun p => law04ISame p.1 p.2

def law04ISameL0Y : Lay := ⟨[], [(false, 0, .isl false .u256), (false, 1, .isl false .u256), (false, 5, .int .i64)], [⟨[], []⟩]⟩
def law04ISameL0Z : List (Ex × Lay) := [(.ret, ⟨[(false, 4, .bool false)], [], [⟨[], []⟩]⟩), (.exit 0, ⟨[], [], [⟨[], []⟩]⟩)]
noncomputable def law04ISameL0E : LEntry := mkL law04ISameL0Y law04ISameL0Z fun p => law04ISameL0 p.1 p.2.1 p.2.2
noncomputable def law04ISameX : Cx := mkCx Tryd.prog 26 globsG [] [(4, law04ISameL0E)] []
theorem law04ISameC : CxOk law04ISameX (Glob globsG) := cx_ok (by kernel_rfl) (by kernel_rfl) trivial
theorem law04ISameL0K (w0 : Ini) (hG : Glob globsG w0) : LoopOk law04ISameX w0 (loopAt Tryd.f53 0) law04ISameL0E :=
  loop_okH law04ISameC hG (loopAt Tryd.f53 0) (lall_of lall_nil (by kernel_rfl : loopsOf (loopAt Tryd.f53 0) = _))
    law04ISameL0Y law04ISameL0Z (by kernel_rfl) (fun p => law04ISameL0R p.1 p.2.1 p.2.2) (fun p => bigFuel) (fun p => by kernel_rfl) _ (fun p => law04ISameL0_eq p.1 p.2.1 p.2.2)
theorem law04ISameK : CallOk Tryd.prog (Glob globsG) 53 law04ISameE :=
  fun_ok (cx := law04ISameX) law04ISameC (fn := Tryd.f53) Tryd.func53 (by kernel_rfl) Tryd.ntmps53 Tryd.call53 _ _ _ (by kernel_rfl) (by kernel_rfl) (by kernel_rfl)
    (fun w0 hG => lall_of (lall_cut (b := loopAt Tryd.f53 0) (law04ISameL0K w0 hG) (by kernel_rfl) (lall_nil)) (by kernel_rfl : loopsOf (bodyOf Tryd.f53) = _)) (fun p => Eq.trans (b := law04ISameB p.1 p.2) (by kernel_rfl) (law04ISame_eq p.1 p.2).symm)

noncomputable def law04FieldBatchE : Entry := mkE [.int .i64, .isl false .u256] [.bool] fun p => law04FieldBatch p.1 p.2

def law04FieldBatchL0Y : Lay := ⟨[(false, 8, .own 1163 .u256), (false, 9, .own 1164 .u256)], [(false, 1, .isl false .u256), (false, 5, .int .i64), (false, 10, .int .i64), (true, 1163, .row .u256), (true, 1164, .row .u256)], [⟨[], [(false, 8, [], 1163), (false, 9, [], 1164)]⟩, ⟨[(1163, 1080), (1164, 1091)], []⟩]⟩
def law04FieldBatchL0Z : List (Ex × Lay) := [(.ret, ⟨[], [(false, 4, .bool)], [⟨[], []⟩]⟩), (.exit 0, ⟨[(false, 8, .own 1163 .u256), (false, 9, .own 1164 .u256)], [(false, 1, .isl false .u256), (false, 5, .int .i64), (true, 1163, .row .u256), (true, 1164, .row .u256)], [⟨[(1163, 1163), (1164, 1164)], []⟩]⟩)]
noncomputable def law04FieldBatchL0E : LEntry := mkL law04FieldBatchL0Y law04FieldBatchL0Z fun p => law04FieldBatchL0 p.1 p.2.1 p.2.2.1 p.2.2.2.1 p.2.2.2.2
def law04FieldBatchL1Y : Lay := ⟨[(false, 8, .own 1163 .u256), (false, 17, .own 1001101 .u256)], [(false, 5, .int .i64), (false, 19, .int .i64), (true, 1163, .row .u256), (true, 1001101, .row .u256)], [⟨[(1163, 1163), (1001101, 1001101)], []⟩]⟩
def law04FieldBatchL1Z : List (Ex × Lay) := [(.ret, ⟨[(false, 4, .bool false)], [], [⟨[], []⟩]⟩), (.exit 2, ⟨[], [(false, 5, .int .i64)], [⟨[], []⟩]⟩)]
noncomputable def law04FieldBatchL1E : LEntry := mkL law04FieldBatchL1Y law04FieldBatchL1Z fun p => law04FieldBatchL1 p.1 p.2.1 p.2.2.1 p.2.2.2
noncomputable def law04FieldBatchX : Cx := mkCx Tryd.prog 163 globsG [(20, law04INumE), (42, law04IKindE), (43, u256FromE), (49, fieldInverseE), (51, fieldInversesE), (53, law04ISameE)] [(7, law04FieldBatchL0E), (20, law04FieldBatchL1E)] []
theorem law04FieldBatchC : CxOk law04FieldBatchX (Glob globsG) := cx_ok (by kernel_rfl) (by kernel_rfl) ⟨law04INumK, law04IKindK, u256FromK, fieldInverseK, fieldInversesK, law04ISameK, trivial⟩
theorem law04FieldBatchL0K (w0 : Ini) (hG : Glob globsG w0) : LoopOk law04FieldBatchX w0 (loopAt Tryd.f10 0) law04FieldBatchL0E :=
  loop_okH law04FieldBatchC hG (loopAt Tryd.f10 0) (lall_of lall_nil (by kernel_rfl : loopsOf (loopAt Tryd.f10 0) = _))
    law04FieldBatchL0Y law04FieldBatchL0Z (by kernel_rfl) (fun p => law04FieldBatchL0R p.1 p.2.1 p.2.2.1 p.2.2.2.1 p.2.2.2.2) (fun p => bigFuel) (fun p => by kernel_rfl) _ (fun p => law04FieldBatchL0_eq p.1 p.2.1 p.2.2.1 p.2.2.2.1 p.2.2.2.2)
theorem law04FieldBatchL1K (w0 : Ini) (hG : Glob globsG w0) : LoopOk law04FieldBatchX w0 (loopAt Tryd.f10 1) law04FieldBatchL1E :=
  loop_okH law04FieldBatchC hG (loopAt Tryd.f10 1) (lall_of lall_nil (by kernel_rfl : loopsOf (loopAt Tryd.f10 1) = _))
    law04FieldBatchL1Y law04FieldBatchL1Z (by kernel_rfl) (fun p => law04FieldBatchL1R p.1 p.2.1 p.2.2.1 p.2.2.2) (fun p => bigFuel) (fun p => by kernel_rfl) _ (fun p => law04FieldBatchL1_eq p.1 p.2.1 p.2.2.1 p.2.2.2)
theorem law04FieldBatchK : CallOk Tryd.prog (Glob globsG) 10 law04FieldBatchE :=
  fun_ok (cx := law04FieldBatchX) law04FieldBatchC (fn := Tryd.f10) Tryd.func10 (by kernel_rfl) Tryd.ntmps10 Tryd.call10 _ _ _ (by kernel_rfl) (by kernel_rfl) (by kernel_rfl)
    (fun w0 hG => lall_of (lall_cut (b := loopAt Tryd.f10 0) (law04FieldBatchL0K w0 hG) (by kernel_rfl) (lall_cut (b := loopAt Tryd.f10 1) (law04FieldBatchL1K w0 hG) (by kernel_rfl) (lall_nil))) (by kernel_rfl : loopsOf (bodyOf Tryd.f10) = _)) (fun p => Eq.trans (b := law04FieldBatchB p.1 p.2) (by kernel_rfl) (law04FieldBatch_eq p.1 p.2).symm)

noncomputable def u256IDivideE : Entry := mkE [.u256, .u256, .u256] [.u256, .u256, .u256] fun p => u256IDivide p.1 p.2.1 p.2.2

def u256IDivideL0Y : Lay := ⟨[(false, 3, .ptr 1003 []), (false, 4, .ptr 1004 []), (false, 5, .ptr 1005 []), (false, 6, .ptr 1006 []), (false, 7, .ptr 1007 []), (false, 8, .ptr 1008 [])], [(false, 9, .int .i64), (true, 1003, .u256), (true, 1004, .u256), (true, 1005, .u256), (true, 1006, .u256), (true, 1007, .u256), (true, 1008, .u256)], [⟨[(1003, 1003), (1004, 1004), (1005, 1005), (1006, 1006), (1007, 1007), (1008, 1008)], []⟩]⟩
def u256IDivideL0Z : List (Ex × Lay) := [(.exit 0, ⟨[(false, 6, .ptr 1006 []), (false, 7, .ptr 1007 []), (false, 8, .ptr 1008 [])], [(true, 1006, .u256), (true, 1007, .u256), (true, 1008, .u256)], [⟨[(1006, 1006), (1007, 1007), (1008, 1008)], []⟩]⟩)]
noncomputable def u256IDivideL0E : LEntry := mkL u256IDivideL0Y u256IDivideL0Z fun p => u256IDivideL0 p.1 p.2.1 p.2.2.1 p.2.2.2.1 p.2.2.2.2.1 p.2.2.2.2.2.1 p.2.2.2.2.2.2
noncomputable def u256IDivideX : Cx := mkCx Tryd.prog 70 globsG [(44, u256CmpE), (61, u256SubE), (96, u256ShlE)] [(2, u256IDivideL0E)] []
theorem u256IDivideC : CxOk u256IDivideX (Glob globsG) := cx_ok (by kernel_rfl) (by kernel_rfl) ⟨u256CmpK, u256SubK, u256ShlK, trivial⟩
theorem u256IDivideL0K (w0 : Ini) (hG : Glob globsG w0) : LoopOk u256IDivideX w0 (loopAt Tryd.f94 0) u256IDivideL0E :=
  loop_okH u256IDivideC hG (loopAt Tryd.f94 0) (lall_of lall_nil (by kernel_rfl : loopsOf (loopAt Tryd.f94 0) = _))
    u256IDivideL0Y u256IDivideL0Z (by kernel_rfl) (fun p => u256IDivideL0R p.1 p.2.1 p.2.2.1 p.2.2.2.1 p.2.2.2.2.1 p.2.2.2.2.2.1 p.2.2.2.2.2.2) (fun p => 1000) (fun p => by kernel_rfl) _ (fun p => u256IDivideL0_eq p.1 p.2.1 p.2.2.1 p.2.2.2.1 p.2.2.2.2.1 p.2.2.2.2.2.1 p.2.2.2.2.2.2)
theorem u256IDivideK : CallOk Tryd.prog (Glob globsG) 94 u256IDivideE :=
  fun_ok (cx := u256IDivideX) u256IDivideC (fn := Tryd.f94) Tryd.func94 (by kernel_rfl) Tryd.ntmps94 Tryd.call94 _ _ _ (by kernel_rfl) (by kernel_rfl) (by kernel_rfl)
    (fun w0 hG => lall_of (lall_cut (b := loopAt Tryd.f94 0) (u256IDivideL0K w0 hG) (by kernel_rfl) (lall_nil)) (by kernel_rfl : loopsOf (bodyOf Tryd.f94) = _)) (fun p => Eq.trans (b := u256IDivideB p.1 p.2.1 p.2.2) (by kernel_rfl) (u256IDivide_eq p.1 p.2.1 p.2.2).symm)

noncomputable def u256ReduceE : Entry := mkE [.u256, .u256, .u256] [.u256, .int .i64] fun p => u256Reduce p.1 p.2.1 p.2.2

noncomputable def u256ReduceX : Cx := mkCx Tryd.prog 24 globsG [(94, u256IDivideE)] [] []
theorem u256ReduceC : CxOk u256ReduceX (Glob globsG) := cx_ok (by kernel_rfl) (by kernel_rfl) ⟨u256IDivideK, trivial⟩
theorem u256ReduceK : CallOk Tryd.prog (Glob globsG) 60 u256ReduceE :=
  fun_ok (cx := u256ReduceX) u256ReduceC (fn := Tryd.f60) Tryd.func60 (by kernel_rfl) Tryd.ntmps60 Tryd.call60 _ _ _ (by kernel_rfl) (by kernel_rfl) (by kernel_rfl)
    (fun w0 hG => lall_of lall_nil (by kernel_rfl : loopsOf (bodyOf Tryd.f60) = _)) (fun p => Eq.trans (b := u256ReduceB p.1 p.2.1 p.2.2) (by kernel_rfl) (u256Reduce_eq p.1 p.2.1 p.2.2).symm)

noncomputable def u256AddModE : Entry := mkE [.u256, .u256, .u256] [.u256, .int .i64] fun p => u256AddMod p.1 p.2.1 p.2.2

noncomputable def u256AddModX : Cx := mkCx Tryd.prog 23 globsG [(43, u256FromE), (60, u256ReduceE), (90, u256AddE)] [] []
theorem u256AddModC : CxOk u256AddModX (Glob globsG) := cx_ok (by kernel_rfl) (by kernel_rfl) ⟨u256FromK, u256ReduceK, u256AddK, trivial⟩
theorem u256AddModK : CallOk Tryd.prog (Glob globsG) 58 u256AddModE :=
  fun_ok (cx := u256AddModX) u256AddModC (fn := Tryd.f58) Tryd.func58 (by kernel_rfl) Tryd.ntmps58 Tryd.call58 _ _ _ (by kernel_rfl) (by kernel_rfl) (by kernel_rfl)
    (fun w0 hG => lall_of lall_nil (by kernel_rfl : loopsOf (bodyOf Tryd.f58) = _)) (fun p => Eq.trans (b := u256AddModB p.1 p.2.1 p.2.2) (by kernel_rfl) (u256AddMod_eq p.1 p.2.1 p.2.2).symm)

noncomputable def u256MulModE : Entry := mkE [.u256, .u256, .u256] [.u256, .int .i64] fun p => u256MulMod p.1 p.2.1 p.2.2

noncomputable def u256MulModX : Cx := mkCx Tryd.prog 22 globsG [(60, u256ReduceE), (93, u256MulE)] [] []
theorem u256MulModC : CxOk u256MulModX (Glob globsG) := cx_ok (by kernel_rfl) (by kernel_rfl) ⟨u256ReduceK, u256MulK, trivial⟩
theorem u256MulModK : CallOk Tryd.prog (Glob globsG) 59 u256MulModE :=
  fun_ok (cx := u256MulModX) u256MulModC (fn := Tryd.f59) Tryd.func59 (by kernel_rfl) Tryd.ntmps59 Tryd.call59 _ _ _ (by kernel_rfl) (by kernel_rfl) (by kernel_rfl)
    (fun w0 hG => lall_of lall_nil (by kernel_rfl : loopsOf (bodyOf Tryd.f59) = _)) (fun p => Eq.trans (b := u256MulModB p.1 p.2.1 p.2.2) (by kernel_rfl) (u256MulMod_eq p.1 p.2.1 p.2.2).symm)

noncomputable def law04FieldWholeE : Entry := mkE [.int .i64, .u256, .u256] [.bool] fun p => law04FieldWhole p.1 p.2.1 p.2.2

noncomputable def law04FieldWholeX : Cx := mkCx Tryd.prog 126 globsG [(18, fieldMulE), (23, fieldReduceE), (25, fieldModulusE), (27, fieldAddE), (42, law04IKindE), (58, u256AddModE), (59, u256MulModE), (60, u256ReduceE)] [] []
theorem law04FieldWholeC : CxOk law04FieldWholeX (Glob globsG) := cx_ok (by kernel_rfl) (by kernel_rfl) ⟨fieldMulK, fieldReduceK, fieldModulusK, fieldAddK, law04IKindK, u256AddModK, u256MulModK, u256ReduceK, trivial⟩
theorem law04FieldWholeK : CallOk Tryd.prog (Glob globsG) 12 law04FieldWholeE :=
  fun_ok (cx := law04FieldWholeX) law04FieldWholeC (fn := Tryd.f12) Tryd.func12 (by kernel_rfl) Tryd.ntmps12 Tryd.call12 _ _ _ (by kernel_rfl) (by kernel_rfl) (by kernel_rfl)
    (fun w0 hG => lall_of lall_nil (by kernel_rfl : loopsOf (bodyOf Tryd.f12) = _)) (fun p => Eq.trans (b := law04FieldWholeB p.1 p.2.1 p.2.2) (by kernel_rfl) (law04FieldWhole_eq p.1 p.2.1 p.2.2).symm)

end Go.Sy
