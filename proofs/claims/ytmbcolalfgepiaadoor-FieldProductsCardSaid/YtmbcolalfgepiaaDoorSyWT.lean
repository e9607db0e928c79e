/- The links: each typed function is what the code computes. Printed by a program. -/
import Derived.Test.YtmbcolalfgepiaaDoorSyVT
import Derived.Test.YtmbcolalfgepiaaDoorProg
set_option linter.unusedVariables false
set_option maxRecDepth 100000
namespace Go.Sy
open Go Go.Proofs

def globsG : List (Nat × AV) := [(0, .arr .u2 2 fieldModuli)]

theorem bitsSub64K : CallOk Tryd.prog (Glob globsG) 95 bitsSub64E := bitsSub64_ok (fn := Tryd.f95) Tryd.func95 (by kernel_rfl) (by kernel_rfl) (by kernel_rfl) (by kernel_rfl)
theorem bitsAdd64K : CallOk Tryd.prog (Glob globsG) 106 bitsAdd64E := bitsAdd64_ok (fn := Tryd.f106) Tryd.func106 (by kernel_rfl) (by kernel_rfl) (by kernel_rfl) (by kernel_rfl)
noncomputable def fieldIOfX : Cx := mkCx Tryd.prog 14 globsG [] [] []
theorem fieldIOfC : CxOk fieldIOfX (Glob globsG) := cx_ok (by kernel_rfl) (by kernel_rfl) trivial
theorem fieldIOfK : CallOk Tryd.prog (Glob globsG) 68 fieldIOfE :=
  fun_ok (cx := fieldIOfX) fieldIOfC (fn := Tryd.f68) Tryd.func68 (by kernel_rfl) Tryd.ntmps68 Tryd.call68 _ _ _ (by kernel_rfl) (by kernel_rfl)
    (fun w0 hG => lall_of lall_nil (by kernel_rfl : loopsOf (bodyOf Tryd.f68) = _)) (fun p => Eq.trans (b := fieldIOfB p) (by kernel_rfl) (fieldIOf_eq p).symm)

noncomputable def fieldModulusX : Cx := mkCx Tryd.prog 14 globsG [(68, fieldIOfE)] [] []
theorem fieldModulusC : CxOk fieldModulusX (Glob globsG) := cx_ok (by kernel_rfl) (by kernel_rfl) ⟨fieldIOfK, trivial⟩
theorem fieldModulusK : CallOk Tryd.prog (Glob globsG) 25 fieldModulusE :=
  fun_ok (cx := fieldModulusX) fieldModulusC (fn := Tryd.f25) Tryd.func25 (by kernel_rfl) Tryd.ntmps25 Tryd.call25 _ _ _ (by kernel_rfl) (by kernel_rfl)
    (fun w0 hG => lall_of lall_nil (by kernel_rfl : loopsOf (bodyOf Tryd.f25) = _)) (fun p => Eq.trans (b := fieldModulusB p) (by kernel_rfl) (fieldModulus_eq p).symm)

noncomputable def ecdsaIOrderX : Cx := mkCx Tryd.prog 8 globsG [(25, fieldModulusE)] [] []
theorem ecdsaIOrderC : CxOk ecdsaIOrderX (Glob globsG) := cx_ok (by kernel_rfl) (by kernel_rfl) ⟨fieldModulusK, trivial⟩
theorem ecdsaIOrderK : CallOk Tryd.prog (Glob globsG) 97 ecdsaIOrderE :=
  fun_ok (cx := ecdsaIOrderX) ecdsaIOrderC (fn := Tryd.f97) Tryd.func97 (by kernel_rfl) Tryd.ntmps97 Tryd.call97 _ _ _ (by kernel_rfl) (by kernel_rfl)
    (fun w0 hG => lall_of lall_nil (by kernel_rfl : loopsOf (bodyOf Tryd.f97) = _)) (fun p => Eq.trans (b := ecdsaIOrderB ) (by kernel_rfl) (ecdsaIOrder_eq ).symm)

noncomputable def u256SubX : Cx := mkCx Tryd.prog 28 globsG [(95, bitsSub64E)] [] []
theorem u256SubC : CxOk u256SubX (Glob globsG) := cx_ok (by kernel_rfl) (by kernel_rfl) ⟨bitsSub64K, trivial⟩
theorem u256SubK : CallOk Tryd.prog (Glob globsG) 61 u256SubE :=
  fun_ok (cx := u256SubX) u256SubC (fn := Tryd.f61) Tryd.func61 (by kernel_rfl) Tryd.ntmps61 Tryd.call61 _ _ _ (by kernel_rfl) (by kernel_rfl)
    (fun w0 hG => lall_of (lall_free (b := loopAt Tryd.f61 0) (by kernel_rfl) (lall_nil)) (by kernel_rfl : loopsOf (bodyOf Tryd.f61) = _)) (fun p => Eq.trans (b := u256SubB p.1 p.2) (by kernel_rfl) (u256Sub_eq p.1 p.2).symm)

noncomputable def u256CmpX : Cx := mkCx Tryd.prog 18 globsG [(61, u256SubE)] [] []
theorem u256CmpC : CxOk u256CmpX (Glob globsG) := cx_ok (by kernel_rfl) (by kernel_rfl) ⟨u256SubK, trivial⟩
theorem u256CmpK : CallOk Tryd.prog (Glob globsG) 44 u256CmpE :=
  fun_ok (cx := u256CmpX) u256CmpC (fn := Tryd.f44) Tryd.func44 (by kernel_rfl) Tryd.ntmps44 Tryd.call44 _ _ _ (by kernel_rfl) (by kernel_rfl)
    (fun w0 hG => lall_of lall_nil (by kernel_rfl : loopsOf (bodyOf Tryd.f44) = _)) (fun p => Eq.trans (b := u256CmpB p.1 p.2) (by kernel_rfl) (u256Cmp_eq p.1 p.2).symm)

noncomputable def ecdsaIFitX : Cx := mkCx Tryd.prog 12 globsG [(44, u256CmpE), (97, ecdsaIOrderE)] [] []
theorem ecdsaIFitC : CxOk ecdsaIFitX (Glob globsG) := cx_ok (by kernel_rfl) (by kernel_rfl) ⟨u256CmpK, ecdsaIOrderK, trivial⟩
theorem ecdsaIFitK : CallOk Tryd.prog (Glob globsG) 64 ecdsaIFitE :=
  fun_ok (cx := ecdsaIFitX) ecdsaIFitC (fn := Tryd.f64) Tryd.func64 (by kernel_rfl) Tryd.ntmps64 Tryd.call64 _ _ _ (by kernel_rfl) (by kernel_rfl)
    (fun w0 hG => lall_of lall_nil (by kernel_rfl : loopsOf (bodyOf Tryd.f64) = _)) (fun p => Eq.trans (b := ecdsaIFitB p) (by kernel_rfl) (ecdsaIFit_eq p).symm)

def u256ShlL0Y : Lay := ⟨[(false, 2, .ptr 2 []), (false, 4, .ptr 4 []), (false, 5, .ptr 5 [])], [(false, 1, .int .i64), (false, 6, .int .i64), (true, 2, .u256), (true, 4, .u256), (true, 5, .u256)]⟩
def u256ShlL0Z : List (Ex × Lay) := [(.exit 0, ⟨[(false, 4, .ptr 4 []), (false, 5, .ptr 5 [])], [(true, 4, .u256), (true, 5, .u256)]⟩)]
noncomputable def u256ShlL0E : LEntry := mkL u256ShlL0Y u256ShlL0Z fun p => u256ShlL0 p.1 p.2.1 p.2.2.1 p.2.2.2.1 p.2.2.2.2
noncomputable def u256ShlX : Cx := mkCx Tryd.prog 63 globsG [] [(7, u256ShlL0E)] []
theorem u256ShlC : CxOk u256ShlX (Glob globsG) := cx_ok (by kernel_rfl) (by kernel_rfl) trivial
theorem u256ShlL0K (w0 : World) (hG : Glob globsG w0) : LoopOk u256ShlX w0 (loopAt Tryd.f96 0) u256ShlL0E :=
  loop_okH u256ShlC hG (loopAt Tryd.f96 0) (lall_of lall_nil (by kernel_rfl : loopsOf (loopAt Tryd.f96 0) = _))
    u256ShlL0Y u256ShlL0Z (by kernel_rfl) (fun p => u256ShlL0R p.1 p.2.1 p.2.2.1 p.2.2.2.1 p.2.2.2.2) (fun p => 1000) (fun p => by kernel_rfl) _ (fun p => u256ShlL0_eq p.1 p.2.1 p.2.2.1 p.2.2.2.1 p.2.2.2.2)
theorem u256ShlK : CallOk Tryd.prog (Glob globsG) 96 u256ShlE :=
  fun_ok (cx := u256ShlX) u256ShlC (fn := Tryd.f96) Tryd.func96 (by kernel_rfl) Tryd.ntmps96 Tryd.call96 _ _ _ (by kernel_rfl) (by kernel_rfl)
    (fun w0 hG => lall_of (lall_cut (b := loopAt Tryd.f96 0) (u256ShlL0K w0 hG) (by kernel_rfl) (lall_nil)) (by kernel_rfl : loopsOf (bodyOf Tryd.f96) = _)) (fun p => Eq.trans (b := u256ShlB p.1 p.2) (by kernel_rfl) (u256Shl_eq p.1 p.2).symm)

def u256ShrL0Y : Lay := ⟨[(false, 2, .ptr 2 []), (false, 4, .ptr 4 []), (false, 5, .ptr 5 [])], [(false, 1, .int .i64), (false, 6, .int .i64), (true, 2, .u256), (true, 4, .u256), (true, 5, .u256)]⟩
def u256ShrL0Z : List (Ex × Lay) := [(.exit 0, ⟨[(false, 4, .ptr 4 []), (false, 5, .ptr 5 [])], [(true, 4, .u256), (true, 5, .u256)]⟩)]
noncomputable def u256ShrL0E : LEntry := mkL u256ShrL0Y u256ShrL0Z fun p => u256ShrL0 p.1 p.2.1 p.2.2.1 p.2.2.2.1 p.2.2.2.2
noncomputable def u256ShrX : Cx := mkCx Tryd.prog 65 globsG [(96, u256ShlE)] [(7, u256ShrL0E)] []
theorem u256ShrC : CxOk u256ShrX (Glob globsG) := cx_ok (by kernel_rfl) (by kernel_rfl) ⟨u256ShlK, trivial⟩
theorem u256ShrL0K (w0 : World) (hG : Glob globsG w0) : LoopOk u256ShrX w0 (loopAt Tryd.f62 0) u256ShrL0E :=
  loop_okH u256ShrC hG (loopAt Tryd.f62 0) (lall_of lall_nil (by kernel_rfl : loopsOf (loopAt Tryd.f62 0) = _))
    u256ShrL0Y u256ShrL0Z (by kernel_rfl) (fun p => u256ShrL0R p.1 p.2.1 p.2.2.1 p.2.2.2.1 p.2.2.2.2) (fun p => 1000) (fun p => by kernel_rfl) _ (fun p => u256ShrL0_eq p.1 p.2.1 p.2.2.1 p.2.2.2.1 p.2.2.2.2)
theorem u256ShrK : CallOk Tryd.prog (Glob globsG) 62 u256ShrE :=
  fun_ok (cx := u256ShrX) u256ShrC (fn := Tryd.f62) Tryd.func62 (by kernel_rfl) Tryd.ntmps62 Tryd.call62 _ _ _ (by kernel_rfl) (by kernel_rfl)
    (fun w0 hG => lall_of (lall_cut (b := loopAt Tryd.f62 0) (u256ShrL0K w0 hG) (by kernel_rfl) (lall_nil)) (by kernel_rfl : loopsOf (bodyOf Tryd.f62) = _)) (fun p => Eq.trans (b := u256ShrB p.1 p.2) (by kernel_rfl) (u256Shr_eq p.1 p.2).symm)

noncomputable def ecdsaILowX : Cx := mkCx Tryd.prog 8 globsG [(44, u256CmpE), (62, u256ShrE), (97, ecdsaIOrderE)] [] []
theorem ecdsaILowC : CxOk ecdsaILowX (Glob globsG) := cx_ok (by kernel_rfl) (by kernel_rfl) ⟨u256CmpK, u256ShrK, ecdsaIOrderK, trivial⟩
theorem ecdsaILowK : CallOk Tryd.prog (Glob globsG) 65 ecdsaILowE :=
  fun_ok (cx := ecdsaILowX) ecdsaILowC (fn := Tryd.f65) Tryd.func65 (by kernel_rfl) Tryd.ntmps65 Tryd.call65 _ _ _ (by kernel_rfl) (by kernel_rfl)
    (fun w0 hG => lall_of lall_nil (by kernel_rfl : loopsOf (bodyOf Tryd.f65) = _)) (fun p => Eq.trans (b := ecdsaILowB p) (by kernel_rfl) (ecdsaILow_eq p).symm)

noncomputable def ecdsaCheckX : Cx := mkCx Tryd.prog 18 globsG [(64, ecdsaIFitE), (65, ecdsaILowE)] [] []
theorem ecdsaCheckC : CxOk ecdsaCheckX (Glob globsG) := cx_ok (by kernel_rfl) (by kernel_rfl) ⟨ecdsaIFitK, ecdsaILowK, trivial⟩
theorem ecdsaCheckK : CallOk Tryd.prog (Glob globsG) 16 ecdsaCheckE :=
  fun_ok (cx := ecdsaCheckX) ecdsaCheckC (fn := Tryd.f16) Tryd.func16 (by kernel_rfl) Tryd.ntmps16 Tryd.call16 _ _ _ (by kernel_rfl) (by kernel_rfl)
    (fun w0 hG => lall_of lall_nil (by kernel_rfl : loopsOf (bodyOf Tryd.f16) = _)) (fun p => Eq.trans (b := ecdsaCheckB p) (by kernel_rfl) (ecdsaCheck_eq p).symm)

noncomputable def law06INumX : Cx := mkCx Tryd.prog 4 globsG [] [] []
theorem law06INumC : CxOk law06INumX (Glob globsG) := cx_ok (by kernel_rfl) (by kernel_rfl) trivial
theorem law06INumK : CallOk Tryd.prog (Glob globsG) 15 law06INumE :=
  fun_ok (cx := law06INumX) law06INumC (fn := Tryd.f15) Tryd.func15 (by kernel_rfl) Tryd.ntmps15 Tryd.call15 _ _ _ (by kernel_rfl) (by kernel_rfl)
    (fun w0 hG => lall_of lall_nil (by kernel_rfl : loopsOf (bodyOf Tryd.f15) = _)) (fun p => Eq.trans (b := law06INumB p) (by kernel_rfl) (law06INum_eq p).symm)

noncomputable def ref04IGoodX : Cx := mkCx Tryd.prog 9 globsG [] [] []
theorem ref04IGoodC : CxOk ref04IGoodX (Glob globsG) := cx_ok (by kernel_rfl) (by kernel_rfl) trivial
theorem ref04IGoodK : CallOk Tryd.prog (Glob globsG) 70 ref04IGoodE :=
  fun_ok (cx := ref04IGoodX) ref04IGoodC (fn := Tryd.f70) Tryd.func70 (by kernel_rfl) Tryd.ntmps70 Tryd.call70 _ _ _ (by kernel_rfl) (by kernel_rfl)
    (fun w0 hG => lall_of lall_nil (by kernel_rfl : loopsOf (bodyOf Tryd.f70) = _)) (fun p => Eq.trans (b := ref04IGoodB p) (by kernel_rfl) (ref04IGood_eq p).symm)

noncomputable def ref04IModulusX : Cx := mkCx Tryd.prog 7 globsG [] [] []
theorem ref04IModulusC : CxOk ref04IModulusX (Glob globsG) := cx_ok (by kernel_rfl) (by kernel_rfl) trivial
theorem ref04IModulusK : CallOk Tryd.prog (Glob globsG) 74 ref04IModulusE :=
  fun_ok (cx := ref04IModulusX) ref04IModulusC (fn := Tryd.f74) Tryd.func74 (by kernel_rfl) Tryd.ntmps74 Tryd.call74 _ _ _ (by kernel_rfl) (by kernel_rfl)
    (fun w0 hG => lall_of lall_nil (by kernel_rfl : loopsOf (bodyOf Tryd.f74) = _)) (fun p => Eq.trans (b := ref04IModulusB p) (by kernel_rfl) (ref04IModulus_eq p).symm)

noncomputable def ref04ModulusX : Cx := mkCx Tryd.prog 12 globsG [(70, ref04IGoodE), (74, ref04IModulusE)] [] []
theorem ref04ModulusC : CxOk ref04ModulusX (Glob globsG) := cx_ok (by kernel_rfl) (by kernel_rfl) ⟨ref04IGoodK, ref04IModulusK, trivial⟩
theorem ref04ModulusK : CallOk Tryd.prog (Glob globsG) 26 ref04ModulusE :=
  fun_ok (cx := ref04ModulusX) ref04ModulusC (fn := Tryd.f26) Tryd.func26 (by kernel_rfl) Tryd.ntmps26 Tryd.call26 _ _ _ (by kernel_rfl) (by kernel_rfl)
    (fun w0 hG => lall_of lall_nil (by kernel_rfl : loopsOf (bodyOf Tryd.f26) = _)) (fun p => Eq.trans (b := ref04ModulusB p) (by kernel_rfl) (ref04Modulus_eq p).symm)

noncomputable def ref06IOrderX : Cx := mkCx Tryd.prog 8 globsG [(26, ref04ModulusE)] [] []
theorem ref06IOrderC : CxOk ref06IOrderX (Glob globsG) := cx_ok (by kernel_rfl) (by kernel_rfl) ⟨ref04ModulusK, trivial⟩
theorem ref06IOrderK : CallOk Tryd.prog (Glob globsG) 99 ref06IOrderE :=
  fun_ok (cx := ref06IOrderX) ref06IOrderC (fn := Tryd.f99) Tryd.func99 (by kernel_rfl) Tryd.ntmps99 Tryd.call99 _ _ _ (by kernel_rfl) (by kernel_rfl)
    (fun w0 hG => lall_of lall_nil (by kernel_rfl : loopsOf (bodyOf Tryd.f99) = _)) (fun p => Eq.trans (b := ref06IOrderB ) (by kernel_rfl) (ref06IOrder_eq ).symm)

def ref01CmpL0Y : Lay := ⟨[(false, 2, .ptr 2 []), (false, 3, .ptr 3 [])], [(false, 5, .int .i64), (true, 2, .u256), (true, 3, .u256)]⟩
def ref01CmpL0Z : List (Ex × Lay) := [(.ret, ⟨[], [(false, 4, .int .i64)]⟩), (.exit 0, ⟨[], []⟩)]
noncomputable def ref01CmpL0E : LEntry := mkL ref01CmpL0Y ref01CmpL0Z fun p => ref01CmpL0 p.1 p.2.1 p.2.2
noncomputable def ref01CmpX : Cx := mkCx Tryd.prog 24 globsG [] [(2, ref01CmpL0E)] []
theorem ref01CmpC : CxOk ref01CmpX (Glob globsG) := cx_ok (by kernel_rfl) (by kernel_rfl) trivial
theorem ref01CmpL0K (w0 : World) (hG : Glob globsG w0) : LoopOk ref01CmpX w0 (loopAt Tryd.f98 0) ref01CmpL0E :=
  loop_okH ref01CmpC hG (loopAt Tryd.f98 0) (lall_of lall_nil (by kernel_rfl : loopsOf (loopAt Tryd.f98 0) = _))
    ref01CmpL0Y ref01CmpL0Z (by kernel_rfl) (fun p => ref01CmpL0R p.1 p.2.1 p.2.2) (fun p => 1000) (fun p => by kernel_rfl) _ (fun p => ref01CmpL0_eq p.1 p.2.1 p.2.2)
theorem ref01CmpK : CallOk Tryd.prog (Glob globsG) 98 ref01CmpE :=
  fun_ok (cx := ref01CmpX) ref01CmpC (fn := Tryd.f98) Tryd.func98 (by kernel_rfl) Tryd.ntmps98 Tryd.call98 _ _ _ (by kernel_rfl) (by kernel_rfl)
    (fun w0 hG => lall_of (lall_cut (b := loopAt Tryd.f98 0) (ref01CmpL0K w0 hG) (by kernel_rfl) (lall_nil)) (by kernel_rfl : loopsOf (bodyOf Tryd.f98) = _)) (fun p => Eq.trans (b := ref01CmpB p.1 p.2) (by kernel_rfl) (ref01Cmp_eq p.1 p.2).symm)

noncomputable def ref06FitX : Cx := mkCx Tryd.prog 12 globsG [(98, ref01CmpE), (99, ref06IOrderE)] [] []
theorem ref06FitC : CxOk ref06FitX (Glob globsG) := cx_ok (by kernel_rfl) (by kernel_rfl) ⟨ref01CmpK, ref06IOrderK, trivial⟩
theorem ref06FitK : CallOk Tryd.prog (Glob globsG) 66 ref06FitE :=
  fun_ok (cx := ref06FitX) ref06FitC (fn := Tryd.f66) Tryd.func66 (by kernel_rfl) Tryd.ntmps66 Tryd.call66 _ _ _ (by kernel_rfl) (by kernel_rfl)
    (fun w0 hG => lall_of lall_nil (by kernel_rfl : loopsOf (bodyOf Tryd.f66) = _)) (fun p => Eq.trans (b := ref06FitB p) (by kernel_rfl) (ref06Fit_eq p).symm)

noncomputable def ref01BitX : Cx := mkCx Tryd.prog 21 globsG [] [] []
theorem ref01BitC : CxOk ref01BitX (Glob globsG) := cx_ok (by kernel_rfl) (by kernel_rfl) trivial
theorem ref01BitK : CallOk Tryd.prog (Glob globsG) 103 ref01BitE :=
  fun_ok (cx := ref01BitX) ref01BitC (fn := Tryd.f103) Tryd.func103 (by kernel_rfl) Tryd.ntmps103 Tryd.call103 _ _ _ (by kernel_rfl) (by kernel_rfl)
    (fun w0 hG => lall_of lall_nil (by kernel_rfl : loopsOf (bodyOf Tryd.f103) = _)) (fun p => Eq.trans (b := ref01BitB p.1 p.2) (by kernel_rfl) (ref01Bit_eq p.1 p.2).symm)

noncomputable def ref01IWithX : Cx := mkCx Tryd.prog 18 globsG [] [] []
theorem ref01IWithC : CxOk ref01IWithX (Glob globsG) := cx_ok (by kernel_rfl) (by kernel_rfl) trivial
theorem ref01IWithK : CallOk Tryd.prog (Glob globsG) 110 ref01IWithE :=
  fun_ok (cx := ref01IWithX) ref01IWithC (fn := Tryd.f110) Tryd.func110 (by kernel_rfl) Tryd.ntmps110 Tryd.call110 _ _ _ (by kernel_rfl) (by kernel_rfl)
    (fun w0 hG => lall_of lall_nil (by kernel_rfl : loopsOf (bodyOf Tryd.f110) = _)) (fun p => Eq.trans (b := ref01IWithB p.1 p.2) (by kernel_rfl) (ref01IWith_eq p.1 p.2).symm)

def ref01ShlL0Y : Lay := ⟨[(false, 2, .ptr 2 []), (false, 4, .ptr 4 []), (false, 5, .ptr 5 [])], [(false, 1, .int .i64), (false, 6, .int .i64), (true, 2, .u256), (true, 4, .u256), (true, 5, .u256)]⟩
def ref01ShlL0Z : List (Ex × Lay) := [(.exit 0, ⟨[(false, 4, .ptr 4 []), (false, 5, .ptr 5 [])], [(true, 4, .u256), (true, 5, .u256)]⟩)]
noncomputable def ref01ShlL0E : LEntry := mkL ref01ShlL0Y ref01ShlL0Z fun p => ref01ShlL0 p.1 p.2.1 p.2.2.1 p.2.2.2.1 p.2.2.2.2
noncomputable def ref01ShlX : Cx := mkCx Tryd.prog 28 globsG [(103, ref01BitE), (110, ref01IWithE)] [(5, ref01ShlL0E)] []
theorem ref01ShlC : CxOk ref01ShlX (Glob globsG) := cx_ok (by kernel_rfl) (by kernel_rfl) ⟨ref01BitK, ref01IWithK, trivial⟩
theorem ref01ShlL0K (w0 : World) (hG : Glob globsG w0) : LoopOk ref01ShlX w0 (loopAt Tryd.f107 0) ref01ShlL0E :=
  loop_okH ref01ShlC hG (loopAt Tryd.f107 0) (lall_of lall_nil (by kernel_rfl : loopsOf (loopAt Tryd.f107 0) = _))
    ref01ShlL0Y ref01ShlL0Z (by kernel_rfl) (fun p => ref01ShlL0R p.1 p.2.1 p.2.2.1 p.2.2.2.1 p.2.2.2.2) (fun p => 1000) (fun p => by kernel_rfl) _ (fun p => ref01ShlL0_eq p.1 p.2.1 p.2.2.1 p.2.2.2.1 p.2.2.2.2)
theorem ref01ShlK : CallOk Tryd.prog (Glob globsG) 107 ref01ShlE :=
  fun_ok (cx := ref01ShlX) ref01ShlC (fn := Tryd.f107) Tryd.func107 (by kernel_rfl) Tryd.ntmps107 Tryd.call107 _ _ _ (by kernel_rfl) (by kernel_rfl)
    (fun w0 hG => lall_of (lall_cut (b := loopAt Tryd.f107 0) (ref01ShlL0K w0 hG) (by kernel_rfl) (lall_nil)) (by kernel_rfl : loopsOf (bodyOf Tryd.f107) = _)) (fun p => Eq.trans (b := ref01ShlB p.1 p.2) (by kernel_rfl) (ref01Shl_eq p.1 p.2).symm)

noncomputable def ref01ShrX : Cx := mkCx Tryd.prog 16 globsG [(107, ref01ShlE)] [] []
theorem ref01ShrC : CxOk ref01ShrX (Glob globsG) := cx_ok (by kernel_rfl) (by kernel_rfl) ⟨ref01ShlK, trivial⟩
theorem ref01ShrK : CallOk Tryd.prog (Glob globsG) 92 ref01ShrE :=
  fun_ok (cx := ref01ShrX) ref01ShrC (fn := Tryd.f92) Tryd.func92 (by kernel_rfl) Tryd.ntmps92 Tryd.call92 _ _ _ (by kernel_rfl) (by kernel_rfl)
    (fun w0 hG => lall_of lall_nil (by kernel_rfl : loopsOf (bodyOf Tryd.f92) = _)) (fun p => Eq.trans (b := ref01ShrB p.1 p.2) (by kernel_rfl) (ref01Shr_eq p.1 p.2).symm)

noncomputable def ref06LowX : Cx := mkCx Tryd.prog 10 globsG [(92, ref01ShrE), (98, ref01CmpE), (99, ref06IOrderE)] [] []
theorem ref06LowC : CxOk ref06LowX (Glob globsG) := cx_ok (by kernel_rfl) (by kernel_rfl) ⟨ref01ShrK, ref01CmpK, ref06IOrderK, trivial⟩
theorem ref06LowK : CallOk Tryd.prog (Glob globsG) 67 ref06LowE :=
  fun_ok (cx := ref06LowX) ref06LowC (fn := Tryd.f67) Tryd.func67 (by kernel_rfl) Tryd.ntmps67 Tryd.call67 _ _ _ (by kernel_rfl) (by kernel_rfl)
    (fun w0 hG => lall_of lall_nil (by kernel_rfl : loopsOf (bodyOf Tryd.f67) = _)) (fun p => Eq.trans (b := ref06LowB p) (by kernel_rfl) (ref06Low_eq p).symm)

noncomputable def ref06CheckX : Cx := mkCx Tryd.prog 21 globsG [(66, ref06FitE), (67, ref06LowE)] [] []
theorem ref06CheckC : CxOk ref06CheckX (Glob globsG) := cx_ok (by kernel_rfl) (by kernel_rfl) ⟨ref06FitK, ref06LowK, trivial⟩
theorem ref06CheckK : CallOk Tryd.prog (Glob globsG) 17 ref06CheckE :=
  fun_ok (cx := ref06CheckX) ref06CheckC (fn := Tryd.f17) Tryd.func17 (by kernel_rfl) Tryd.ntmps17 Tryd.call17 _ _ _ (by kernel_rfl) (by kernel_rfl)
    (fun w0 hG => lall_of lall_nil (by kernel_rfl : loopsOf (bodyOf Tryd.f17) = _)) (fun p => Eq.trans (b := ref06CheckB p) (by kernel_rfl) (ref06Check_eq p).symm)

noncomputable def law06EcdsaChecksX : Cx := mkCx Tryd.prog 9 globsG [(15, law06INumE), (16, ecdsaCheckE), (17, ref06CheckE)] [] []
theorem law06EcdsaChecksC : CxOk law06EcdsaChecksX (Glob globsG) := cx_ok (by kernel_rfl) (by kernel_rfl) ⟨law06INumK, ecdsaCheckK, ref06CheckK, trivial⟩
theorem law06EcdsaChecksK : CallOk Tryd.prog (Glob globsG) 3 law06EcdsaChecksE :=
  fun_ok (cx := law06EcdsaChecksX) law06EcdsaChecksC (fn := Tryd.f3) Tryd.func3 (by kernel_rfl) Tryd.ntmps3 Tryd.call3 _ _ _ (by kernel_rfl) (by kernel_rfl)
    (fun w0 hG => lall_of lall_nil (by kernel_rfl : loopsOf (bodyOf Tryd.f3) = _)) (fun p => Eq.trans (b := law06EcdsaChecksB p) (by kernel_rfl) (law06EcdsaChecks_eq p).symm)

noncomputable def bitsMul64X : Cx := mkCx Tryd.prog 51 globsG [] [] []
theorem bitsMul64C : CxOk bitsMul64X (Glob globsG) := cx_ok (by kernel_rfl) (by kernel_rfl) trivial
theorem bitsMul64K : CallOk Tryd.prog (Glob globsG) 108 bitsMul64E :=
  fun_ok (cx := bitsMul64X) bitsMul64C (fn := Tryd.f108) Tryd.func108 (by kernel_rfl) Tryd.ntmps108 Tryd.call108 _ _ _ (by kernel_rfl) (by kernel_rfl)
    (fun w0 hG => lall_of lall_nil (by kernel_rfl : loopsOf (bodyOf Tryd.f108) = _)) (fun p => Eq.trans (b := bitsMul64B p.1 p.2) (by kernel_rfl) (bitsMul64_eq p.1 p.2).symm)

def u256MulL1Y : Lay := ⟨[(false, 2, .ptr 2 []), (false, 3, .ptr 3 []), (false, 4, .ptr 4 []), (false, 5, .ptr 5 []), (false, 6, .ptr 6 [])], [(false, 7, .int .i64), (false, 8, .int .u64), (false, 13, .int .i64), (false, 16, .int .i64), (true, 2, .u256), (true, 3, .u256), (true, 4, .u256), (true, 5, .u256), (true, 6, .arr (.int .u64) 8)]⟩
def u256MulL1Z : List (Ex × Lay) := [(.exit 2, ⟨[(false, 2, .ptr 2 []), (false, 3, .ptr 3 []), (false, 4, .ptr 4 []), (false, 5, .ptr 5 []), (false, 6, .ptr 6 [])], [(false, 7, .int .i64), (false, 8, .int .u64), (false, 13, .int .i64), (true, 2, .u256), (true, 3, .u256), (true, 4, .u256), (true, 5, .u256), (true, 6, .arr (.int .u64) 8)]⟩)]
noncomputable def u256MulL1E : LEntry := mkL u256MulL1Y u256MulL1Z fun p => u256MulL1 p.1 p.2.1 p.2.2.1 p.2.2.2.1 p.2.2.2.2.1 p.2.2.2.2.2.1 p.2.2.2.2.2.2.1 p.2.2.2.2.2.2.2.1 p.2.2.2.2.2.2.2.2
def u256MulL0Y : Lay := ⟨[(false, 2, .ptr 2 []), (false, 3, .ptr 3 []), (false, 4, .ptr 4 []), (false, 5, .ptr 5 []), (false, 6, .ptr 6 [])], [(false, 13, .int .i64), (true, 2, .u256), (true, 3, .u256), (true, 4, .u256), (true, 5, .u256), (true, 6, .arr (.int .u64) 8)]⟩
def u256MulL0Z : List (Ex × Lay) := [(.exit 0, ⟨[(false, 4, .ptr 4 []), (false, 5, .ptr 5 []), (false, 6, .ptr 6 [])], [(true, 4, .u256), (true, 5, .u256), (true, 6, .arr (.int .u64) 8)]⟩)]
noncomputable def u256MulL0E : LEntry := mkL u256MulL0Y u256MulL0Z fun p => u256MulL0 p.1 p.2.1 p.2.2.1 p.2.2.2.1 p.2.2.2.2.1 p.2.2.2.2.2
noncomputable def u256MulX : Cx := mkCx Tryd.prog 70 globsG [(106, bitsAdd64E), (108, bitsMul64E)] [(7, u256MulL1E), (3, u256MulL0E)] []
theorem u256MulC : CxOk u256MulX (Glob globsG) := cx_ok (by kernel_rfl) (by kernel_rfl) ⟨bitsAdd64K, bitsMul64K, trivial⟩
theorem u256MulL1K (w0 : World) (hG : Glob globsG w0) : LoopOk u256MulX w0 (loopAt Tryd.f93 1) u256MulL1E :=
  loop_okH u256MulC hG (loopAt Tryd.f93 1) (lall_of lall_nil (by kernel_rfl : loopsOf (loopAt Tryd.f93 1) = _))
    u256MulL1Y u256MulL1Z (by kernel_rfl) (fun p => u256MulL1R p.1 p.2.1 p.2.2.1 p.2.2.2.1 p.2.2.2.2.1 p.2.2.2.2.2.1 p.2.2.2.2.2.2.1 p.2.2.2.2.2.2.2.1 p.2.2.2.2.2.2.2.2) (fun p => 1000) (fun p => by kernel_rfl) _ (fun p => u256MulL1_eq p.1 p.2.1 p.2.2.1 p.2.2.2.1 p.2.2.2.2.1 p.2.2.2.2.2.1 p.2.2.2.2.2.2.1 p.2.2.2.2.2.2.2.1 p.2.2.2.2.2.2.2.2)
theorem u256MulL0K (w0 : World) (hG : Glob globsG w0) : LoopOk u256MulX w0 (loopAt Tryd.f93 0) u256MulL0E :=
  loop_okH u256MulC hG (loopAt Tryd.f93 0) (lall_of (lall_cut (b := loopAt Tryd.f93 1) (u256MulL1K w0 hG) (by kernel_rfl) (lall_nil)) (by kernel_rfl : loopsOf (loopAt Tryd.f93 0) = _))
    u256MulL0Y u256MulL0Z (by kernel_rfl) (fun p => u256MulL0R p.1 p.2.1 p.2.2.1 p.2.2.2.1 p.2.2.2.2.1 p.2.2.2.2.2) (fun p => 1000) (fun p => by kernel_rfl) _ (fun p => u256MulL0_eq p.1 p.2.1 p.2.2.1 p.2.2.2.1 p.2.2.2.2.1 p.2.2.2.2.2)
theorem u256MulK : CallOk Tryd.prog (Glob globsG) 93 u256MulE :=
  fun_ok (cx := u256MulX) u256MulC (fn := Tryd.f93) Tryd.func93 (by kernel_rfl) Tryd.ntmps93 Tryd.call93 _ _ _ (by kernel_rfl) (by kernel_rfl)
    (fun w0 hG => lall_of (lall_cut (b := loopAt Tryd.f93 0) (u256MulL0K w0 hG) (by kernel_rfl) (lall_cut (b := loopAt Tryd.f93 1) (u256MulL1K w0 hG) (by kernel_rfl) (lall_nil))) (by kernel_rfl : loopsOf (bodyOf Tryd.f93) = _)) (fun p => Eq.trans (b := u256MulB p.1 p.2) (by kernel_rfl) (u256Mul_eq p.1 p.2).symm)

noncomputable def u256AddX : Cx := mkCx Tryd.prog 28 globsG [(106, bitsAdd64E)] [] []
theorem u256AddC : CxOk u256AddX (Glob globsG) := cx_ok (by kernel_rfl) (by kernel_rfl) ⟨bitsAdd64K, trivial⟩
theorem u256AddK : CallOk Tryd.prog (Glob globsG) 90 u256AddE :=
  fun_ok (cx := u256AddX) u256AddC (fn := Tryd.f90) Tryd.func90 (by kernel_rfl) Tryd.ntmps90 Tryd.call90 _ _ _ (by kernel_rfl) (by kernel_rfl)
    (fun w0 hG => lall_of (lall_free (b := loopAt Tryd.f90 0) (by kernel_rfl) (lall_nil)) (by kernel_rfl : loopsOf (bodyOf Tryd.f90) = _)) (fun p => Eq.trans (b := u256AddB p.1 p.2) (by kernel_rfl) (u256Add_eq p.1 p.2).symm)

noncomputable def u256FromX : Cx := mkCx Tryd.prog 5 globsG [] [] []
theorem u256FromC : CxOk u256FromX (Glob globsG) := cx_ok (by kernel_rfl) (by kernel_rfl) trivial
theorem u256FromK : CallOk Tryd.prog (Glob globsG) 43 u256FromE :=
  fun_ok (cx := u256FromX) u256FromC (fn := Tryd.f43) Tryd.func43 (by kernel_rfl) Tryd.ntmps43 Tryd.call43 _ _ _ (by kernel_rfl) (by kernel_rfl)
    (fun w0 hG => lall_of lall_nil (by kernel_rfl : loopsOf (bodyOf Tryd.f43) = _)) (fun p => Eq.trans (b := u256FromB p) (by kernel_rfl) (u256From_eq p).symm)

def fieldModulusFoldL0Y : Lay := ⟨[(false, 3, .ptr 3 []), (false, 4, .ptr 4 []), (false, 5, .ptr 5 []), (false, 6, .ptr 6 [])], [(true, 3, .st [.u256, .u256]), (true, 4, .u256), (true, 5, .u256), (true, 6, .u256)]⟩
def fieldModulusFoldL0Z : List (Ex × Lay) := [(.exit 0, ⟨[(false, 3, .ptr 3 []), (false, 5, .ptr 5 []), (false, 6, .ptr 6 [])], [(true, 3, .st [.u256, .u256]), (true, 5, .u256), (true, 6, .u256)]⟩)]
noncomputable def fieldModulusFoldL0E : LEntry := mkL fieldModulusFoldL0Y fieldModulusFoldL0Z fun p => fieldModulusFoldL0 p.1 p.2.1 p.2.2.1 p.2.2.2
def fieldModulusFoldL1Y : Lay := ⟨[(false, 3, .ptr 3 []), (false, 5, .ptr 5 []), (false, 6, .ptr 6 [])], [(true, 3, .st [.u256, .u256]), (true, 5, .u256), (true, 6, .u256)]⟩
def fieldModulusFoldL1Z : List (Ex × Lay) := [(.exit 2, ⟨[(false, 5, .ptr 5 []), (false, 6, .ptr 6 [])], [(true, 5, .u256), (true, 6, .u256)]⟩)]
noncomputable def fieldModulusFoldL1E : LEntry := mkL fieldModulusFoldL1Y fieldModulusFoldL1Z fun p => fieldModulusFoldL1 p.1 p.2.1 p.2.2
noncomputable def fieldModulusFoldX : Cx := mkCx Tryd.prog 46 globsG [(43, u256FromE), (44, u256CmpE), (61, u256SubE), (90, u256AddE), (93, u256MulE)] [(1, fieldModulusFoldL0E), (6, fieldModulusFoldL1E)] []
theorem fieldModulusFoldC : CxOk fieldModulusFoldX (Glob globsG) := cx_ok (by kernel_rfl) (by kernel_rfl) ⟨u256FromK, u256CmpK, u256SubK, u256AddK, u256MulK, trivial⟩
theorem fieldModulusFoldL0K (w0 : World) (hG : Glob globsG w0) : LoopOk fieldModulusFoldX w0 (loopAt Tryd.f72 0) fieldModulusFoldL0E :=
  loop_okH fieldModulusFoldC hG (loopAt Tryd.f72 0) (lall_of lall_nil (by kernel_rfl : loopsOf (loopAt Tryd.f72 0) = _))
    fieldModulusFoldL0Y fieldModulusFoldL0Z (by kernel_rfl) (fun p => fieldModulusFoldL0R p.1 p.2.1 p.2.2.1 p.2.2.2) (fun p => 1000) (fun p => by kernel_rfl) _ (fun p => fieldModulusFoldL0_eq p.1 p.2.1 p.2.2.1 p.2.2.2)
theorem fieldModulusFoldL1K (w0 : World) (hG : Glob globsG w0) : LoopOk fieldModulusFoldX w0 (loopAt Tryd.f72 1) fieldModulusFoldL1E :=
  loop_okH fieldModulusFoldC hG (loopAt Tryd.f72 1) (lall_of lall_nil (by kernel_rfl : loopsOf (loopAt Tryd.f72 1) = _))
    fieldModulusFoldL1Y fieldModulusFoldL1Z (by kernel_rfl) (fun p => fieldModulusFoldL1R p.1 p.2.1 p.2.2) (fun p => 1000) (fun p => by kernel_rfl) _ (fun p => fieldModulusFoldL1_eq p.1 p.2.1 p.2.2)
theorem fieldModulusFoldK : CallOk Tryd.prog (Glob globsG) 72 fieldModulusFoldE :=
  fun_ok (cx := fieldModulusFoldX) fieldModulusFoldC (fn := Tryd.f72) Tryd.func72 (by kernel_rfl) Tryd.ntmps72 Tryd.call72 _ _ _ (by kernel_rfl) (by kernel_rfl)
    (fun w0 hG => lall_of (lall_cut (b := loopAt Tryd.f72 0) (fieldModulusFoldL0K w0 hG) (by kernel_rfl) (lall_cut (b := loopAt Tryd.f72 1) (fieldModulusFoldL1K w0 hG) (by kernel_rfl) (lall_nil))) (by kernel_rfl : loopsOf (bodyOf Tryd.f72) = _)) (fun p => Eq.trans (b := fieldModulusFoldB p.1 p.2.1 p.2.2) (by kernel_rfl) (fieldModulusFold_eq p.1 p.2.1 p.2.2).symm)

noncomputable def fieldModulusMulX : Cx := mkCx Tryd.prog 14 globsG [(72, fieldModulusFoldE), (93, u256MulE)] [] []
theorem fieldModulusMulC : CxOk fieldModulusMulX (Glob globsG) := cx_ok (by kernel_rfl) (by kernel_rfl) ⟨fieldModulusFoldK, u256MulK, trivial⟩
theorem fieldModulusMulK : CallOk Tryd.prog (Glob globsG) 69 fieldModulusMulE :=
  fun_ok (cx := fieldModulusMulX) fieldModulusMulC (fn := Tryd.f69) Tryd.func69 (by kernel_rfl) Tryd.ntmps69 Tryd.call69 _ _ _ (by kernel_rfl) (by kernel_rfl)
    (fun w0 hG => lall_of lall_nil (by kernel_rfl : loopsOf (bodyOf Tryd.f69) = _)) (fun p => Eq.trans (b := fieldModulusMulB p.1 p.2.1 p.2.2) (by kernel_rfl) (fieldModulusMul_eq p.1 p.2.1 p.2.2).symm)

noncomputable def fieldMulX : Cx := mkCx Tryd.prog 23 globsG [(68, fieldIOfE), (69, fieldModulusMulE)] [] []
theorem fieldMulC : CxOk fieldMulX (Glob globsG) := cx_ok (by kernel_rfl) (by kernel_rfl) ⟨fieldIOfK, fieldModulusMulK, trivial⟩
theorem fieldMulK : CallOk Tryd.prog (Glob globsG) 18 fieldMulE :=
  fun_ok (cx := fieldMulX) fieldMulC (fn := Tryd.f18) Tryd.func18 (by kernel_rfl) Tryd.ntmps18 Tryd.call18 _ _ _ (by kernel_rfl) (by kernel_rfl)
    (fun w0 hG => lall_of lall_nil (by kernel_rfl : loopsOf (bodyOf Tryd.f18) = _)) (fun p => Eq.trans (b := fieldMulB p.1 p.2.1 p.2.2) (by kernel_rfl) (fieldMul_eq p.1 p.2.1 p.2.2).symm)

noncomputable def ref01IDigitsX : Cx := mkCx Tryd.prog 25 globsG [] [] []
theorem ref01IDigitsC : CxOk ref01IDigitsX (Glob globsG) := cx_ok (by kernel_rfl) (by kernel_rfl) trivial
theorem ref01IDigitsK : CallOk Tryd.prog (Glob globsG) 104 ref01IDigitsE :=
  fun_ok (cx := ref01IDigitsX) ref01IDigitsC (fn := Tryd.f104) Tryd.func104 (by kernel_rfl) Tryd.ntmps104 Tryd.call104 _ _ _ (by kernel_rfl) (by kernel_rfl)
    (fun w0 hG => lall_of (lall_free (b := loopAt Tryd.f104 0) (by kernel_rfl) (lall_nil)) (by kernel_rfl : loopsOf (bodyOf Tryd.f104) = _)) (fun p => Eq.trans (b := ref01IDigitsB p) (by kernel_rfl) (ref01IDigits_eq p).symm)

noncomputable def ref01INumberX : Cx := mkCx Tryd.prog 23 globsG [] [] []
theorem ref01INumberC : CxOk ref01INumberX (Glob globsG) := cx_ok (by kernel_rfl) (by kernel_rfl) trivial
theorem ref01INumberK : CallOk Tryd.prog (Glob globsG) 105 ref01INumberE :=
  fun_ok (cx := ref01INumberX) ref01INumberC (fn := Tryd.f105) Tryd.func105 (by kernel_rfl) Tryd.ntmps105 Tryd.call105 _ _ _ (by kernel_rfl) (by kernel_rfl)
    (fun w0 hG => lall_of (lall_free (b := loopAt Tryd.f105 0) (by kernel_rfl) (lall_nil)) (by kernel_rfl : loopsOf (bodyOf Tryd.f105) = _)) (fun p => Eq.trans (b := ref01INumberB p) (by kernel_rfl) (ref01INumber_eq p).symm)

def ref01MulL1Y : Lay := ⟨[(false, 4, .ptr 4 []), (false, 5, .ptr 5 []), (false, 6, .ptr 6 []), (false, 7, .ptr 7 []), (false, 8, .ptr 8 [])], [(false, 9, .int .i64), (false, 10, .int .u64), (false, 11, .int .i64), (true, 4, .u256), (true, 5, .u256), (true, 6, .arr (.int .u64) 8), (true, 7, .arr (.int .u64) 8), (true, 8, .arr (.int .u64) 16)]⟩
def ref01MulL1Z : List (Ex × Lay) := [(.exit 2, ⟨[(false, 4, .ptr 4 []), (false, 5, .ptr 5 []), (false, 6, .ptr 6 []), (false, 7, .ptr 7 []), (false, 8, .ptr 8 [])], [(false, 9, .int .i64), (false, 10, .int .u64), (true, 4, .u256), (true, 5, .u256), (true, 6, .arr (.int .u64) 8), (true, 7, .arr (.int .u64) 8), (true, 8, .arr (.int .u64) 16)]⟩)]
noncomputable def ref01MulL1E : LEntry := mkL ref01MulL1Y ref01MulL1Z fun p => ref01MulL1 p.1 p.2.1 p.2.2.1 p.2.2.2.1 p.2.2.2.2.1 p.2.2.2.2.2.1 p.2.2.2.2.2.2.1 p.2.2.2.2.2.2.2
def ref01MulL0Y : Lay := ⟨[(false, 4, .ptr 4 []), (false, 5, .ptr 5 []), (false, 6, .ptr 6 []), (false, 7, .ptr 7 []), (false, 8, .ptr 8 [])], [(false, 9, .int .i64), (true, 4, .u256), (true, 5, .u256), (true, 6, .arr (.int .u64) 8), (true, 7, .arr (.int .u64) 8), (true, 8, .arr (.int .u64) 16)]⟩
def ref01MulL0Z : List (Ex × Lay) := [(.exit 0, ⟨[(false, 4, .ptr 4 []), (false, 5, .ptr 5 []), (false, 8, .ptr 8 [])], [(true, 4, .u256), (true, 5, .u256), (true, 8, .arr (.int .u64) 16)]⟩)]
noncomputable def ref01MulL0E : LEntry := mkL ref01MulL0Y ref01MulL0Z fun p => ref01MulL0 p.1 p.2.1 p.2.2.1 p.2.2.2.1 p.2.2.2.2.1 p.2.2.2.2.2
def ref01MulL2Y : Lay := ⟨[(false, 4, .ptr 4 []), (false, 5, .ptr 5 []), (false, 8, .ptr 8 []), (false, 13, .ptr 13 []), (false, 14, .ptr 14 [])], [(false, 15, .int .i64), (true, 4, .u256), (true, 5, .u256), (true, 8, .arr (.int .u64) 16), (true, 13, .arr (.int .u64) 8), (true, 14, .arr (.int .u64) 8)]⟩
def ref01MulL2Z : List (Ex × Lay) := [(.exit 4, ⟨[(false, 4, .ptr 4 []), (false, 5, .ptr 5 []), (false, 13, .ptr 13 []), (false, 14, .ptr 14 [])], [(true, 4, .u256), (true, 5, .u256), (true, 13, .arr (.int .u64) 8), (true, 14, .arr (.int .u64) 8)]⟩)]
noncomputable def ref01MulL2E : LEntry := mkL ref01MulL2Y ref01MulL2Z fun p => ref01MulL2 p.1 p.2.1 p.2.2.1 p.2.2.2.1 p.2.2.2.2.1 p.2.2.2.2.2
noncomputable def ref01MulX : Cx := mkCx Tryd.prog 74 globsG [(104, ref01IDigitsE), (105, ref01INumberE)] [(9, ref01MulL1E), (5, ref01MulL0E), (17, ref01MulL2E)] []
theorem ref01MulC : CxOk ref01MulX (Glob globsG) := cx_ok (by kernel_rfl) (by kernel_rfl) ⟨ref01IDigitsK, ref01INumberK, trivial⟩
theorem ref01MulL1K (w0 : World) (hG : Glob globsG w0) : LoopOk ref01MulX w0 (loopAt Tryd.f100 1) ref01MulL1E :=
  loop_okH ref01MulC hG (loopAt Tryd.f100 1) (lall_of lall_nil (by kernel_rfl : loopsOf (loopAt Tryd.f100 1) = _))
    ref01MulL1Y ref01MulL1Z (by kernel_rfl) (fun p => ref01MulL1R p.1 p.2.1 p.2.2.1 p.2.2.2.1 p.2.2.2.2.1 p.2.2.2.2.2.1 p.2.2.2.2.2.2.1 p.2.2.2.2.2.2.2) (fun p => 1000) (fun p => by kernel_rfl) _ (fun p => ref01MulL1_eq p.1 p.2.1 p.2.2.1 p.2.2.2.1 p.2.2.2.2.1 p.2.2.2.2.2.1 p.2.2.2.2.2.2.1 p.2.2.2.2.2.2.2)
theorem ref01MulL0K (w0 : World) (hG : Glob globsG w0) : LoopOk ref01MulX w0 (loopAt Tryd.f100 0) ref01MulL0E :=
  loop_okH ref01MulC hG (loopAt Tryd.f100 0) (lall_of (lall_cut (b := loopAt Tryd.f100 1) (ref01MulL1K w0 hG) (by kernel_rfl) (lall_nil)) (by kernel_rfl : loopsOf (loopAt Tryd.f100 0) = _))
    ref01MulL0Y ref01MulL0Z (by kernel_rfl) (fun p => ref01MulL0R p.1 p.2.1 p.2.2.1 p.2.2.2.1 p.2.2.2.2.1 p.2.2.2.2.2) (fun p => 1000) (fun p => by kernel_rfl) _ (fun p => ref01MulL0_eq p.1 p.2.1 p.2.2.1 p.2.2.2.1 p.2.2.2.2.1 p.2.2.2.2.2)
theorem ref01MulL2K (w0 : World) (hG : Glob globsG w0) : LoopOk ref01MulX w0 (loopAt Tryd.f100 2) ref01MulL2E :=
  loop_okH ref01MulC hG (loopAt Tryd.f100 2) (lall_of lall_nil (by kernel_rfl : loopsOf (loopAt Tryd.f100 2) = _))
    ref01MulL2Y ref01MulL2Z (by kernel_rfl) (fun p => ref01MulL2R p.1 p.2.1 p.2.2.1 p.2.2.2.1 p.2.2.2.2.1 p.2.2.2.2.2) (fun p => 1000) (fun p => by kernel_rfl) _ (fun p => ref01MulL2_eq p.1 p.2.1 p.2.2.1 p.2.2.2.1 p.2.2.2.2.1 p.2.2.2.2.2)
theorem ref01MulK : CallOk Tryd.prog (Glob globsG) 100 ref01MulE :=
  fun_ok (cx := ref01MulX) ref01MulC (fn := Tryd.f100) Tryd.func100 (by kernel_rfl) Tryd.ntmps100 Tryd.call100 _ _ _ (by kernel_rfl) (by kernel_rfl)
    (fun w0 hG => lall_of (lall_cut (b := loopAt Tryd.f100 0) (ref01MulL0K w0 hG) (by kernel_rfl) (lall_cut (b := loopAt Tryd.f100 1) (ref01MulL1K w0 hG) (by kernel_rfl) (lall_cut (b := loopAt Tryd.f100 2) (ref01MulL2K w0 hG) (by kernel_rfl) (lall_nil)))) (by kernel_rfl : loopsOf (bodyOf Tryd.f100) = _)) (fun p => Eq.trans (b := ref01MulB p.1 p.2) (by kernel_rfl) (ref01Mul_eq p.1 p.2).symm)

def ref01SubL0Y : Lay := ⟨[(false, 4, .ptr 4 []), (false, 6, .ptr 6 []), (false, 7, .ptr 7 [])], [(false, 8, .int .u64), (false, 9, .int .i64), (true, 4, .u256), (true, 6, .arr (.int .u64) 8), (true, 7, .arr (.int .u64) 8)]⟩
def ref01SubL0Z : List (Ex × Lay) := [(.exit 0, ⟨[(false, 4, .ptr 4 []), (false, 6, .ptr 6 [])], [(false, 8, .int .u64), (true, 4, .u256), (true, 6, .arr (.int .u64) 8)]⟩)]
noncomputable def ref01SubL0E : LEntry := mkL ref01SubL0Y ref01SubL0Z fun p => ref01SubL0 p.1 p.2.1 p.2.2.1 p.2.2.2.1 p.2.2.2.2
noncomputable def ref01SubX : Cx := mkCx Tryd.prog 45 globsG [(104, ref01IDigitsE), (105, ref01INumberE)] [(5, ref01SubL0E)] []
theorem ref01SubC : CxOk ref01SubX (Glob globsG) := cx_ok (by kernel_rfl) (by kernel_rfl) ⟨ref01IDigitsK, ref01INumberK, trivial⟩
theorem ref01SubL0K (w0 : World) (hG : Glob globsG w0) : LoopOk ref01SubX w0 (loopAt Tryd.f88 0) ref01SubL0E :=
  loop_okH ref01SubC hG (loopAt Tryd.f88 0) (lall_of lall_nil (by kernel_rfl : loopsOf (loopAt Tryd.f88 0) = _))
    ref01SubL0Y ref01SubL0Z (by kernel_rfl) (fun p => ref01SubL0R p.1 p.2.1 p.2.2.1 p.2.2.2.1 p.2.2.2.2) (fun p => 1000) (fun p => by kernel_rfl) _ (fun p => ref01SubL0_eq p.1 p.2.1 p.2.2.1 p.2.2.2.1 p.2.2.2.2)
theorem ref01SubK : CallOk Tryd.prog (Glob globsG) 88 ref01SubE :=
  fun_ok (cx := ref01SubX) ref01SubC (fn := Tryd.f88) Tryd.func88 (by kernel_rfl) Tryd.ntmps88 Tryd.call88 _ _ _ (by kernel_rfl) (by kernel_rfl)
    (fun w0 hG => lall_of (lall_cut (b := loopAt Tryd.f88 0) (ref01SubL0K w0 hG) (by kernel_rfl) (lall_nil)) (by kernel_rfl : loopsOf (bodyOf Tryd.f88) = _)) (fun p => Eq.trans (b := ref01SubB p.1 p.2) (by kernel_rfl) (ref01Sub_eq p.1 p.2).symm)

def ref01AddL0Y : Lay := ⟨[(false, 4, .ptr 4 []), (false, 6, .ptr 6 []), (false, 7, .ptr 7 [])], [(false, 8, .int .u64), (false, 9, .int .i64), (true, 4, .u256), (true, 6, .arr (.int .u64) 8), (true, 7, .arr (.int .u64) 8)]⟩
def ref01AddL0Z : List (Ex × Lay) := [(.exit 0, ⟨[(false, 4, .ptr 4 []), (false, 6, .ptr 6 [])], [(false, 8, .int .u64), (true, 4, .u256), (true, 6, .arr (.int .u64) 8)]⟩)]
noncomputable def ref01AddL0E : LEntry := mkL ref01AddL0Y ref01AddL0Z fun p => ref01AddL0 p.1 p.2.1 p.2.2.1 p.2.2.2.1 p.2.2.2.2
noncomputable def ref01AddX : Cx := mkCx Tryd.prog 37 globsG [(104, ref01IDigitsE), (105, ref01INumberE)] [(5, ref01AddL0E)] []
theorem ref01AddC : CxOk ref01AddX (Glob globsG) := cx_ok (by kernel_rfl) (by kernel_rfl) ⟨ref01IDigitsK, ref01INumberK, trivial⟩
theorem ref01AddL0K (w0 : World) (hG : Glob globsG w0) : LoopOk ref01AddX w0 (loopAt Tryd.f91 0) ref01AddL0E :=
  loop_okH ref01AddC hG (loopAt Tryd.f91 0) (lall_of lall_nil (by kernel_rfl : loopsOf (loopAt Tryd.f91 0) = _))
    ref01AddL0Y ref01AddL0Z (by kernel_rfl) (fun p => ref01AddL0R p.1 p.2.1 p.2.2.1 p.2.2.2.1 p.2.2.2.2) (fun p => 1000) (fun p => by kernel_rfl) _ (fun p => ref01AddL0_eq p.1 p.2.1 p.2.2.1 p.2.2.2.1 p.2.2.2.2)
theorem ref01AddK : CallOk Tryd.prog (Glob globsG) 91 ref01AddE :=
  fun_ok (cx := ref01AddX) ref01AddC (fn := Tryd.f91) Tryd.func91 (by kernel_rfl) Tryd.ntmps91 Tryd.call91 _ _ _ (by kernel_rfl) (by kernel_rfl)
    (fun w0 hG => lall_of (lall_cut (b := loopAt Tryd.f91 0) (ref01AddL0K w0 hG) (by kernel_rfl) (lall_nil)) (by kernel_rfl : loopsOf (bodyOf Tryd.f91) = _)) (fun p => Eq.trans (b := ref01AddB p.1 p.2) (by kernel_rfl) (ref01Add_eq p.1 p.2).symm)

noncomputable def ref01FromX : Cx := mkCx Tryd.prog 5 globsG [] [] []
theorem ref01FromC : CxOk ref01FromX (Glob globsG) := cx_ok (by kernel_rfl) (by kernel_rfl) trivial
theorem ref01FromK : CallOk Tryd.prog (Glob globsG) 89 ref01FromE :=
  fun_ok (cx := ref01FromX) ref01FromC (fn := Tryd.f89) Tryd.func89 (by kernel_rfl) Tryd.ntmps89 Tryd.call89 _ _ _ (by kernel_rfl) (by kernel_rfl)
    (fun w0 hG => lall_of lall_nil (by kernel_rfl : loopsOf (bodyOf Tryd.f89) = _)) (fun p => Eq.trans (b := ref01FromB p) (by kernel_rfl) (ref01From_eq p).symm)

def ref04IFoldL0Y : Lay := ⟨[(false, 4, .ptr 4 []), (false, 5, .ptr 5 []), (false, 6, .ptr 6 []), (false, 7, .ptr 7 []), (false, 8, .ptr 8 []), (false, 9, .ptr 9 [])], [(true, 4, .u256), (true, 5, .u256), (true, 6, .u256), (true, 7, .u256), (true, 8, .u256), (true, 9, .u256)]⟩
def ref04IFoldL0Z : List (Ex × Lay) := [(.exit 0, ⟨[(false, 5, .ptr 5 []), (false, 6, .ptr 6 []), (false, 8, .ptr 8 [])], [(true, 5, .u256), (true, 6, .u256), (true, 8, .u256)]⟩)]
noncomputable def ref04IFoldL0E : LEntry := mkL ref04IFoldL0Y ref04IFoldL0Z fun p => ref04IFoldL0 p.1 p.2.1 p.2.2.1 p.2.2.2.1 p.2.2.2.2.1 p.2.2.2.2.2
def ref04IFoldL1Y : Lay := ⟨[(false, 5, .ptr 5 []), (false, 6, .ptr 6 []), (false, 8, .ptr 8 [])], [(true, 5, .u256), (true, 6, .u256), (true, 8, .u256)]⟩
def ref04IFoldL1Z : List (Ex × Lay) := [(.exit 2, ⟨[(false, 5, .ptr 5 []), (false, 6, .ptr 6 [])], [(true, 5, .u256), (true, 6, .u256)]⟩)]
noncomputable def ref04IFoldL1E : LEntry := mkL ref04IFoldL1Y ref04IFoldL1Z fun p => ref04IFoldL1 p.1 p.2.1 p.2.2
noncomputable def ref04IFoldX : Cx := mkCx Tryd.prog 64 globsG [(74, ref04IModulusE), (88, ref01SubE), (89, ref01FromE), (91, ref01AddE), (98, ref01CmpE), (100, ref01MulE)] [(4, ref04IFoldL0E), (10, ref04IFoldL1E)] []
theorem ref04IFoldC : CxOk ref04IFoldX (Glob globsG) := cx_ok (by kernel_rfl) (by kernel_rfl) ⟨ref04IModulusK, ref01SubK, ref01FromK, ref01AddK, ref01CmpK, ref01MulK, trivial⟩
theorem ref04IFoldL0K (w0 : World) (hG : Glob globsG w0) : LoopOk ref04IFoldX w0 (loopAt Tryd.f73 0) ref04IFoldL0E :=
  loop_okH ref04IFoldC hG (loopAt Tryd.f73 0) (lall_of lall_nil (by kernel_rfl : loopsOf (loopAt Tryd.f73 0) = _))
    ref04IFoldL0Y ref04IFoldL0Z (by kernel_rfl) (fun p => ref04IFoldL0R p.1 p.2.1 p.2.2.1 p.2.2.2.1 p.2.2.2.2.1 p.2.2.2.2.2) (fun p => 1000) (fun p => by kernel_rfl) _ (fun p => ref04IFoldL0_eq p.1 p.2.1 p.2.2.1 p.2.2.2.1 p.2.2.2.2.1 p.2.2.2.2.2)
theorem ref04IFoldL1K (w0 : World) (hG : Glob globsG w0) : LoopOk ref04IFoldX w0 (loopAt Tryd.f73 1) ref04IFoldL1E :=
  loop_okH ref04IFoldC hG (loopAt Tryd.f73 1) (lall_of lall_nil (by kernel_rfl : loopsOf (loopAt Tryd.f73 1) = _))
    ref04IFoldL1Y ref04IFoldL1Z (by kernel_rfl) (fun p => ref04IFoldL1R p.1 p.2.1 p.2.2) (fun p => 1000) (fun p => by kernel_rfl) _ (fun p => ref04IFoldL1_eq p.1 p.2.1 p.2.2)
theorem ref04IFoldK : CallOk Tryd.prog (Glob globsG) 73 ref04IFoldE :=
  fun_ok (cx := ref04IFoldX) ref04IFoldC (fn := Tryd.f73) Tryd.func73 (by kernel_rfl) Tryd.ntmps73 Tryd.call73 _ _ _ (by kernel_rfl) (by kernel_rfl)
    (fun w0 hG => lall_of (lall_cut (b := loopAt Tryd.f73 0) (ref04IFoldL0K w0 hG) (by kernel_rfl) (lall_cut (b := loopAt Tryd.f73 1) (ref04IFoldL1K w0 hG) (by kernel_rfl) (lall_nil))) (by kernel_rfl : loopsOf (bodyOf Tryd.f73) = _)) (fun p => Eq.trans (b := ref04IFoldB p.1 p.2.1 p.2.2) (by kernel_rfl) (ref04IFold_eq p.1 p.2.1 p.2.2).symm)

noncomputable def ref04ITimesX : Cx := mkCx Tryd.prog 19 globsG [(73, ref04IFoldE), (100, ref01MulE)] [] []
theorem ref04ITimesC : CxOk ref04ITimesX (Glob globsG) := cx_ok (by kernel_rfl) (by kernel_rfl) ⟨ref04IFoldK, ref01MulK, trivial⟩
theorem ref04ITimesK : CallOk Tryd.prog (Glob globsG) 71 ref04ITimesE :=
  fun_ok (cx := ref04ITimesX) ref04ITimesC (fn := Tryd.f71) Tryd.func71 (by kernel_rfl) Tryd.ntmps71 Tryd.call71 _ _ _ (by kernel_rfl) (by kernel_rfl)
    (fun w0 hG => lall_of lall_nil (by kernel_rfl : loopsOf (bodyOf Tryd.f71) = _)) (fun p => Eq.trans (b := ref04ITimesB p.1 p.2.1 p.2.2) (by kernel_rfl) (ref04ITimes_eq p.1 p.2.1 p.2.2).symm)

noncomputable def ref04MulX : Cx := mkCx Tryd.prog 18 globsG [(70, ref04IGoodE), (71, ref04ITimesE)] [] []
theorem ref04MulC : CxOk ref04MulX (Glob globsG) := cx_ok (by kernel_rfl) (by kernel_rfl) ⟨ref04IGoodK, ref04ITimesK, trivial⟩
theorem ref04MulK : CallOk Tryd.prog (Glob globsG) 19 ref04MulE :=
  fun_ok (cx := ref04MulX) ref04MulC (fn := Tryd.f19) Tryd.func19 (by kernel_rfl) Tryd.ntmps19 Tryd.call19 _ _ _ (by kernel_rfl) (by kernel_rfl)
    (fun w0 hG => lall_of lall_nil (by kernel_rfl : loopsOf (bodyOf Tryd.f19) = _)) (fun p => Eq.trans (b := ref04MulB p.1 p.2.1 p.2.2) (by kernel_rfl) (ref04Mul_eq p.1 p.2.1 p.2.2).symm)

noncomputable def law04INumX : Cx := mkCx Tryd.prog 4 globsG [] [] []
theorem law04INumC : CxOk law04INumX (Glob globsG) := cx_ok (by kernel_rfl) (by kernel_rfl) trivial
theorem law04INumK : CallOk Tryd.prog (Glob globsG) 20 law04INumE :=
  fun_ok (cx := law04INumX) law04INumC (fn := Tryd.f20) Tryd.func20 (by kernel_rfl) Tryd.ntmps20 Tryd.call20 _ _ _ (by kernel_rfl) (by kernel_rfl)
    (fun w0 hG => lall_of lall_nil (by kernel_rfl : loopsOf (bodyOf Tryd.f20) = _)) (fun p => Eq.trans (b := law04INumB p) (by kernel_rfl) (law04INum_eq p).symm)

noncomputable def fieldSquareX : Cx := mkCx Tryd.prog 12 globsG [(18, fieldMulE)] [] []
theorem fieldSquareC : CxOk fieldSquareX (Glob globsG) := cx_ok (by kernel_rfl) (by kernel_rfl) ⟨fieldMulK, trivial⟩
theorem fieldSquareK : CallOk Tryd.prog (Glob globsG) 21 fieldSquareE :=
  fun_ok (cx := fieldSquareX) fieldSquareC (fn := Tryd.f21) Tryd.func21 (by kernel_rfl) Tryd.ntmps21 Tryd.call21 _ _ _ (by kernel_rfl) (by kernel_rfl)
    (fun w0 hG => lall_of lall_nil (by kernel_rfl : loopsOf (bodyOf Tryd.f21) = _)) (fun p => Eq.trans (b := fieldSquareB p.1 p.2) (by kernel_rfl) (fieldSquare_eq p.1 p.2).symm)

noncomputable def ref04SquareX : Cx := mkCx Tryd.prog 12 globsG [(19, ref04MulE)] [] []
theorem ref04SquareC : CxOk ref04SquareX (Glob globsG) := cx_ok (by kernel_rfl) (by kernel_rfl) ⟨ref04MulK, trivial⟩
theorem ref04SquareK : CallOk Tryd.prog (Glob globsG) 22 ref04SquareE :=
  fun_ok (cx := ref04SquareX) ref04SquareC (fn := Tryd.f22) Tryd.func22 (by kernel_rfl) Tryd.ntmps22 Tryd.call22 _ _ _ (by kernel_rfl) (by kernel_rfl)
    (fun w0 hG => lall_of lall_nil (by kernel_rfl : loopsOf (bodyOf Tryd.f22) = _)) (fun p => Eq.trans (b := ref04SquareB p.1 p.2) (by kernel_rfl) (ref04Square_eq p.1 p.2).symm)

noncomputable def fieldReduceX : Cx := mkCx Tryd.prog 23 globsG [(68, fieldIOfE), (72, fieldModulusFoldE)] [] []
theorem fieldReduceC : CxOk fieldReduceX (Glob globsG) := cx_ok (by kernel_rfl) (by kernel_rfl) ⟨fieldIOfK, fieldModulusFoldK, trivial⟩
theorem fieldReduceK : CallOk Tryd.prog (Glob globsG) 23 fieldReduceE :=
  fun_ok (cx := fieldReduceX) fieldReduceC (fn := Tryd.f23) Tryd.func23 (by kernel_rfl) Tryd.ntmps23 Tryd.call23 _ _ _ (by kernel_rfl) (by kernel_rfl)
    (fun w0 hG => lall_of lall_nil (by kernel_rfl : loopsOf (bodyOf Tryd.f23) = _)) (fun p => Eq.trans (b := fieldReduceB p.1 p.2.1 p.2.2) (by kernel_rfl) (fieldReduce_eq p.1 p.2.1 p.2.2).symm)

noncomputable def ref04ReduceX : Cx := mkCx Tryd.prog 18 globsG [(70, ref04IGoodE), (73, ref04IFoldE)] [] []
theorem ref04ReduceC : CxOk ref04ReduceX (Glob globsG) := cx_ok (by kernel_rfl) (by kernel_rfl) ⟨ref04IGoodK, ref04IFoldK, trivial⟩
theorem ref04ReduceK : CallOk Tryd.prog (Glob globsG) 24 ref04ReduceE :=
  fun_ok (cx := ref04ReduceX) ref04ReduceC (fn := Tryd.f24) Tryd.func24 (by kernel_rfl) Tryd.ntmps24 Tryd.call24 _ _ _ (by kernel_rfl) (by kernel_rfl)
    (fun w0 hG => lall_of lall_nil (by kernel_rfl : loopsOf (bodyOf Tryd.f24) = _)) (fun p => Eq.trans (b := ref04ReduceB p.1 p.2.1 p.2.2) (by kernel_rfl) (ref04Reduce_eq p.1 p.2.1 p.2.2).symm)

noncomputable def law04FieldProductsX : Cx := mkCx Tryd.prog 78 globsG [(18, fieldMulE), (19, ref04MulE), (20, law04INumE), (21, fieldSquareE), (22, ref04SquareE), (23, fieldReduceE), (24, ref04ReduceE)] [] []
theorem law04FieldProductsC : CxOk law04FieldProductsX (Glob globsG) := cx_ok (by kernel_rfl) (by kernel_rfl) ⟨fieldMulK, ref04MulK, law04INumK, fieldSquareK, ref04SquareK, fieldReduceK, ref04ReduceK, trivial⟩
theorem law04FieldProductsK : CallOk Tryd.prog (Glob globsG) 4 law04FieldProductsE :=
  fun_ok (cx := law04FieldProductsX) law04FieldProductsC (fn := Tryd.f4) Tryd.func4 (by kernel_rfl) Tryd.ntmps4 Tryd.call4 _ _ _ (by kernel_rfl) (by kernel_rfl)
    (fun w0 hG => lall_of lall_nil (by kernel_rfl : loopsOf (bodyOf Tryd.f4) = _)) (fun p => Eq.trans (b := law04FieldProductsB p.1 p.2.1 p.2.2) (by kernel_rfl) (law04FieldProducts_eq p.1 p.2.1 p.2.2).symm)

noncomputable def fieldModulusAddX : Cx := mkCx Tryd.prog 20 globsG [(43, u256FromE), (72, fieldModulusFoldE), (90, u256AddE)] [] []
theorem fieldModulusAddC : CxOk fieldModulusAddX (Glob globsG) := cx_ok (by kernel_rfl) (by kernel_rfl) ⟨u256FromK, fieldModulusFoldK, u256AddK, trivial⟩
theorem fieldModulusAddK : CallOk Tryd.prog (Glob globsG) 75 fieldModulusAddE :=
  fun_ok (cx := fieldModulusAddX) fieldModulusAddC (fn := Tryd.f75) Tryd.func75 (by kernel_rfl) Tryd.ntmps75 Tryd.call75 _ _ _ (by kernel_rfl) (by kernel_rfl)
    (fun w0 hG => lall_of lall_nil (by kernel_rfl : loopsOf (bodyOf Tryd.f75) = _)) (fun p => Eq.trans (b := fieldModulusAddB p.1 p.2.1 p.2.2) (by kernel_rfl) (fieldModulusAdd_eq p.1 p.2.1 p.2.2).symm)

noncomputable def fieldAddX : Cx := mkCx Tryd.prog 23 globsG [(68, fieldIOfE), (75, fieldModulusAddE)] [] []
theorem fieldAddC : CxOk fieldAddX (Glob globsG) := cx_ok (by kernel_rfl) (by kernel_rfl) ⟨fieldIOfK, fieldModulusAddK, trivial⟩
theorem fieldAddK : CallOk Tryd.prog (Glob globsG) 27 fieldAddE :=
  fun_ok (cx := fieldAddX) fieldAddC (fn := Tryd.f27) Tryd.func27 (by kernel_rfl) Tryd.ntmps27 Tryd.call27 _ _ _ (by kernel_rfl) (by kernel_rfl)
    (fun w0 hG => lall_of lall_nil (by kernel_rfl : loopsOf (bodyOf Tryd.f27) = _)) (fun p => Eq.trans (b := fieldAddB p.1 p.2.1 p.2.2) (by kernel_rfl) (fieldAdd_eq p.1 p.2.1 p.2.2).symm)

noncomputable def ref04IPlusX : Cx := mkCx Tryd.prog 20 globsG [(73, ref04IFoldE), (89, ref01FromE), (91, ref01AddE)] [] []
theorem ref04IPlusC : CxOk ref04IPlusX (Glob globsG) := cx_ok (by kernel_rfl) (by kernel_rfl) ⟨ref04IFoldK, ref01FromK, ref01AddK, trivial⟩
theorem ref04IPlusK : CallOk Tryd.prog (Glob globsG) 76 ref04IPlusE :=
  fun_ok (cx := ref04IPlusX) ref04IPlusC (fn := Tryd.f76) Tryd.func76 (by kernel_rfl) Tryd.ntmps76 Tryd.call76 _ _ _ (by kernel_rfl) (by kernel_rfl)
    (fun w0 hG => lall_of lall_nil (by kernel_rfl : loopsOf (bodyOf Tryd.f76) = _)) (fun p => Eq.trans (b := ref04IPlusB p.1 p.2.1 p.2.2) (by kernel_rfl) (ref04IPlus_eq p.1 p.2.1 p.2.2).symm)

noncomputable def ref04AddX : Cx := mkCx Tryd.prog 18 globsG [(70, ref04IGoodE), (76, ref04IPlusE)] [] []
theorem ref04AddC : CxOk ref04AddX (Glob globsG) := cx_ok (by kernel_rfl) (by kernel_rfl) ⟨ref04IGoodK, ref04IPlusK, trivial⟩
theorem ref04AddK : CallOk Tryd.prog (Glob globsG) 28 ref04AddE :=
  fun_ok (cx := ref04AddX) ref04AddC (fn := Tryd.f28) Tryd.func28 (by kernel_rfl) Tryd.ntmps28 Tryd.call28 _ _ _ (by kernel_rfl) (by kernel_rfl)
    (fun w0 hG => lall_of lall_nil (by kernel_rfl : loopsOf (bodyOf Tryd.f28) = _)) (fun p => Eq.trans (b := ref04AddB p.1 p.2.1 p.2.2) (by kernel_rfl) (ref04Add_eq p.1 p.2.1 p.2.2).symm)

noncomputable def fieldModulusOneX : Cx := mkCx Tryd.prog 9 globsG [(72, fieldModulusFoldE)] [] []
theorem fieldModulusOneC : CxOk fieldModulusOneX (Glob globsG) := cx_ok (by kernel_rfl) (by kernel_rfl) ⟨fieldModulusFoldK, trivial⟩
theorem fieldModulusOneK : CallOk Tryd.prog (Glob globsG) 85 fieldModulusOneE :=
  fun_ok (cx := fieldModulusOneX) fieldModulusOneC (fn := Tryd.f85) Tryd.func85 (by kernel_rfl) Tryd.ntmps85 Tryd.call85 _ _ _ (by kernel_rfl) (by kernel_rfl)
    (fun w0 hG => lall_of lall_nil (by kernel_rfl : loopsOf (bodyOf Tryd.f85) = _)) (fun p => Eq.trans (b := fieldModulusOneB p.1 p.2) (by kernel_rfl) (fieldModulusOne_eq p.1 p.2).symm)

noncomputable def fieldModulusNegX : Cx := mkCx Tryd.prog 19 globsG [(61, u256SubE), (85, fieldModulusOneE)] [] []
theorem fieldModulusNegC : CxOk fieldModulusNegX (Glob globsG) := cx_ok (by kernel_rfl) (by kernel_rfl) ⟨u256SubK, fieldModulusOneK, trivial⟩
theorem fieldModulusNegK : CallOk Tryd.prog (Glob globsG) 77 fieldModulusNegE :=
  fun_ok (cx := fieldModulusNegX) fieldModulusNegC (fn := Tryd.f77) Tryd.func77 (by kernel_rfl) Tryd.ntmps77 Tryd.call77 _ _ _ (by kernel_rfl) (by kernel_rfl)
    (fun w0 hG => lall_of lall_nil (by kernel_rfl : loopsOf (bodyOf Tryd.f77) = _)) (fun p => Eq.trans (b := fieldModulusNegB p.1 p.2) (by kernel_rfl) (fieldModulusNeg_eq p.1 p.2).symm)

noncomputable def fieldSubX : Cx := mkCx Tryd.prog 25 globsG [(68, fieldIOfE), (75, fieldModulusAddE), (77, fieldModulusNegE)] [] []
theorem fieldSubC : CxOk fieldSubX (Glob globsG) := cx_ok (by kernel_rfl) (by kernel_rfl) ⟨fieldIOfK, fieldModulusAddK, fieldModulusNegK, trivial⟩
theorem fieldSubK : CallOk Tryd.prog (Glob globsG) 29 fieldSubE :=
  fun_ok (cx := fieldSubX) fieldSubC (fn := Tryd.f29) Tryd.func29 (by kernel_rfl) Tryd.ntmps29 Tryd.call29 _ _ _ (by kernel_rfl) (by kernel_rfl)
    (fun w0 hG => lall_of lall_nil (by kernel_rfl : loopsOf (bodyOf Tryd.f29) = _)) (fun p => Eq.trans (b := fieldSubB p.1 p.2.1 p.2.2) (by kernel_rfl) (fieldSub_eq p.1 p.2.1 p.2.2).symm)

noncomputable def ref04IBelowX : Cx := mkCx Tryd.prog 9 globsG [(73, ref04IFoldE)] [] []
theorem ref04IBelowC : CxOk ref04IBelowX (Glob globsG) := cx_ok (by kernel_rfl) (by kernel_rfl) ⟨ref04IFoldK, trivial⟩
theorem ref04IBelowK : CallOk Tryd.prog (Glob globsG) 87 ref04IBelowE :=
  fun_ok (cx := ref04IBelowX) ref04IBelowC (fn := Tryd.f87) Tryd.func87 (by kernel_rfl) Tryd.ntmps87 Tryd.call87 _ _ _ (by kernel_rfl) (by kernel_rfl)
    (fun w0 hG => lall_of lall_nil (by kernel_rfl : loopsOf (bodyOf Tryd.f87) = _)) (fun p => Eq.trans (b := ref04IBelowB p.1 p.2) (by kernel_rfl) (ref04IBelow_eq p.1 p.2).symm)

noncomputable def ref04ILessX : Cx := mkCx Tryd.prog 19 globsG [(74, ref04IModulusE), (87, ref04IBelowE), (88, ref01SubE)] [] []
theorem ref04ILessC : CxOk ref04ILessX (Glob globsG) := cx_ok (by kernel_rfl) (by kernel_rfl) ⟨ref04IModulusK, ref04IBelowK, ref01SubK, trivial⟩
theorem ref04ILessK : CallOk Tryd.prog (Glob globsG) 78 ref04ILessE :=
  fun_ok (cx := ref04ILessX) ref04ILessC (fn := Tryd.f78) Tryd.func78 (by kernel_rfl) Tryd.ntmps78 Tryd.call78 _ _ _ (by kernel_rfl) (by kernel_rfl)
    (fun w0 hG => lall_of lall_nil (by kernel_rfl : loopsOf (bodyOf Tryd.f78) = _)) (fun p => Eq.trans (b := ref04ILessB p.1 p.2) (by kernel_rfl) (ref04ILess_eq p.1 p.2).symm)

noncomputable def ref04SubX : Cx := mkCx Tryd.prog 20 globsG [(70, ref04IGoodE), (76, ref04IPlusE), (78, ref04ILessE)] [] []
theorem ref04SubC : CxOk ref04SubX (Glob globsG) := cx_ok (by kernel_rfl) (by kernel_rfl) ⟨ref04IGoodK, ref04IPlusK, ref04ILessK, trivial⟩
theorem ref04SubK : CallOk Tryd.prog (Glob globsG) 30 ref04SubE :=
  fun_ok (cx := ref04SubX) ref04SubC (fn := Tryd.f30) Tryd.func30 (by kernel_rfl) Tryd.ntmps30 Tryd.call30 _ _ _ (by kernel_rfl) (by kernel_rfl)
    (fun w0 hG => lall_of lall_nil (by kernel_rfl : loopsOf (bodyOf Tryd.f30) = _)) (fun p => Eq.trans (b := ref04SubB p.1 p.2.1 p.2.2) (by kernel_rfl) (ref04Sub_eq p.1 p.2.1 p.2.2).symm)

noncomputable def fieldNegX : Cx := mkCx Tryd.prog 20 globsG [(68, fieldIOfE), (77, fieldModulusNegE)] [] []
theorem fieldNegC : CxOk fieldNegX (Glob globsG) := cx_ok (by kernel_rfl) (by kernel_rfl) ⟨fieldIOfK, fieldModulusNegK, trivial⟩
theorem fieldNegK : CallOk Tryd.prog (Glob globsG) 31 fieldNegE :=
  fun_ok (cx := fieldNegX) fieldNegC (fn := Tryd.f31) Tryd.func31 (by kernel_rfl) Tryd.ntmps31 Tryd.call31 _ _ _ (by kernel_rfl) (by kernel_rfl)
    (fun w0 hG => lall_of lall_nil (by kernel_rfl : loopsOf (bodyOf Tryd.f31) = _)) (fun p => Eq.trans (b := fieldNegB p.1 p.2) (by kernel_rfl) (fieldNeg_eq p.1 p.2).symm)

noncomputable def ref04NegX : Cx := mkCx Tryd.prog 15 globsG [(70, ref04IGoodE), (78, ref04ILessE)] [] []
theorem ref04NegC : CxOk ref04NegX (Glob globsG) := cx_ok (by kernel_rfl) (by kernel_rfl) ⟨ref04IGoodK, ref04ILessK, trivial⟩
theorem ref04NegK : CallOk Tryd.prog (Glob globsG) 32 ref04NegE :=
  fun_ok (cx := ref04NegX) ref04NegC (fn := Tryd.f32) Tryd.func32 (by kernel_rfl) Tryd.ntmps32 Tryd.call32 _ _ _ (by kernel_rfl) (by kernel_rfl)
    (fun w0 hG => lall_of lall_nil (by kernel_rfl : loopsOf (bodyOf Tryd.f32) = _)) (fun p => Eq.trans (b := ref04NegB p.1 p.2) (by kernel_rfl) (ref04Neg_eq p.1 p.2).symm)

noncomputable def law04FieldSumsX : Cx := mkCx Tryd.prog 97 globsG [(20, law04INumE), (25, fieldModulusE), (26, ref04ModulusE), (27, fieldAddE), (28, ref04AddE), (29, fieldSubE), (30, ref04SubE), (31, fieldNegE), (32, ref04NegE)] [] []
theorem law04FieldSumsC : CxOk law04FieldSumsX (Glob globsG) := cx_ok (by kernel_rfl) (by kernel_rfl) ⟨law04INumK, fieldModulusK, ref04ModulusK, fieldAddK, ref04AddK, fieldSubK, ref04SubK, fieldNegK, ref04NegK, trivial⟩
theorem law04FieldSumsK : CallOk Tryd.prog (Glob globsG) 5 law04FieldSumsE :=
  fun_ok (cx := law04FieldSumsX) law04FieldSumsC (fn := Tryd.f5) Tryd.func5 (by kernel_rfl) Tryd.ntmps5 Tryd.call5 _ _ _ (by kernel_rfl) (by kernel_rfl)
    (fun w0 hG => lall_of lall_nil (by kernel_rfl : loopsOf (bodyOf Tryd.f5) = _)) (fun p => Eq.trans (b := law04FieldSumsB p.1 p.2.1 p.2.2) (by kernel_rfl) (law04FieldSums_eq p.1 p.2.1 p.2.2).symm)

end Go.Sy
