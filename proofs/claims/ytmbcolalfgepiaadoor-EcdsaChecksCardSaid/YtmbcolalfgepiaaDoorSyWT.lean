/- The links: each typed function is what the code computes. Printed by a program. -/
import Derived.Test.YtmbcolalfgepiaaDoorSyVT
import Derived.Test.YtmbcolalfgepiaaDoorProg
set_option linter.unusedVariables false
set_option maxRecDepth 100000
namespace Go.Sy
open Go Go.Proofs

def globsG : List (Nat × AV) := [(0, .arr .u2 2 fieldModuli)]

theorem bitsSub64K : CallOk Tryd.prog (Glob globsG) 95 bitsSub64E := bitsSub64_ok (fn := Tryd.f95) Tryd.func95 (by kernel_rfl) (by kernel_rfl) (by kernel_rfl) (by kernel_rfl)
noncomputable def fieldIOfX : Cx := mkCx Tryd.prog 14 globsG [] [] []
theorem fieldIOfC : CxOk fieldIOfX (Glob globsG) := cx_ok (by kernel_rfl) (by kernel_rfl) trivial
theorem fieldIOfK : CallOk Tryd.prog (Glob globsG) 68 fieldIOfE :=
  fun_ok (cx := fieldIOfX) fieldIOfC (fn := Tryd.f68) Tryd.func68 (by kernel_rfl) Tryd.ntmps68 Tryd.call68 _ _ _ (by kernel_rfl) (by kernel_rfl)
    (fun w0 hG => lall_of lall_nil (by kernel_rfl : loopsOf (bodyOf Tryd.f68) = _)) (fun p => Eq.trans (b := fieldIOfB p) (by kernel_rfl) (fieldIOf_eq p).symm)

noncomputable def fieldModulusX : Cx := mkCx Tryd.prog 14 globsG [(68, fieldIOfE)] [] []
theorem fieldModulusC : CxOk fieldModulusX (Glob globsG) := cx_ok (by kernel_rfl) (by kernel_rfl) ⟨fieldIOfK, trivial⟩
theorem fieldModulusK : CallOk Tryd.prog (Glob globsG) 25 fieldModulusE :=
  fun_ok (cx := fieldModulusX) fieldModulusC (fn := Tryd.f25) Tryd.func25 (by kernel_rfl) Tryd.ntmps25 Tryd.call25 _ _ _ (by kernel_rfl) (by kernel_rfl)
    (fun w0 hG => lall_of lall_nil (by kernel_rfl : loopsOf (bodyOf Tryd.f25) = _)) (fun p => Eq.trans (b := fieldModulusB p) (by kernel_rfl) (fieldModulus_eq p).symm)

noncomputable def ecdsaIOrderX : Cx := mkCx Tryd.prog 8 globsG [(25, fieldModulusE)] [] []
theorem ecdsaIOrderC : CxOk ecdsaIOrderX (Glob globsG) := cx_ok (by kernel_rfl) (by kernel_rfl) ⟨fieldModulusK, trivial⟩
theorem ecdsaIOrderK : CallOk Tryd.prog (Glob globsG) 97 ecdsaIOrderE :=
  fun_ok (cx := ecdsaIOrderX) ecdsaIOrderC (fn := Tryd.f97) Tryd.func97 (by kernel_rfl) Tryd.ntmps97 Tryd.call97 _ _ _ (by kernel_rfl) (by kernel_rfl)
    (fun w0 hG => lall_of lall_nil (by kernel_rfl : loopsOf (bodyOf Tryd.f97) = _)) (fun p => Eq.trans (b := ecdsaIOrderB ) (by kernel_rfl) (ecdsaIOrder_eq ).symm)

noncomputable def u256SubX : Cx := mkCx Tryd.prog 28 globsG [(95, bitsSub64E)] [] []
theorem u256SubC : CxOk u256SubX (Glob globsG) := cx_ok (by kernel_rfl) (by kernel_rfl) ⟨bitsSub64K, trivial⟩
theorem u256SubK : CallOk Tryd.prog (Glob globsG) 61 u256SubE :=
  fun_ok (cx := u256SubX) u256SubC (fn := Tryd.f61) Tryd.func61 (by kernel_rfl) Tryd.ntmps61 Tryd.call61 _ _ _ (by kernel_rfl) (by kernel_rfl)
    (fun w0 hG => lall_of (lall_free (b := loopAt Tryd.f61 0) (by kernel_rfl) (lall_nil)) (by kernel_rfl : loopsOf (bodyOf Tryd.f61) = _)) (fun p => Eq.trans (b := u256SubB p.1 p.2) (by kernel_rfl) (u256Sub_eq p.1 p.2).symm)

noncomputable def u256CmpX : Cx := mkCx Tryd.prog 18 globsG [(61, u256SubE)] [] []
theorem u256CmpC : CxOk u256CmpX (Glob globsG) := cx_ok (by kernel_rfl) (by kernel_rfl) ⟨u256SubK, trivial⟩
theorem u256CmpK : CallOk Tryd.prog (Glob globsG) 44 u256CmpE :=
  fun_ok (cx := u256CmpX) u256CmpC (fn := Tryd.f44) Tryd.func44 (by kernel_rfl) Tryd.ntmps44 Tryd.call44 _ _ _ (by kernel_rfl) (by kernel_rfl)
    (fun w0 hG => lall_of lall_nil (by kernel_rfl : loopsOf (bodyOf Tryd.f44) = _)) (fun p => Eq.trans (b := u256CmpB p.1 p.2) (by kernel_rfl) (u256Cmp_eq p.1 p.2).symm)

noncomputable def ecdsaIFitX : Cx := mkCx Tryd.prog 12 globsG [(44, u256CmpE), (97, ecdsaIOrderE)] [] []
theorem ecdsaIFitC : CxOk ecdsaIFitX (Glob globsG) := cx_ok (by kernel_rfl) (by kernel_rfl) ⟨u256CmpK, ecdsaIOrderK, trivial⟩
theorem ecdsaIFitK : CallOk Tryd.prog (Glob globsG) 64 ecdsaIFitE :=
  fun_ok (cx := ecdsaIFitX) ecdsaIFitC (fn := Tryd.f64) Tryd.func64 (by kernel_rfl) Tryd.ntmps64 Tryd.call64 _ _ _ (by kernel_rfl) (by kernel_rfl)
    (fun w0 hG => lall_of lall_nil (by kernel_rfl : loopsOf (bodyOf Tryd.f64) = _)) (fun p => Eq.trans (b := ecdsaIFitB p) (by kernel_rfl) (ecdsaIFit_eq p).symm)

def u256ShlL0Y : Lay := ⟨[(false, 2, .ptr 2 []), (false, 4, .ptr 4 []), (false, 5, .ptr 5 [])], [(false, 1, .int .i64), (false, 6, .int .i64), (true, 2, .u256), (true, 4, .u256), (true, 5, .u256)]⟩
def u256ShlL0Z : List (Ex × Lay) := [(.exit 0, ⟨[(false, 4, .ptr 4 []), (false, 5, .ptr 5 [])], [(true, 4, .u256), (true, 5, .u256)]⟩)]
noncomputable def u256ShlL0E : LEntry := mkL u256ShlL0Y u256ShlL0Z fun p => u256ShlL0 p.1 p.2.1 p.2.2.1 p.2.2.2.1 p.2.2.2.2
noncomputable def u256ShlX : Cx := mkCx Tryd.prog 63 globsG [] [(7, u256ShlL0E)] []
theorem u256ShlC : CxOk u256ShlX (Glob globsG) := cx_ok (by kernel_rfl) (by kernel_rfl) trivial
theorem u256ShlL0K (w0 : World) (hG : Glob globsG w0) : LoopOk u256ShlX w0 (loopAt Tryd.f96 0) u256ShlL0E :=
  loop_okH u256ShlC hG (loopAt Tryd.f96 0) (lall_of lall_nil (by kernel_rfl : loopsOf (loopAt Tryd.f96 0) = _))
    u256ShlL0Y u256ShlL0Z (by kernel_rfl) (fun p => u256ShlL0R p.1 p.2.1 p.2.2.1 p.2.2.2.1 p.2.2.2.2) (fun p => 1000) (fun p => by kernel_rfl) _ (fun p => u256ShlL0_eq p.1 p.2.1 p.2.2.1 p.2.2.2.1 p.2.2.2.2)
theorem u256ShlK : CallOk Tryd.prog (Glob globsG) 96 u256ShlE :=
  fun_ok (cx := u256ShlX) u256ShlC (fn := Tryd.f96) Tryd.func96 (by kernel_rfl) Tryd.ntmps96 Tryd.call96 _ _ _ (by kernel_rfl) (by kernel_rfl)
    (fun w0 hG => lall_of (lall_cut (b := loopAt Tryd.f96 0) (u256ShlL0K w0 hG) (by kernel_rfl) (lall_nil)) (by kernel_rfl : loopsOf (bodyOf Tryd.f96) = _)) (fun p => Eq.trans (b := u256ShlB p.1 p.2) (by kernel_rfl) (u256Shl_eq p.1 p.2).symm)

def u256ShrL0Y : Lay := ⟨[(false, 2, .ptr 2 []), (false, 4, .ptr 4 []), (false, 5, .ptr 5 [])], [(false, 1, .int .i64), (false, 6, .int .i64), (true, 2, .u256), (true, 4, .u256), (true, 5, .u256)]⟩
def u256ShrL0Z : List (Ex × Lay) := [(.exit 0, ⟨[(false, 4, .ptr 4 []), (false, 5, .ptr 5 [])], [(true, 4, .u256), (true, 5, .u256)]⟩)]
noncomputable def u256ShrL0E : LEntry := mkL u256ShrL0Y u256ShrL0Z fun p => u256ShrL0 p.1 p.2.1 p.2.2.1 p.2.2.2.1 p.2.2.2.2
noncomputable def u256ShrX : Cx := mkCx Tryd.prog 65 globsG [(96, u256ShlE)] [(7, u256ShrL0E)] []
theorem u256ShrC : CxOk u256ShrX (Glob globsG) := cx_ok (by kernel_rfl) (by kernel_rfl) ⟨u256ShlK, trivial⟩
theorem u256ShrL0K (w0 : World) (hG : Glob globsG w0) : LoopOk u256ShrX w0 (loopAt Tryd.f62 0) u256ShrL0E :=
  loop_okH u256ShrC hG (loopAt Tryd.f62 0) (lall_of lall_nil (by kernel_rfl : loopsOf (loopAt Tryd.f62 0) = _))
    u256ShrL0Y u256ShrL0Z (by kernel_rfl) (fun p => u256ShrL0R p.1 p.2.1 p.2.2.1 p.2.2.2.1 p.2.2.2.2) (fun p => 1000) (fun p => by kernel_rfl) _ (fun p => u256ShrL0_eq p.1 p.2.1 p.2.2.1 p.2.2.2.1 p.2.2.2.2)
theorem u256ShrK : CallOk Tryd.prog (Glob globsG) 62 u256ShrE :=
  fun_ok (cx := u256ShrX) u256ShrC (fn := Tryd.f62) Tryd.func62 (by kernel_rfl) Tryd.ntmps62 Tryd.call62 _ _ _ (by kernel_rfl) (by kernel_rfl)
    (fun w0 hG => lall_of (lall_cut (b := loopAt Tryd.f62 0) (u256ShrL0K w0 hG) (by kernel_rfl) (lall_nil)) (by kernel_rfl : loopsOf (bodyOf Tryd.f62) = _)) (fun p => Eq.trans (b := u256ShrB p.1 p.2) (by kernel_rfl) (u256Shr_eq p.1 p.2).symm)

noncomputable def ecdsaILowX : Cx := mkCx Tryd.prog 8 globsG [(44, u256CmpE), (62, u256ShrE), (97, ecdsaIOrderE)] [] []
theorem ecdsaILowC : CxOk ecdsaILowX (Glob globsG) := cx_ok (by kernel_rfl) (by kernel_rfl) ⟨u256CmpK, u256ShrK, ecdsaIOrderK, trivial⟩
theorem ecdsaILowK : CallOk Tryd.prog (Glob globsG) 65 ecdsaILowE :=
  fun_ok (cx := ecdsaILowX) ecdsaILowC (fn := Tryd.f65) Tryd.func65 (by kernel_rfl) Tryd.ntmps65 Tryd.call65 _ _ _ (by kernel_rfl) (by kernel_rfl)
    (fun w0 hG => lall_of lall_nil (by kernel_rfl : loopsOf (bodyOf Tryd.f65) = _)) (fun p => Eq.trans (b := ecdsaILowB p) (by kernel_rfl) (ecdsaILow_eq p).symm)

noncomputable def ecdsaCheckX : Cx := mkCx Tryd.prog 18 globsG [(64, ecdsaIFitE), (65, ecdsaILowE)] [] []
theorem ecdsaCheckC : CxOk ecdsaCheckX (Glob globsG) := cx_ok (by kernel_rfl) (by kernel_rfl) ⟨ecdsaIFitK, ecdsaILowK, trivial⟩
theorem ecdsaCheckK : CallOk Tryd.prog (Glob globsG) 16 ecdsaCheckE :=
  fun_ok (cx := ecdsaCheckX) ecdsaCheckC (fn := Tryd.f16) Tryd.func16 (by kernel_rfl) Tryd.ntmps16 Tryd.call16 _ _ _ (by kernel_rfl) (by kernel_rfl)
    (fun w0 hG => lall_of lall_nil (by kernel_rfl : loopsOf (bodyOf Tryd.f16) = _)) (fun p => Eq.trans (b := ecdsaCheckB p) (by kernel_rfl) (ecdsaCheck_eq p).symm)

noncomputable def law06INumX : Cx := mkCx Tryd.prog 4 globsG [] [] []
theorem law06INumC : CxOk law06INumX (Glob globsG) := cx_ok (by kernel_rfl) (by kernel_rfl) trivial
theorem law06INumK : CallOk Tryd.prog (Glob globsG) 15 law06INumE :=
  fun_ok (cx := law06INumX) law06INumC (fn := Tryd.f15) Tryd.func15 (by kernel_rfl) Tryd.ntmps15 Tryd.call15 _ _ _ (by kernel_rfl) (by kernel_rfl)
    (fun w0 hG => lall_of lall_nil (by kernel_rfl : loopsOf (bodyOf Tryd.f15) = _)) (fun p => Eq.trans (b := law06INumB p) (by kernel_rfl) (law06INum_eq p).symm)

noncomputable def ref04IGoodX : Cx := mkCx Tryd.prog 9 globsG [] [] []
theorem ref04IGoodC : CxOk ref04IGoodX (Glob globsG) := cx_ok (by kernel_rfl) (by kernel_rfl) trivial
theorem ref04IGoodK : CallOk Tryd.prog (Glob globsG) 70 ref04IGoodE :=
  fun_ok (cx := ref04IGoodX) ref04IGoodC (fn := Tryd.f70) Tryd.func70 (by kernel_rfl) Tryd.ntmps70 Tryd.call70 _ _ _ (by kernel_rfl) (by kernel_rfl)
    (fun w0 hG => lall_of lall_nil (by kernel_rfl : loopsOf (bodyOf Tryd.f70) = _)) (fun p => Eq.trans (b := ref04IGoodB p) (by kernel_rfl) (ref04IGood_eq p).symm)

noncomputable def ref04IModulusX : Cx := mkCx Tryd.prog 7 globsG [] [] []
theorem ref04IModulusC : CxOk ref04IModulusX (Glob globsG) := cx_ok (by kernel_rfl) (by kernel_rfl) trivial
theorem ref04IModulusK : CallOk Tryd.prog (Glob globsG) 74 ref04IModulusE :=
  fun_ok (cx := ref04IModulusX) ref04IModulusC (fn := Tryd.f74) Tryd.func74 (by kernel_rfl) Tryd.ntmps74 Tryd.call74 _ _ _ (by kernel_rfl) (by kernel_rfl)
    (fun w0 hG => lall_of lall_nil (by kernel_rfl : loopsOf (bodyOf Tryd.f74) = _)) (fun p => Eq.trans (b := ref04IModulusB p) (by kernel_rfl) (ref04IModulus_eq p).symm)

noncomputable def ref04ModulusX : Cx := mkCx Tryd.prog 12 globsG [(70, ref04IGoodE), (74, ref04IModulusE)] [] []
theorem ref04ModulusC : CxOk ref04ModulusX (Glob globsG) := cx_ok (by kernel_rfl) (by kernel_rfl) ⟨ref04IGoodK, ref04IModulusK, trivial⟩
theorem ref04ModulusK : CallOk Tryd.prog (Glob globsG) 26 ref04ModulusE :=
  fun_ok (cx := ref04ModulusX) ref04ModulusC (fn := Tryd.f26) Tryd.func26 (by kernel_rfl) Tryd.ntmps26 Tryd.call26 _ _ _ (by kernel_rfl) (by kernel_rfl)
    (fun w0 hG => lall_of lall_nil (by kernel_rfl : loopsOf (bodyOf Tryd.f26) = _)) (fun p => Eq.trans (b := ref04ModulusB p) (by kernel_rfl) (ref04Modulus_eq p).symm)

noncomputable def ref06IOrderX : Cx := mkCx Tryd.prog 8 globsG [(26, ref04ModulusE)] [] []
theorem ref06IOrderC : CxOk ref06IOrderX (Glob globsG) := cx_ok (by kernel_rfl) (by kernel_rfl) ⟨ref04ModulusK, trivial⟩
theorem ref06IOrderK : CallOk Tryd.prog (Glob globsG) 99 ref06IOrderE :=
  fun_ok (cx := ref06IOrderX) ref06IOrderC (fn := Tryd.f99) Tryd.func99 (by kernel_rfl) Tryd.ntmps99 Tryd.call99 _ _ _ (by kernel_rfl) (by kernel_rfl)
    (fun w0 hG => lall_of lall_nil (by kernel_rfl : loopsOf (bodyOf Tryd.f99) = _)) (fun p => Eq.trans (b := ref06IOrderB ) (by kernel_rfl) (ref06IOrder_eq ).symm)

def ref01CmpL0Y : Lay := ⟨[(false, 2, .ptr 2 []), (false, 3, .ptr 3 [])], [(false, 5, .int .i64), (true, 2, .u256), (true, 3, .u256)]⟩
def ref01CmpL0Z : List (Ex × Lay) := [(.ret, ⟨[], [(false, 4, .int .i64)]⟩), (.exit 0, ⟨[], []⟩)]
noncomputable def ref01CmpL0E : LEntry := mkL ref01CmpL0Y ref01CmpL0Z fun p => ref01CmpL0 p.1 p.2.1 p.2.2
noncomputable def ref01CmpX : Cx := mkCx Tryd.prog 24 globsG [] [(2, ref01CmpL0E)] []
theorem ref01CmpC : CxOk ref01CmpX (Glob globsG) := cx_ok (by kernel_rfl) (by kernel_rfl) trivial
theorem ref01CmpL0K (w0 : World) (hG : Glob globsG w0) : LoopOk ref01CmpX w0 (loopAt Tryd.f98 0) ref01CmpL0E :=
  loop_okH ref01CmpC hG (loopAt Tryd.f98 0) (lall_of lall_nil (by kernel_rfl : loopsOf (loopAt Tryd.f98 0) = _))
    ref01CmpL0Y ref01CmpL0Z (by kernel_rfl) (fun p => ref01CmpL0R p.1 p.2.1 p.2.2) (fun p => 1000) (fun p => by kernel_rfl) _ (fun p => ref01CmpL0_eq p.1 p.2.1 p.2.2)
theorem ref01CmpK : CallOk Tryd.prog (Glob globsG) 98 ref01CmpE :=
  fun_ok (cx := ref01CmpX) ref01CmpC (fn := Tryd.f98) Tryd.func98 (by kernel_rfl) Tryd.ntmps98 Tryd.call98 _ _ _ (by kernel_rfl) (by kernel_rfl)
    (fun w0 hG => lall_of (lall_cut (b := loopAt Tryd.f98 0) (ref01CmpL0K w0 hG) (by kernel_rfl) (lall_nil)) (by kernel_rfl : loopsOf (bodyOf Tryd.f98) = _)) (fun p => Eq.trans (b := ref01CmpB p.1 p.2) (by kernel_rfl) (ref01Cmp_eq p.1 p.2).symm)

noncomputable def ref06FitX : Cx := mkCx Tryd.prog 12 globsG [(98, ref01CmpE), (99, ref06IOrderE)] [] []
theorem ref06FitC : CxOk ref06FitX (Glob globsG) := cx_ok (by kernel_rfl) (by kernel_rfl) ⟨ref01CmpK, ref06IOrderK, trivial⟩
theorem ref06FitK : CallOk Tryd.prog (Glob globsG) 66 ref06FitE :=
  fun_ok (cx := ref06FitX) ref06FitC (fn := Tryd.f66) Tryd.func66 (by kernel_rfl) Tryd.ntmps66 Tryd.call66 _ _ _ (by kernel_rfl) (by kernel_rfl)
    (fun w0 hG => lall_of lall_nil (by kernel_rfl : loopsOf (bodyOf Tryd.f66) = _)) (fun p => Eq.trans (b := ref06FitB p) (by kernel_rfl) (ref06Fit_eq p).symm)

noncomputable def ref01BitX : Cx := mkCx Tryd.prog 21 globsG [] [] []
theorem ref01BitC : CxOk ref01BitX (Glob globsG) := cx_ok (by kernel_rfl) (by kernel_rfl) trivial
theorem ref01BitK : CallOk Tryd.prog (Glob globsG) 103 ref01BitE :=
  fun_ok (cx := ref01BitX) ref01BitC (fn := Tryd.f103) Tryd.func103 (by kernel_rfl) Tryd.ntmps103 Tryd.call103 _ _ _ (by kernel_rfl) (by kernel_rfl)
    (fun w0 hG => lall_of lall_nil (by kernel_rfl : loopsOf (bodyOf Tryd.f103) = _)) (fun p => Eq.trans (b := ref01BitB p.1 p.2) (by kernel_rfl) (ref01Bit_eq p.1 p.2).symm)

noncomputable def ref01IWithX : Cx := mkCx Tryd.prog 18 globsG [] [] []
theorem ref01IWithC : CxOk ref01IWithX (Glob globsG) := cx_ok (by kernel_rfl) (by kernel_rfl) trivial
theorem ref01IWithK : CallOk Tryd.prog (Glob globsG) 110 ref01IWithE :=
  fun_ok (cx := ref01IWithX) ref01IWithC (fn := Tryd.f110) Tryd.func110 (by kernel_rfl) Tryd.ntmps110 Tryd.call110 _ _ _ (by kernel_rfl) (by kernel_rfl)
    (fun w0 hG => lall_of lall_nil (by kernel_rfl : loopsOf (bodyOf Tryd.f110) = _)) (fun p => Eq.trans (b := ref01IWithB p.1 p.2) (by kernel_rfl) (ref01IWith_eq p.1 p.2).symm)

def ref01ShlL0Y : Lay := ⟨[(false, 2, .ptr 2 []), (false, 4, .ptr 4 []), (false, 5, .ptr 5 [])], [(false, 1, .int .i64), (false, 6, .int .i64), (true, 2, .u256), (true, 4, .u256), (true, 5, .u256)]⟩
def ref01ShlL0Z : List (Ex × Lay) := [(.exit 0, ⟨[(false, 4, .ptr 4 []), (false, 5, .ptr 5 [])], [(true, 4, .u256), (true, 5, .u256)]⟩)]
noncomputable def ref01ShlL0E : LEntry := mkL ref01ShlL0Y ref01ShlL0Z fun p => ref01ShlL0 p.1 p.2.1 p.2.2.1 p.2.2.2.1 p.2.2.2.2
noncomputable def ref01ShlX : Cx := mkCx Tryd.prog 28 globsG [(103, ref01BitE), (110, ref01IWithE)] [(5, ref01ShlL0E)] []
theorem ref01ShlC : CxOk ref01ShlX (Glob globsG) := cx_ok (by kernel_rfl) (by kernel_rfl) ⟨ref01BitK, ref01IWithK, trivial⟩
theorem ref01ShlL0K (w0 : World) (hG : Glob globsG w0) : LoopOk ref01ShlX w0 (loopAt Tryd.f107 0) ref01ShlL0E :=
  loop_okH ref01ShlC hG (loopAt Tryd.f107 0) (lall_of lall_nil (by kernel_rfl : loopsOf (loopAt Tryd.f107 0) = _))
    ref01ShlL0Y ref01ShlL0Z (by kernel_rfl) (fun p => ref01ShlL0R p.1 p.2.1 p.2.2.1 p.2.2.2.1 p.2.2.2.2) (fun p => 1000) (fun p => by kernel_rfl) _ (fun p => ref01ShlL0_eq p.1 p.2.1 p.2.2.1 p.2.2.2.1 p.2.2.2.2)
theorem ref01ShlK : CallOk Tryd.prog (Glob globsG) 107 ref01ShlE :=
  fun_ok (cx := ref01ShlX) ref01ShlC (fn := Tryd.f107) Tryd.func107 (by kernel_rfl) Tryd.ntmps107 Tryd.call107 _ _ _ (by kernel_rfl) (by kernel_rfl)
    (fun w0 hG => lall_of (lall_cut (b := loopAt Tryd.f107 0) (ref01ShlL0K w0 hG) (by kernel_rfl) (lall_nil)) (by kernel_rfl : loopsOf (bodyOf Tryd.f107) = _)) (fun p => Eq.trans (b := ref01ShlB p.1 p.2) (by kernel_rfl) (ref01Shl_eq p.1 p.2).symm)

noncomputable def ref01ShrX : Cx := mkCx Tryd.prog 16 globsG [(107, ref01ShlE)] [] []
theorem ref01ShrC : CxOk ref01ShrX (Glob globsG) := cx_ok (by kernel_rfl) (by kernel_rfl) ⟨ref01ShlK, trivial⟩
theorem ref01ShrK : CallOk Tryd.prog (Glob globsG) 92 ref01ShrE :=
  fun_ok (cx := ref01ShrX) ref01ShrC (fn := Tryd.f92) Tryd.func92 (by kernel_rfl) Tryd.ntmps92 Tryd.call92 _ _ _ (by kernel_rfl) (by kernel_rfl)
    (fun w0 hG => lall_of lall_nil (by kernel_rfl : loopsOf (bodyOf Tryd.f92) = _)) (fun p => Eq.trans (b := ref01ShrB p.1 p.2) (by kernel_rfl) (ref01Shr_eq p.1 p.2).symm)

noncomputable def ref06LowX : Cx := mkCx Tryd.prog 10 globsG [(92, ref01ShrE), (98, ref01CmpE), (99, ref06IOrderE)] [] []
theorem ref06LowC : CxOk ref06LowX (Glob globsG) := cx_ok (by kernel_rfl) (by kernel_rfl) ⟨ref01ShrK, ref01CmpK, ref06IOrderK, trivial⟩
theorem ref06LowK : CallOk Tryd.prog (Glob globsG) 67 ref06LowE :=
  fun_ok (cx := ref06LowX) ref06LowC (fn := Tryd.f67) Tryd.func67 (by kernel_rfl) Tryd.ntmps67 Tryd.call67 _ _ _ (by kernel_rfl) (by kernel_rfl)
    (fun w0 hG => lall_of lall_nil (by kernel_rfl : loopsOf (bodyOf Tryd.f67) = _)) (fun p => Eq.trans (b := ref06LowB p) (by kernel_rfl) (ref06Low_eq p).symm)

noncomputable def ref06CheckX : Cx := mkCx Tryd.prog 21 globsG [(66, ref06FitE), (67, ref06LowE)] [] []
theorem ref06CheckC : CxOk ref06CheckX (Glob globsG) := cx_ok (by kernel_rfl) (by kernel_rfl) ⟨ref06FitK, ref06LowK, trivial⟩
theorem ref06CheckK : CallOk Tryd.prog (Glob globsG) 17 ref06CheckE :=
  fun_ok (cx := ref06CheckX) ref06CheckC (fn := Tryd.f17) Tryd.func17 (by kernel_rfl) Tryd.ntmps17 Tryd.call17 _ _ _ (by kernel_rfl) (by kernel_rfl)
    (fun w0 hG => lall_of lall_nil (by kernel_rfl : loopsOf (bodyOf Tryd.f17) = _)) (fun p => Eq.trans (b := ref06CheckB p) (by kernel_rfl) (ref06Check_eq p).symm)

noncomputable def law06EcdsaChecksX : Cx := mkCx Tryd.prog 9 globsG [(15, law06INumE), (16, ecdsaCheckE), (17, ref06CheckE)] [] []
theorem law06EcdsaChecksC : CxOk law06EcdsaChecksX (Glob globsG) := cx_ok (by kernel_rfl) (by kernel_rfl) ⟨law06INumK, ecdsaCheckK, ref06CheckK, trivial⟩
theorem law06EcdsaChecksK : CallOk Tryd.prog (Glob globsG) 3 law06EcdsaChecksE :=
  fun_ok (cx := law06EcdsaChecksX) law06EcdsaChecksC (fn := Tryd.f3) Tryd.func3 (by kernel_rfl) Tryd.ntmps3 Tryd.call3 _ _ _ (by kernel_rfl) (by kernel_rfl)
    (fun w0 hG => lall_of lall_nil (by kernel_rfl : loopsOf (bodyOf Tryd.f3) = _)) (fun p => Eq.trans (b := law06EcdsaChecksB p) (by kernel_rfl) (law06EcdsaChecks_eq p).symm)

end Go.Sy
