/- The links: each typed function is what the code computes. Printed by a program. -/
import Derived.Test.YtfappeeggccicaaDoorSyVT
import Derived.Test.YtfappeeggccicaaDoorSyKf
import Derived.Test.YtfappeeggccicaaDoorProg
set_option linter.unusedVariables false
set_option maxRecDepth 100000
noncomputable section
namespace Go.Sy
open Go Go.Proofs
def globsF : List (Nat × AV) := [(0, .arr .u2 2 fieldModuli)]
theorem bitsSub64K : CallOk Tryd.prog (Glob globsF) 117 bitsSub64E := bitsSub64_ok (fn := Tryd.f117) Tryd.func117 (by kernel_rfl) (by kernel_rfl) (by kernel_rfl) (by kernel_rfl)
def fieldIOfE : Entry := mkE [.int .i64] [.st [.u256, .u256], .int .i64] fun p => fieldIOf p
def fieldIOfX : Cx := mkCx Tryd.prog 14 globsF [] [] []
theorem fieldIOfC : CxOk fieldIOfX (Glob globsF) := cx_ok (by kernel_rfl) (by kernel_rfl) trivial
theorem fieldIOfK : CallOk Tryd.prog (Glob globsF) 47 fieldIOfE :=
 fun_ok (cx := fieldIOfX) fieldIOfC (fn := Tryd.f47) Tryd.func47 (by kernel_rfl) Tryd.ntmps47 Tryd.call47 _ _ _ (by kernel_rfl) (by kernel_rfl) (by kernel_rfl)
  (fun w0 hG => lall_of lall_nil (by kernel_rfl : loopsOf (bodyOf Tryd.f47) = _)) (fun p => Eq.trans (b := fieldIOfB p) (by kernel_rfl) (fieldIOf_eq p).symm)
def fieldModulusE : Entry := mkE [.int .i64] [.u256, .int .i64] fun p => fieldModulus p
def fieldModulusX : Cx := mkCx Tryd.prog 14 globsF [(47, fieldIOfE)] [] []
theorem fieldModulusC : CxOk fieldModulusX (Glob globsF) := cx_ok (by kernel_rfl) (by kernel_rfl) ⟨fieldIOfK, trivial⟩
theorem fieldModulusK : CallOk Tryd.prog (Glob globsF) 58 fieldModulusE :=
 fun_ok (cx := fieldModulusX) fieldModulusC (fn := Tryd.f58) Tryd.func58 (by kernel_rfl) Tryd.ntmps58 Tryd.call58 _ _ _ (by kernel_rfl) (by kernel_rfl) (by kernel_rfl)
  (fun w0 hG => lall_of lall_nil (by kernel_rfl : loopsOf (bodyOf Tryd.f58) = _)) (fun p => Eq.trans (b := fieldModulusB p) (by kernel_rfl) (fieldModulus_eq p).symm)
def u256SubE : Entry := mkE [.u256, .u256] [.u256, .int .u64] fun p => u256Sub p.1 p.2
def u256SubX : Cx := mkCx Tryd.prog 28 globsF [(117, bitsSub64E)] [] []
theorem u256SubC : CxOk u256SubX (Glob globsF) := cx_ok (by kernel_rfl) (by kernel_rfl) ⟨bitsSub64K, trivial⟩
theorem u256SubK : CallOk Tryd.prog (Glob globsF) 83 u256SubE :=
 fun_ok (cx := u256SubX) u256SubC (fn := Tryd.f83) Tryd.func83 (by kernel_rfl) Tryd.ntmps83 Tryd.call83 _ _ _ (by kernel_rfl) (by kernel_rfl) (by kernel_rfl)
  (fun w0 hG => lall_of (lall_free (b := loopAt Tryd.f83 0) (by kernel_rfl) (lall_nil)) (by kernel_rfl : loopsOf (bodyOf Tryd.f83) = _)) (fun p => Eq.trans (b := u256SubB p.1 p.2) (by kernel_rfl) (u256Sub_eq p.1 p.2).symm)
def u256CmpE : Entry := mkE [.u256, .u256] [.int .i64] fun p => u256Cmp p.1 p.2
def u256CmpX : Cx := mkCx Tryd.prog 18 globsF [(83, u256SubE)] [] []
theorem u256CmpC : CxOk u256CmpX (Glob globsF) := cx_ok (by kernel_rfl) (by kernel_rfl) ⟨u256SubK, trivial⟩
theorem u256CmpK : CallOk Tryd.prog (Glob globsF) 59 u256CmpE :=
 fun_ok (cx := u256CmpX) u256CmpC (fn := Tryd.f59) Tryd.func59 (by kernel_rfl) Tryd.ntmps59 Tryd.call59 _ _ _ (by kernel_rfl) (by kernel_rfl) (by kernel_rfl)
  (fun w0 hG => lall_of lall_nil (by kernel_rfl : loopsOf (bodyOf Tryd.f59) = _)) (fun p => Eq.trans (b := u256CmpB p.1 p.2) (by kernel_rfl) (u256Cmp_eq p.1 p.2).symm)
def u256ShlE : Entry := mkE [.u256, .int .i64] [.u256] fun p => u256Shl p.1 p.2
def u256ShlL0Y : Lay := ⟨[(false, 2, .ptr 1002 []), (false, 4, .ptr 1004 []), (false, 5, .ptr 1005 [])], [(false, 1, .int .i64), (false, 6, .int .i64), (true, 1002, .u256), (true, 1004, .u256), (true, 1005, .u256)], [⟨[(1002, 1002), (1004, 1004), (1005, 1005)], []⟩]⟩
def u256ShlL0Z : List (Ex × Lay) := [(.exit 0, ⟨[(false, 4, .ptr 1004 []), (false, 5, .ptr 1005 [])], [(true, 1004, .u256), (true, 1005, .u256)], [⟨[(1004, 1004), (1005, 1005)], []⟩]⟩)]
def u256ShlL0E : LEntry := mkL u256ShlL0Y u256ShlL0Z fun p => u256ShlL0 p.1 p.2.1 p.2.2.1 p.2.2.2.1 p.2.2.2.2
def u256ShlX : Cx := mkCx Tryd.prog 63 globsF [] [(7, u256ShlL0E)] []
theorem u256ShlC : CxOk u256ShlX (Glob globsF) := cx_ok (by kernel_rfl) (by kernel_rfl) trivial
theorem u256ShlL0K (w0 : Ini) (hG : Glob globsF w0) : LoopOk u256ShlX w0 (loopAt Tryd.f108 0) u256ShlL0E :=
 loop_okH u256ShlC hG (loopAt Tryd.f108 0) (lall_of lall_nil (by kernel_rfl : loopsOf (loopAt Tryd.f108 0) = _))
  u256ShlL0Y u256ShlL0Z (by kernel_rfl) (fun p => u256ShlL0R p.1 p.2.1 p.2.2.1 p.2.2.2.1 p.2.2.2.2) (fun p => 1000) (fun p => by kernel_rfl) _ (fun p => u256ShlL0_eq p.1 p.2.1 p.2.2.1 p.2.2.2.1 p.2.2.2.2)
theorem u256ShlK : CallOk Tryd.prog (Glob globsF) 108 u256ShlE :=
 fun_ok (cx := u256ShlX) u256ShlC (fn := Tryd.f108) Tryd.func108 (by kernel_rfl) Tryd.ntmps108 Tryd.call108 _ _ _ (by kernel_rfl) (by kernel_rfl) (by kernel_rfl)
  (fun w0 hG => lall_of (lall_cut (b := loopAt Tryd.f108 0) (u256ShlL0K w0 hG) (by kernel_rfl) (lall_nil)) (by kernel_rfl : loopsOf (bodyOf Tryd.f108) = _)) (fun p => Eq.trans (b := u256ShlB p.1 p.2) (by kernel_rfl) (u256Shl_eq p.1 p.2).symm)
def u256ShrE : Entry := mkE [.u256, .int .i64] [.u256] fun p => u256Shr p.1 p.2
def u256ShrL0Y : Lay := ⟨[(false, 2, .ptr 1002 []), (false, 4, .ptr 1004 []), (false, 5, .ptr 1005 [])], [(false, 1, .int .i64), (false, 6, .int .i64), (true, 1002, .u256), (true, 1004, .u256), (true, 1005, .u256)], [⟨[(1002, 1002), (1004, 1004), (1005, 1005)], []⟩]⟩
def u256ShrL0Z : List (Ex × Lay) := [(.exit 0, ⟨[(false, 4, .ptr 1004 []), (false, 5, .ptr 1005 [])], [(true, 1004, .u256), (true, 1005, .u256)], [⟨[(1004, 1004), (1005, 1005)], []⟩]⟩)]
def u256ShrL0E : LEntry := mkL u256ShrL0Y u256ShrL0Z fun p => u256ShrL0 p.1 p.2.1 p.2.2.1 p.2.2.2.1 p.2.2.2.2
def u256ShrX : Cx := mkCx Tryd.prog 65 globsF [(108, u256ShlE)] [(7, u256ShrL0E)] []
theorem u256ShrC : CxOk u256ShrX (Glob globsF) := cx_ok (by kernel_rfl) (by kernel_rfl) ⟨u256ShlK, trivial⟩
theorem u256ShrL0K (w0 : Ini) (hG : Glob globsF w0) : LoopOk u256ShrX w0 (loopAt Tryd.f72 0) u256ShrL0E :=
 loop_okH u256ShrC hG (loopAt Tryd.f72 0) (lall_of lall_nil (by kernel_rfl : loopsOf (loopAt Tryd.f72 0) = _))
  u256ShrL0Y u256ShrL0Z (by kernel_rfl) (fun p => u256ShrL0R p.1 p.2.1 p.2.2.1 p.2.2.2.1 p.2.2.2.2) (fun p => 1000) (fun p => by kernel_rfl) _ (fun p => u256ShrL0_eq p.1 p.2.1 p.2.2.1 p.2.2.2.1 p.2.2.2.2)
theorem u256ShrK : CallOk Tryd.prog (Glob globsF) 72 u256ShrE :=
 fun_ok (cx := u256ShrX) u256ShrC (fn := Tryd.f72) Tryd.func72 (by kernel_rfl) Tryd.ntmps72 Tryd.call72 _ _ _ (by kernel_rfl) (by kernel_rfl) (by kernel_rfl)
  (fun w0 hG => lall_of (lall_cut (b := loopAt Tryd.f72 0) (u256ShrL0K w0 hG) (by kernel_rfl) (lall_nil)) (by kernel_rfl : loopsOf (bodyOf Tryd.f72) = _)) (fun p => Eq.trans (b := u256ShrB p.1 p.2) (by kernel_rfl) (u256Shr_eq p.1 p.2).symm)
def ref04IGoodE : Entry := mkE [.int .i64] [.bool] fun p => ref04IGood p
def ref04IGoodX : Cx := mkCx Tryd.prog 9 globsF [] [] []
theorem ref04IGoodC : CxOk ref04IGoodX (Glob globsF) := cx_ok (by kernel_rfl) (by kernel_rfl) trivial
theorem ref04IGoodK : CallOk Tryd.prog (Glob globsF) 52 ref04IGoodE :=
 fun_ok (cx := ref04IGoodX) ref04IGoodC (fn := Tryd.f52) Tryd.func52 (by kernel_rfl) Tryd.ntmps52 Tryd.call52 _ _ _ (by kernel_rfl) (by kernel_rfl) (by kernel_rfl)
  (fun w0 hG => lall_of lall_nil (by kernel_rfl : loopsOf (bodyOf Tryd.f52) = _)) (fun p => Eq.trans (b := ref04IGoodB p) (by kernel_rfl) (ref04IGood_eq p).symm)
def ref04IModulusE : Entry := mkE [.int .i64] [.u256] fun p => ref04IModulus p
def ref04IModulusX : Cx := mkCx Tryd.prog 7 globsF [] [] []
theorem ref04IModulusC : CxOk ref04IModulusX (Glob globsF) := cx_ok (by kernel_rfl) (by kernel_rfl) trivial
theorem ref04IModulusK : CallOk Tryd.prog (Glob globsF) 87 ref04IModulusE :=
 fun_ok (cx := ref04IModulusX) ref04IModulusC (fn := Tryd.f87) Tryd.func87 (by kernel_rfl) Tryd.ntmps87 Tryd.call87 _ _ _ (by kernel_rfl) (by kernel_rfl) (by kernel_rfl)
  (fun w0 hG => lall_of lall_nil (by kernel_rfl : loopsOf (bodyOf Tryd.f87) = _)) (fun p => Eq.trans (b := ref04IModulusB p) (by kernel_rfl) (ref04IModulus_eq p).symm)
def ref04ModulusE : Entry := mkE [.int .i64] [.u256, .int .i64] fun p => ref04Modulus p
def ref04ModulusX : Cx := mkCx Tryd.prog 12 globsF [(52, ref04IGoodE), (87, ref04IModulusE)] [] []
theorem ref04ModulusC : CxOk ref04ModulusX (Glob globsF) := cx_ok (by kernel_rfl) (by kernel_rfl) ⟨ref04IGoodK, ref04IModulusK, trivial⟩
theorem ref04ModulusK : CallOk Tryd.prog (Glob globsF) 111 ref04ModulusE :=
 fun_ok (cx := ref04ModulusX) ref04ModulusC (fn := Tryd.f111) Tryd.func111 (by kernel_rfl) Tryd.ntmps111 Tryd.call111 _ _ _ (by kernel_rfl) (by kernel_rfl) (by kernel_rfl)
  (fun w0 hG => lall_of lall_nil (by kernel_rfl : loopsOf (bodyOf Tryd.f111) = _)) (fun p => Eq.trans (b := ref04ModulusB p) (by kernel_rfl) (ref04Modulus_eq p).symm)
def ref01CmpE : Entry := mkE [.u256, .u256] [.int .i64] fun p => ref01Cmp p.1 p.2
def ref01CmpL0Y : Lay := ⟨[(false, 2, .ptr 1002 []), (false, 3, .ptr 1003 [])], [(false, 5, .int .i64), (true, 1002, .u256), (true, 1003, .u256)], [⟨[(1002, 1002), (1003, 1003)], []⟩]⟩
def ref01CmpL0Z : List (Ex × Lay) := [(.ret, ⟨[], [(false, 4, .int .i64)], [⟨[], []⟩]⟩), (.exit 0, ⟨[], [], [⟨[], []⟩]⟩)]
def ref01CmpL0E : LEntry := mkL ref01CmpL0Y ref01CmpL0Z fun p => ref01CmpL0 p.1 p.2.1 p.2.2
def ref01CmpX : Cx := mkCx Tryd.prog 24 globsF [] [(2, ref01CmpL0E)] []
theorem ref01CmpC : CxOk ref01CmpX (Glob globsF) := cx_ok (by kernel_rfl) (by kernel_rfl) trivial
theorem ref01CmpL0K (w0 : Ini) (hG : Glob globsF w0) : LoopOk ref01CmpX w0 (loopAt Tryd.f92 0) ref01CmpL0E :=
 loop_okH ref01CmpC hG (loopAt Tryd.f92 0) (lall_of lall_nil (by kernel_rfl : loopsOf (loopAt Tryd.f92 0) = _))
  ref01CmpL0Y ref01CmpL0Z (by kernel_rfl) (fun p => ref01CmpL0R p.1 p.2.1 p.2.2) (fun p => 1000) (fun p => by kernel_rfl) _ (fun p => ref01CmpL0_eq p.1 p.2.1 p.2.2)
theorem ref01CmpK : CallOk Tryd.prog (Glob globsF) 92 ref01CmpE :=
 fun_ok (cx := ref01CmpX) ref01CmpC (fn := Tryd.f92) Tryd.func92 (by kernel_rfl) Tryd.ntmps92 Tryd.call92 _ _ _ (by kernel_rfl) (by kernel_rfl) (by kernel_rfl)
  (fun w0 hG => lall_of (lall_cut (b := loopAt Tryd.f92 0) (ref01CmpL0K w0 hG) (by kernel_rfl) (lall_nil)) (by kernel_rfl : loopsOf (bodyOf Tryd.f92) = _)) (fun p => Eq.trans (b := ref01CmpB p.1 p.2) (by kernel_rfl) (ref01Cmp_eq p.1 p.2).symm)
def ref01BitE : Entry := mkE [.u256, .int .i64] [.int .i64] fun p => ref01Bit p.1 p.2
def ref01BitX : Cx := mkCx Tryd.prog 21 globsF [] [] []
theorem ref01BitC : CxOk ref01BitX (Glob globsF) := cx_ok (by kernel_rfl) (by kernel_rfl) trivial
theorem ref01BitK : CallOk Tryd.prog (Glob globsF) 124 ref01BitE :=
 fun_ok (cx := ref01BitX) ref01BitC (fn := Tryd.f124) Tryd.func124 (by kernel_rfl) Tryd.ntmps124 Tryd.call124 _ _ _ (by kernel_rfl) (by kernel_rfl) (by kernel_rfl)
  (fun w0 hG => lall_of lall_nil (by kernel_rfl : loopsOf (bodyOf Tryd.f124) = _)) (fun p => Eq.trans (b := ref01BitB p.1 p.2) (by kernel_rfl) (ref01Bit_eq p.1 p.2).symm)
def u256GetE : Entry := mkE [.isl false (.int .u8)] [.u256, .int .i64] fun p => u256Get p
def u256GetL0Y : Lay := ⟨[(false, 2, .ptr 1002 []), (false, 4, .ptr 1004 [])], [(false, 0, .isl false (.int .u8)), (false, 12, .int .i64), (false, 13, .int .i64), (true, 1002, .u256), (true, 1004, .u256)], [⟨[(1002, 1002), (1004, 1004)], []⟩]⟩
def u256GetL0Z : List (Ex × Lay) := [(.exit 0, ⟨[(false, 2, .ptr 1002 []), (false, 4, .ptr 1004 [])], [(true, 1002, .u256), (true, 1004, .u256)], [⟨[(1002, 1002), (1004, 1004)], []⟩]⟩)]
def u256GetL0E : LEntry := mkL u256GetL0Y u256GetL0Z fun p => u256GetL0 p.1 p.2.1 p.2.2.1 p.2.2.2.1 p.2.2.2.2
def u256GetX : Cx := mkCx Tryd.prog 38 globsF [] [(5, u256GetL0E)] []
theorem u256GetC : CxOk u256GetX (Glob globsF) := cx_ok (by kernel_rfl) (by kernel_rfl) trivial
theorem u256GetL0K (w0 : Ini) (hG : Glob globsF w0) : LoopOk u256GetX w0 (loopAt Tryd.f41 0) u256GetL0E :=
 loop_okH u256GetC hG (loopAt Tryd.f41 0) (lall_of lall_nil (by kernel_rfl : loopsOf (loopAt Tryd.f41 0) = _))
  u256GetL0Y u256GetL0Z (by kernel_rfl) (fun p => u256GetL0R p.1 p.2.1 p.2.2.1 p.2.2.2.1 p.2.2.2.2) (fun p => 1000) (fun p => by kernel_rfl) _ (fun p => u256GetL0_eq p.1 p.2.1 p.2.2.1 p.2.2.2.1 p.2.2.2.2)
theorem u256GetK : CallOk Tryd.prog (Glob globsF) 41 u256GetE :=
 fun_ok (cx := u256GetX) u256GetC (fn := Tryd.f41) Tryd.func41 (by kernel_rfl) Tryd.ntmps41 Tryd.call41 _ _ _ (by kernel_rfl) (by kernel_rfl) (by kernel_rfl)
  (fun w0 hG => lall_of (lall_cut (b := loopAt Tryd.f41 0) (u256GetL0K w0 hG) (by kernel_rfl) (lall_nil)) (by kernel_rfl : loopsOf (bodyOf Tryd.f41) = _)) (fun p => Eq.trans (b := u256GetB p) (by kernel_rfl) (u256Get_eq p).symm)
def u256PutE : Entry := mkE [.u256] [.arr (.int .u8) 32] fun p => u256Put p
def u256PutL0Y : Lay := ⟨[(false, 1, .ptr 1001 []), (false, 2, .ptr 1002 []), (false, 3, .ptr 1003 [])], [(false, 5, .int .i64), (true, 1001, .u256), (true, 1002, .arr (.int .u8) 32), (true, 1003, .arr (.int .u8) 32)], [⟨[(1001, 1001), (1002, 1002), (1003, 1003)], []⟩]⟩
def u256PutL0Z : List (Ex × Lay) := [(.exit 0, ⟨[(false, 2, .ptr 1002 []), (false, 3, .ptr 1003 [])], [(true, 1002, .arr (.int .u8) 32), (true, 1003, .arr (.int .u8) 32)], [⟨[(1002, 1002), (1003, 1003)], []⟩]⟩)]
def u256PutL0E : LEntry := mkL u256PutL0Y u256PutL0Z fun p => u256PutL0 p.1 p.2.1 p.2.2.1 p.2.2.2
def u256PutX : Cx := mkCx Tryd.prog 22 globsF [] [(3, u256PutL0E)] []
theorem u256PutC : CxOk u256PutX (Glob globsF) := cx_ok (by kernel_rfl) (by kernel_rfl) trivial
theorem u256PutL0K (w0 : Ini) (hG : Glob globsF w0) : LoopOk u256PutX w0 (loopAt Tryd.f38 0) u256PutL0E :=
 loop_okH u256PutC hG (loopAt Tryd.f38 0) (lall_of lall_nil (by kernel_rfl : loopsOf (loopAt Tryd.f38 0) = _))
  u256PutL0Y u256PutL0Z (by kernel_rfl) (fun p => u256PutL0R p.1 p.2.1 p.2.2.1 p.2.2.2) (fun p => 1000) (fun p => by kernel_rfl) _ (fun p => u256PutL0_eq p.1 p.2.1 p.2.2.1 p.2.2.2)
theorem u256PutK : CallOk Tryd.prog (Glob globsF) 38 u256PutE :=
 fun_ok (cx := u256PutX) u256PutC (fn := Tryd.f38) Tryd.func38 (by kernel_rfl) Tryd.ntmps38 Tryd.call38 _ _ _ (by kernel_rfl) (by kernel_rfl) (by kernel_rfl)
  (fun w0 hG => lall_of (lall_cut (b := loopAt Tryd.f38 0) (u256PutL0K w0 hG) (by kernel_rfl) (lall_nil)) (by kernel_rfl : loopsOf (bodyOf Tryd.f38) = _)) (fun p => Eq.trans (b := u256PutB p) (by kernel_rfl) (u256Put_eq p).symm)
def ref01GetE : Entry := mkE [.isl false (.int .u8)] [.u256, .int .i64] fun p => ref01Get p
def ref01GetL0Y : Lay := ⟨[(false, 2, .ptr 1002 []), (false, 4, .ptr 1004 [])], [(false, 0, .isl false (.int .u8)), (false, 5, .int .i64), (true, 1002, .u256), (true, 1004, .u256)], [⟨[(1002, 1002), (1004, 1004)], []⟩]⟩
def ref01GetL0Z : List (Ex × Lay) := [(.exit 0, ⟨[(false, 2, .ptr 1002 []), (false, 4, .ptr 1004 [])], [(true, 1002, .u256), (true, 1004, .u256)], [⟨[(1002, 1002), (1004, 1004)], []⟩]⟩)]
def ref01GetL0E : LEntry := mkL ref01GetL0Y ref01GetL0Z fun p => ref01GetL0 p.1 p.2.1 p.2.2.1 p.2.2.2
def ref01GetX : Cx := mkCx Tryd.prog 41 globsF [] [(5, ref01GetL0E)] []
theorem ref01GetC : CxOk ref01GetX (Glob globsF) := cx_ok (by kernel_rfl) (by kernel_rfl) trivial
theorem ref01GetL0K (w0 : Ini) (hG : Glob globsF w0) : LoopOk ref01GetX w0 (loopAt Tryd.f42 0) ref01GetL0E :=
 loop_okH ref01GetC hG (loopAt Tryd.f42 0) (lall_of lall_nil (by kernel_rfl : loopsOf (loopAt Tryd.f42 0) = _))
  ref01GetL0Y ref01GetL0Z (by kernel_rfl) (fun p => ref01GetL0R p.1 p.2.1 p.2.2.1 p.2.2.2) (fun p => 1000) (fun p => by kernel_rfl) _ (fun p => ref01GetL0_eq p.1 p.2.1 p.2.2.1 p.2.2.2)
theorem ref01GetK : CallOk Tryd.prog (Glob globsF) 42 ref01GetE :=
 fun_ok (cx := ref01GetX) ref01GetC (fn := Tryd.f42) Tryd.func42 (by kernel_rfl) Tryd.ntmps42 Tryd.call42 _ _ _ (by kernel_rfl) (by kernel_rfl) (by kernel_rfl)
  (fun w0 hG => lall_of (lall_cut (b := loopAt Tryd.f42 0) (ref01GetL0K w0 hG) (by kernel_rfl) (lall_nil)) (by kernel_rfl : loopsOf (bodyOf Tryd.f42) = _)) (fun p => Eq.trans (b := ref01GetB p) (by kernel_rfl) (ref01Get_eq p).symm)
def ref01PutE : Entry := mkE [.u256] [.arr (.int .u8) 32] fun p => ref01Put p
def ref01PutL0Y : Lay := ⟨[(false, 1, .ptr 1001 []), (false, 2, .ptr 1002 []), (false, 3, .ptr 1003 [])], [(false, 4, .int .i64), (true, 1001, .u256), (true, 1002, .arr (.int .u8) 32), (true, 1003, .arr (.int .u8) 32)], [⟨[(1001, 1001), (1002, 1002), (1003, 1003)], []⟩]⟩
def ref01PutL0Z : List (Ex × Lay) := [(.exit 0, ⟨[(false, 2, .ptr 1002 []), (false, 3, .ptr 1003 [])], [(true, 1002, .arr (.int .u8) 32), (true, 1003, .arr (.int .u8) 32)], [⟨[(1002, 1002), (1003, 1003)], []⟩]⟩)]
def ref01PutL0E : LEntry := mkL ref01PutL0Y ref01PutL0Z fun p => ref01PutL0 p.1 p.2.1 p.2.2.1 p.2.2.2
def ref01PutX : Cx := mkCx Tryd.prog 23 globsF [] [(3, ref01PutL0E)] []
theorem ref01PutC : CxOk ref01PutX (Glob globsF) := cx_ok (by kernel_rfl) (by kernel_rfl) trivial
theorem ref01PutL0K (w0 : Ini) (hG : Glob globsF w0) : LoopOk ref01PutX w0 (loopAt Tryd.f40 0) ref01PutL0E :=
 loop_okH ref01PutC hG (loopAt Tryd.f40 0) (lall_of lall_nil (by kernel_rfl : loopsOf (loopAt Tryd.f40 0) = _))
  ref01PutL0Y ref01PutL0Z (by kernel_rfl) (fun p => ref01PutL0R p.1 p.2.1 p.2.2.1 p.2.2.2) (fun p => 1000) (fun p => by kernel_rfl) _ (fun p => ref01PutL0_eq p.1 p.2.1 p.2.2.1 p.2.2.2)
theorem ref01PutK : CallOk Tryd.prog (Glob globsF) 40 ref01PutE :=
 fun_ok (cx := ref01PutX) ref01PutC (fn := Tryd.f40) Tryd.func40 (by kernel_rfl) Tryd.ntmps40 Tryd.call40 _ _ _ (by kernel_rfl) (by kernel_rfl) (by kernel_rfl)
  (fun w0 hG => lall_of (lall_cut (b := loopAt Tryd.f40 0) (ref01PutL0K w0 hG) (by kernel_rfl) (lall_nil)) (by kernel_rfl : loopsOf (bodyOf Tryd.f40) = _)) (fun p => Eq.trans (b := ref01PutB p) (by kernel_rfl) (ref01Put_eq p).symm)
def ref01IWithE : Entry := mkE [.u256, .int .i64] [.u256] fun p => ref01IWith p.1 p.2
def ref01IWithX : Cx := mkCx Tryd.prog 18 globsF [] [] []
theorem ref01IWithC : CxOk ref01IWithX (Glob globsF) := cx_ok (by kernel_rfl) (by kernel_rfl) trivial
theorem ref01IWithK : CallOk Tryd.prog (Glob globsF) 147 ref01IWithE :=
 fun_ok (cx := ref01IWithX) ref01IWithC (fn := Tryd.f147) Tryd.func147 (by kernel_rfl) Tryd.ntmps147 Tryd.call147 _ _ _ (by kernel_rfl) (by kernel_rfl) (by kernel_rfl)
  (fun w0 hG => lall_of lall_nil (by kernel_rfl : loopsOf (bodyOf Tryd.f147) = _)) (fun p => Eq.trans (b := ref01IWithB p.1 p.2) (by kernel_rfl) (ref01IWith_eq p.1 p.2).symm)
def ref01ShlE : Entry := mkE [.u256, .int .i64] [.u256] fun p => ref01Shl p.1 p.2
def ref01ShlL0Y : Lay := ⟨[(false, 2, .ptr 1002 []), (false, 4, .ptr 1004 []), (false, 5, .ptr 1005 [])], [(false, 1, .int .i64), (false, 6, .int .i64), (true, 1002, .u256), (true, 1004, .u256), (true, 1005, .u256)], [⟨[(1002, 1002), (1004, 1004), (1005, 1005)], []⟩]⟩
def ref01ShlL0Z : List (Ex × Lay) := [(.exit 0, ⟨[(false, 4, .ptr 1004 []), (false, 5, .ptr 1005 [])], [(true, 1004, .u256), (true, 1005, .u256)], [⟨[(1004, 1004), (1005, 1005)], []⟩]⟩)]
def ref01ShlL0E : LEntry := mkL ref01ShlL0Y ref01ShlL0Z fun p => ref01ShlL0 p.1 p.2.1 p.2.2.1 p.2.2.2.1 p.2.2.2.2
def ref01ShlX : Cx := mkCx Tryd.prog 28 globsF [(124, ref01BitE), (147, ref01IWithE)] [(5, ref01ShlL0E)] []
theorem ref01ShlC : CxOk ref01ShlX (Glob globsF) := cx_ok (by kernel_rfl) (by kernel_rfl) ⟨ref01BitK, ref01IWithK, trivial⟩
theorem ref01ShlL0K (w0 : Ini) (hG : Glob globsF w0) : LoopOk ref01ShlX w0 (loopAt Tryd.f136 0) ref01ShlL0E :=
 loop_okH ref01ShlC hG (loopAt Tryd.f136 0) (lall_of lall_nil (by kernel_rfl : loopsOf (loopAt Tryd.f136 0) = _))
  ref01ShlL0Y ref01ShlL0Z (by kernel_rfl) (fun p => ref01ShlL0R p.1 p.2.1 p.2.2.1 p.2.2.2.1 p.2.2.2.2) (fun p => 1000) (fun p => by kernel_rfl) _ (fun p => ref01ShlL0_eq p.1 p.2.1 p.2.2.1 p.2.2.2.1 p.2.2.2.2)
theorem ref01ShlK : CallOk Tryd.prog (Glob globsF) 136 ref01ShlE :=
 fun_ok (cx := ref01ShlX) ref01ShlC (fn := Tryd.f136) Tryd.func136 (by kernel_rfl) Tryd.ntmps136 Tryd.call136 _ _ _ (by kernel_rfl) (by kernel_rfl) (by kernel_rfl)
  (fun w0 hG => lall_of (lall_cut (b := loopAt Tryd.f136 0) (ref01ShlL0K w0 hG) (by kernel_rfl) (lall_nil)) (by kernel_rfl : loopsOf (bodyOf Tryd.f136) = _)) (fun p => Eq.trans (b := ref01ShlB p.1 p.2) (by kernel_rfl) (ref01Shl_eq p.1 p.2).symm)
def ref01ShrE : Entry := mkE [.u256, .int .i64] [.u256] fun p => ref01Shr p.1 p.2
def ref01ShrX : Cx := mkCx Tryd.prog 16 globsF [(136, ref01ShlE)] [] []
theorem ref01ShrC : CxOk ref01ShrX (Glob globsF) := cx_ok (by kernel_rfl) (by kernel_rfl) ⟨ref01ShlK, trivial⟩
theorem ref01ShrK : CallOk Tryd.prog (Glob globsF) 107 ref01ShrE :=
 fun_ok (cx := ref01ShrX) ref01ShrC (fn := Tryd.f107) Tryd.func107 (by kernel_rfl) Tryd.ntmps107 Tryd.call107 _ _ _ (by kernel_rfl) (by kernel_rfl) (by kernel_rfl)
  (fun w0 hG => lall_of lall_nil (by kernel_rfl : loopsOf (bodyOf Tryd.f107) = _)) (fun p => Eq.trans (b := ref01ShrB p.1 p.2) (by kernel_rfl) (ref01Shr_eq p.1 p.2).symm)
def ecdsaIOrderE : Entry := mkE [] [.u256] fun _ => ecdsaIOrder
def ecdsaIOrderX : Cx := mkCx Tryd.prog 8 globsF [(58, fieldModulusE)] [] []
theorem ecdsaIOrderC : CxOk ecdsaIOrderX (Glob globsF) := cx_ok (by kernel_rfl) (by kernel_rfl) ⟨fieldModulusK, trivial⟩
theorem ecdsaIOrderK : CallOk Tryd.prog (Glob globsF) 60 ecdsaIOrderE :=
 fun_ok (cx := ecdsaIOrderX) ecdsaIOrderC (fn := Tryd.f60) Tryd.func60 (by kernel_rfl) Tryd.ntmps60 Tryd.call60 _ _ _ (by kernel_rfl) (by kernel_rfl) (by kernel_rfl)
  (fun w0 hG => lall_of lall_nil (by kernel_rfl : loopsOf (bodyOf Tryd.f60) = _)) (fun p => Eq.trans (b := ecdsaIOrderB ) (by kernel_rfl) (ecdsaIOrder_eq ).symm)
def ecdsaIFitE : Entry := mkE [.u256] [.bool] fun p => ecdsaIFit p
def ecdsaIFitX : Cx := mkCx Tryd.prog 12 globsF [(59, u256CmpE), (60, ecdsaIOrderE)] [] []
theorem ecdsaIFitC : CxOk ecdsaIFitX (Glob globsF) := cx_ok (by kernel_rfl) (by kernel_rfl) ⟨u256CmpK, ecdsaIOrderK, trivial⟩
theorem ecdsaIFitK : CallOk Tryd.prog (Glob globsF) 43 ecdsaIFitE :=
 fun_ok (cx := ecdsaIFitX) ecdsaIFitC (fn := Tryd.f43) Tryd.func43 (by kernel_rfl) Tryd.ntmps43 Tryd.call43 _ _ _ (by kernel_rfl) (by kernel_rfl) (by kernel_rfl)
  (fun w0 hG => lall_of lall_nil (by kernel_rfl : loopsOf (bodyOf Tryd.f43) = _)) (fun p => Eq.trans (b := ecdsaIFitB p) (by kernel_rfl) (ecdsaIFit_eq p).symm)
def ecdsaILowE : Entry := mkE [.u256] [.bool] fun p => ecdsaILow p
def ecdsaILowX : Cx := mkCx Tryd.prog 8 globsF [(59, u256CmpE), (60, ecdsaIOrderE), (72, u256ShrE)] [] []
theorem ecdsaILowC : CxOk ecdsaILowX (Glob globsF) := cx_ok (by kernel_rfl) (by kernel_rfl) ⟨u256CmpK, ecdsaIOrderK, u256ShrK, trivial⟩
theorem ecdsaILowK : CallOk Tryd.prog (Glob globsF) 44 ecdsaILowE :=
 fun_ok (cx := ecdsaILowX) ecdsaILowC (fn := Tryd.f44) Tryd.func44 (by kernel_rfl) Tryd.ntmps44 Tryd.call44 _ _ _ (by kernel_rfl) (by kernel_rfl) (by kernel_rfl)
  (fun w0 hG => lall_of lall_nil (by kernel_rfl : loopsOf (bodyOf Tryd.f44) = _)) (fun p => Eq.trans (b := ecdsaILowB p) (by kernel_rfl) (ecdsaILow_eq p).symm)
def ecdsaCheckE : Entry := mkE [.st [.u256, .u256, .bool]] [.int .i64] fun p => ecdsaCheck p
def ecdsaCheckX : Cx := mkCx Tryd.prog 18 globsF [(43, ecdsaIFitE), (44, ecdsaILowE)] [] []
theorem ecdsaCheckC : CxOk ecdsaCheckX (Glob globsF) := cx_ok (by kernel_rfl) (by kernel_rfl) ⟨ecdsaIFitK, ecdsaILowK, trivial⟩
theorem ecdsaCheckK : CallOk Tryd.prog (Glob globsF) 19 ecdsaCheckE :=
 fun_ok (cx := ecdsaCheckX) ecdsaCheckC (fn := Tryd.f19) Tryd.func19 (by kernel_rfl) Tryd.ntmps19 Tryd.call19 _ _ _ (by kernel_rfl) (by kernel_rfl) (by kernel_rfl)
  (fun w0 hG => lall_of lall_nil (by kernel_rfl : loopsOf (bodyOf Tryd.f19) = _)) (fun p => Eq.trans (b := ecdsaCheckB p) (by kernel_rfl) (ecdsaCheck_eq p).symm)
def ref06IOrderE : Entry := mkE [] [.u256] fun _ => ref06IOrder
def ref06IOrderX : Cx := mkCx Tryd.prog 8 globsF [(111, ref04ModulusE)] [] []
theorem ref06IOrderC : CxOk ref06IOrderX (Glob globsF) := cx_ok (by kernel_rfl) (by kernel_rfl) ⟨ref04ModulusK, trivial⟩
theorem ref06IOrderK : CallOk Tryd.prog (Glob globsF) 93 ref06IOrderE :=
 fun_ok (cx := ref06IOrderX) ref06IOrderC (fn := Tryd.f93) Tryd.func93 (by kernel_rfl) Tryd.ntmps93 Tryd.call93 _ _ _ (by kernel_rfl) (by kernel_rfl) (by kernel_rfl)
  (fun w0 hG => lall_of lall_nil (by kernel_rfl : loopsOf (bodyOf Tryd.f93) = _)) (fun p => Eq.trans (b := ref06IOrderB ) (by kernel_rfl) (ref06IOrder_eq ).symm)
def ref06FitE : Entry := mkE [.u256] [.bool] fun p => ref06Fit p
def ref06FitX : Cx := mkCx Tryd.prog 12 globsF [(92, ref01CmpE), (93, ref06IOrderE)] [] []
theorem ref06FitC : CxOk ref06FitX (Glob globsF) := cx_ok (by kernel_rfl) (by kernel_rfl) ⟨ref01CmpK, ref06IOrderK, trivial⟩
theorem ref06FitK : CallOk Tryd.prog (Glob globsF) 55 ref06FitE :=
 fun_ok (cx := ref06FitX) ref06FitC (fn := Tryd.f55) Tryd.func55 (by kernel_rfl) Tryd.ntmps55 Tryd.call55 _ _ _ (by kernel_rfl) (by kernel_rfl) (by kernel_rfl)
  (fun w0 hG => lall_of lall_nil (by kernel_rfl : loopsOf (bodyOf Tryd.f55) = _)) (fun p => Eq.trans (b := ref06FitB p) (by kernel_rfl) (ref06Fit_eq p).symm)
def ref06LowE : Entry := mkE [.u256] [.bool] fun p => ref06Low p
def ref06LowX : Cx := mkCx Tryd.prog 10 globsF [(92, ref01CmpE), (93, ref06IOrderE), (107, ref01ShrE)] [] []
theorem ref06LowC : CxOk ref06LowX (Glob globsF) := cx_ok (by kernel_rfl) (by kernel_rfl) ⟨ref01CmpK, ref06IOrderK, ref01ShrK, trivial⟩
theorem ref06LowK : CallOk Tryd.prog (Glob globsF) 71 ref06LowE :=
 fun_ok (cx := ref06LowX) ref06LowC (fn := Tryd.f71) Tryd.func71 (by kernel_rfl) Tryd.ntmps71 Tryd.call71 _ _ _ (by kernel_rfl) (by kernel_rfl) (by kernel_rfl)
  (fun w0 hG => lall_of lall_nil (by kernel_rfl : loopsOf (bodyOf Tryd.f71) = _)) (fun p => Eq.trans (b := ref06LowB p) (by kernel_rfl) (ref06Low_eq p).symm)
def ref06CheckE : Entry := mkE [.st [.u256, .u256, .bool]] [.int .i64] fun p => ref06Check p
def ref06CheckX : Cx := mkCx Tryd.prog 21 globsF [(55, ref06FitE), (71, ref06LowE)] [] []
theorem ref06CheckC : CxOk ref06CheckX (Glob globsF) := cx_ok (by kernel_rfl) (by kernel_rfl) ⟨ref06FitK, ref06LowK, trivial⟩
theorem ref06CheckK : CallOk Tryd.prog (Glob globsF) 39 ref06CheckE :=
 fun_ok (cx := ref06CheckX) ref06CheckC (fn := Tryd.f39) Tryd.func39 (by kernel_rfl) Tryd.ntmps39 Tryd.call39 _ _ _ (by kernel_rfl) (by kernel_rfl) (by kernel_rfl)
  (fun w0 hG => lall_of lall_nil (by kernel_rfl : loopsOf (bodyOf Tryd.f39) = _)) (fun p => Eq.trans (b := ref06CheckB p) (by kernel_rfl) (ref06Check_eq p).symm)
def law06INumE : Entry := mkE [.int .i64] [.int .i64] fun p => law06INum p
def law06INumX : Cx := mkCx Tryd.prog 4 globsF [] [] []
theorem law06INumC : CxOk law06INumX (Glob globsF) := cx_ok (by kernel_rfl) (by kernel_rfl) trivial
theorem law06INumK : CallOk Tryd.prog (Glob globsF) 12 law06INumE :=
 fun_ok (cx := law06INumX) law06INumC (fn := Tryd.f12) Tryd.func12 (by kernel_rfl) Tryd.ntmps12 Tryd.call12 _ _ _ (by kernel_rfl) (by kernel_rfl) (by kernel_rfl)
  (fun w0 hG => lall_of lall_nil (by kernel_rfl : loopsOf (bodyOf Tryd.f12) = _)) (fun p => Eq.trans (b := law06INumB p) (by kernel_rfl) (law06INum_eq p).symm)
end Go.Sy
