/- The links: each typed function is what the code computes. Printed by a program. -/
import Derived.Test.YtfappeeggccicaaDoorSyVT
import Derived.Test.YtfappeeggccicaaDoorSyKf
import Derived.Test.YtfappeeggccicaaDoorProg
set_option linter.unusedVariables false
set_option maxRecDepth 100000
noncomputable section
namespace Go.Sy
open Go Go.Proofs
def globsF : List (Nat × AV) := [(0, .arr .u2 2 fieldModuli)]
theorem bitsSub64K : CallOk Tryd.prog (Glob globsF) 117 bitsSub64E := bitsSub64_ok (fn := Tryd.f117) Tryd.func117 (by kernel_rfl) (by kernel_rfl) (by kernel_rfl) (by kernel_rfl)
def fieldIOfE : Entry := mkE [.int .i64] [.st [.u256, .u256], .int .i64] fun p => fieldIOf p
def fieldIOfX : Cx := mkCx Tryd.prog 14 globsF [] [] []
theorem fieldIOfC : CxOk fieldIOfX (Glob globsF) := cx_ok (by kernel_rfl) (by kernel_rfl) trivial
theorem fieldIOfK : CallOk Tryd.prog (Glob globsF) 47 fieldIOfE :=
 fun_ok (cx := fieldIOfX) fieldIOfC (fn := Tryd.f47) Tryd.func47 (by kernel_rfl) Tryd.ntmps47 Tryd.call47 _ _ _ (by kernel_rfl) (by kernel_rfl) (by kernel_rfl)
  (fun w0 hG => lall_of lall_nil (by kernel_rfl : loopsOf (bodyOf Tryd.f47) = _)) (fun p => Eq.trans (b := fieldIOfB p) (by kernel_rfl) (fieldIOf_eq p).symm)
def fieldModulusE : Entry := mkE [.int .i64] [.u256, .int .i64] fun p => fieldModulus p
def fieldModulusX : Cx := mkCx Tryd.prog 14 globsF [(47, fieldIOfE)] [] []
theorem fieldModulusC : CxOk fieldModulusX (Glob globsF) := cx_ok (by kernel_rfl) (by kernel_rfl) ⟨fieldIOfK, trivial⟩
theorem fieldModulusK : CallOk Tryd.prog (Glob globsF) 58 fieldModulusE :=
 fun_ok (cx := fieldModulusX) fieldModulusC (fn := Tryd.f58) Tryd.func58 (by kernel_rfl) Tryd.ntmps58 Tryd.call58 _ _ _ (by kernel_rfl) (by kernel_rfl) (by kernel_rfl)
  (fun w0 hG => lall_of lall_nil (by kernel_rfl : loopsOf (bodyOf Tryd.f58) = _)) (fun p => Eq.trans (b := fieldModulusB p) (by kernel_rfl) (fieldModulus_eq p).symm)
def u256SubE : Entry := mkE [.u256, .u256] [.u256, .int .u64] fun p => u256Sub p.1 p.2
def u256SubX : Cx := mkCx Tryd.prog 28 globsF [(117, bitsSub64E)] [] []
theorem u256SubC : CxOk u256SubX (Glob globsF) := cx_ok (by kernel_rfl) (by kernel_rfl) ⟨bitsSub64K, trivial⟩
theorem u256SubK : CallOk Tryd.prog (Glob globsF) 83 u256SubE :=
 fun_ok (cx := u256SubX) u256SubC (fn := Tryd.f83) Tryd.func83 (by kernel_rfl) Tryd.ntmps83 Tryd.call83 _ _ _ (by kernel_rfl) (by kernel_rfl) (by kernel_rfl)
  (fun w0 hG => lall_of (lall_free (b := loopAt Tryd.f83 0) (by kernel_rfl) (lall_nil)) (by kernel_rfl : loopsOf (bodyOf Tryd.f83) = _)) (fun p => Eq.trans (b := u256SubB p.1 p.2) (by kernel_rfl) (u256Sub_eq p.1 p.2).symm)
def u256CmpE : Entry := mkE [.u256, .u256] [.int .i64] fun p => u256Cmp p.1 p.2
def u256CmpX : Cx := mkCx Tryd.prog 18 globsF [(83, u256SubE)] [] []
theorem u256CmpC : CxOk u256CmpX (Glob globsF) := cx_ok (by kernel_rfl) (by kernel_rfl) ⟨u256SubK, trivial⟩
theorem u256CmpK : CallOk Tryd.prog (Glob globsF) 59 u256CmpE :=
 fun_ok (cx := u256CmpX) u256CmpC (fn := Tryd.f59) Tryd.func59 (by kernel_rfl) Tryd.ntmps59 Tryd.call59 _ _ _ (by kernel_rfl) (by kernel_rfl) (by kernel_rfl)
  (fun w0 hG => lall_of lall_nil (by kernel_rfl : loopsOf (bodyOf Tryd.f59) = _)) (fun p => Eq.trans (b := u256CmpB p.1 p.2) (by kernel_rfl) (u256Cmp_eq p.1 p.2).symm)
def u256ShlE : Entry := mkE [.u256, .int .i64] [.u256] fun p => u256Shl p.1 p.2
def u256ShlL0Y : Lay := ⟨[(false, 2, .ptr 1002 []), (false, 4, .ptr 1004 []), (false, 5, .ptr 1005 [])], [(false, 1, .int .i64), (false, 6, .int .i64), (true, 1002, .u256), (true, 1004, .u256), (true, 1005, .u256)], [⟨[(1002, 1002), (1004, 1004), (1005, 1005)], []⟩]⟩
def u256ShlL0Z : List (Ex × Lay) := [(.exit 0, ⟨[(false, 4, .ptr 1004 []), (false, 5, .ptr 1005 [])], [(true, 1004, .u256), (true, 1005, .u256)], [⟨[(1004, 1004), (1005, 1005)], []⟩]⟩)]
def u256ShlL0E : LEntry := mkL u256ShlL0Y u256ShlL0Z fun p => u256ShlL0 p.1 p.2.1 p.2.2.1 p.2.2.2.1 p.2.2.2.2
def u256ShlX : Cx := mkCx Tryd.prog 63 globsF [] [(7, u256ShlL0E)] []
theorem u256ShlC : CxOk u256ShlX (Glob globsF) := cx_ok (by kernel_rfl) (by kernel_rfl) trivial
theorem u256ShlL0K (w0 : Ini) (hG : Glob globsF w0) : LoopOk u256ShlX w0 (loopAt Tryd.f108 0) u256ShlL0E :=
 loop_okH u256ShlC hG (loopAt Tryd.f108 0) (lall_of lall_nil (by kernel_rfl : loopsOf (loopAt Tryd.f108 0) = _))
  u256ShlL0Y u256ShlL0Z (by kernel_rfl) (fun p => u256ShlL0R p.1 p.2.1 p.2.2.1 p.2.2.2.1 p.2.2.2.2) (fun p => 1000) (fun p => by kernel_rfl) _ (fun p => u256ShlL0_eq p.1 p.2.1 p.2.2.1 p.2.2.2.1 p.2.2.2.2)
theorem u256ShlK : CallOk Tryd.prog (Glob globsF) 108 u256ShlE :=
 fun_ok (cx := u256ShlX) u256ShlC (fn := Tryd.f108) Tryd.func108 (by kernel_rfl) Tryd.ntmps108 Tryd.call108 _ _ _ (by kernel_rfl) (by kernel_rfl) (by kernel_rfl)
  (fun w0 hG => lall_of (lall_cut (b := loopAt Tryd.f108 0) (u256ShlL0K w0 hG) (by kernel_rfl) (lall_nil)) (by kernel_rfl : loopsOf (bodyOf Tryd.f108) = _)) (fun p => Eq.trans (b := u256ShlB p.1 p.2) (by kernel_rfl) (u256Shl_eq p.1 p.2).symm)
def u256ShrE : Entry := mkE [.u256, .int .i64] [.u256] fun p => u256Shr p.1 p.2
def u256ShrL0Y : Lay := ⟨[(false, 2, .ptr 1002 []), (false, 4, .ptr 1004 []), (false, 5, .ptr 1005 [])], [(false, 1, .int .i64), (false, 6, .int .i64), (true, 1002, .u256), (true, 1004, .u256), (true, 1005, .u256)], [⟨[(1002, 1002), (1004, 1004), (1005, 1005)], []⟩]⟩
def u256ShrL0Z : List (Ex × Lay) := [(.exit 0, ⟨[(false, 4, .ptr 1004 []), (false, 5, .ptr 1005 [])], [(true, 1004, .u256), (true, 1005, .u256)], [⟨[(1004, 1004), (1005, 1005)], []⟩]⟩)]
def u256ShrL0E : LEntry := mkL u256ShrL0Y u256ShrL0Z fun p => u256ShrL0 p.1 p.2.1 p.2.2.1 p.2.2.2.1 p.2.2.2.2
def u256ShrX : Cx := mkCx Tryd.prog 65 globsF [(108, u256ShlE)] [(7, u256ShrL0E)] []
theorem u256ShrC : CxOk u256ShrX (Glob globsF) := cx_ok (by kernel_rfl) (by kernel_rfl) ⟨u256ShlK, trivial⟩
theorem u256ShrL0K (w0 : Ini) (hG : Glob globsF w0) : LoopOk u256ShrX w0 (loopAt Tryd.f72 0) u256ShrL0E :=
 loop_okH u256ShrC hG (loopAt Tryd.f72 0) (lall_of lall_nil (by kernel_rfl : loopsOf (loopAt Tryd.f72 0) = _))
  u256ShrL0Y u256ShrL0Z (by kernel_rfl) (fun p => u256ShrL0R p.1 p.2.1 p.2.2.1 p.2.2.2.1 p.2.2.2.2) (fun p => 1000) (fun p => by kernel_rfl) _ (fun p => u256ShrL0_eq p.1 p.2.1 p.2.2.1 p.2.2.2.1 p.2.2.2.2)
theorem u256ShrK : CallOk Tryd.prog (Glob globsF) 72 u256ShrE :=
 fun_ok (cx := u256ShrX) u256ShrC (fn := Tryd.f72) Tryd.func72 (by kernel_rfl) Tryd.ntmps72 Tryd.call72 _ _ _ (by kernel_rfl) (by kernel_rfl) (by kernel_rfl)
  (fun w0 hG => lall_of (lall_cut (b := loopAt Tryd.f72 0) (u256ShrL0K w0 hG) (by kernel_rfl) (lall_nil)) (by kernel_rfl : loopsOf (bodyOf Tryd.f72) = _)) (fun p => Eq.trans (b := u256ShrB p.1 p.2) (by kernel_rfl) (u256Shr_eq p.1 p.2).symm)
def u256GetE : Entry := mkE [.isl false (.int .u8)] [.u256, .int .i64] fun p => u256Get p
def u256GetL0Y : Lay := ⟨[(false, 2, .ptr 1002 []), (false, 4, .ptr 1004 [])], [(false, 0, .isl false (.int .u8)), (false, 12, .int .i64), (false, 13, .int .i64), (true, 1002, .u256), (true, 1004, .u256)], [⟨[(1002, 1002), (1004, 1004)], []⟩]⟩
def u256GetL0Z : List (Ex × Lay) := [(.exit 0, ⟨[(false, 2, .ptr 1002 []), (false, 4, .ptr 1004 [])], [(true, 1002, .u256), (true, 1004, .u256)], [⟨[(1002, 1002), (1004, 1004)], []⟩]⟩)]
def u256GetL0E : LEntry := mkL u256GetL0Y u256GetL0Z fun p => u256GetL0 p.1 p.2.1 p.2.2.1 p.2.2.2.1 p.2.2.2.2
def u256GetX : Cx := mkCx Tryd.prog 38 globsF [] [(5, u256GetL0E)] []
theorem u256GetC : CxOk u256GetX (Glob globsF) := cx_ok (by kernel_rfl) (by kernel_rfl) trivial
theorem u256GetL0K (w0 : Ini) (hG : Glob globsF w0) : LoopOk u256GetX w0 (loopAt Tryd.f41 0) u256GetL0E :=
 loop_okH u256GetC hG (loopAt Tryd.f41 0) (lall_of lall_nil (by kernel_rfl : loopsOf (loopAt Tryd.f41 0) = _))
  u256GetL0Y u256GetL0Z (by kernel_rfl) (fun p => u256GetL0R p.1 p.2.1 p.2.2.1 p.2.2.2.1 p.2.2.2.2) (fun p => 1000) (fun p => by kernel_rfl) _ (fun p => u256GetL0_eq p.1 p.2.1 p.2.2.1 p.2.2.2.1 p.2.2.2.2)
theorem u256GetK : CallOk Tryd.prog (Glob globsF) 41 u256GetE :=
 fun_ok (cx := u256GetX) u256GetC (fn := Tryd.f41) Tryd.func41 (by kernel_rfl) Tryd.ntmps41 Tryd.call41 _ _ _ (by kernel_rfl) (by kernel_rfl) (by kernel_rfl)
  (fun w0 hG => lall_of (lall_cut (b := loopAt Tryd.f41 0) (u256GetL0K w0 hG) (by kernel_rfl) (lall_nil)) (by kernel_rfl : loopsOf (bodyOf Tryd.f41) = _)) (fun p => Eq.trans (b := u256GetB p) (by kernel_rfl) (u256Get_eq p).symm)
def u256PutE : Entry := mkE [.u256] [.arr (.int .u8) 32] fun p => u256Put p
def u256PutL0Y : Lay := ⟨[(false, 1, .ptr 1001 []), (false, 2, .ptr 1002 []), (false, 3, .ptr 1003 [])], [(false, 5, .int .i64), (true, 1001, .u256), (true, 1002, .arr (.int .u8) 32), (true, 1003, .arr (.int .u8) 32)], [⟨[(1001, 1001), (1002, 1002), (1003, 1003)], []⟩]⟩
def u256PutL0Z : List (Ex × Lay) := [(.exit 0, ⟨[(false, 2, .ptr 1002 []), (false, 3, .ptr 1003 [])], [(true, 1002, .arr (.int .u8) 32), (true, 1003, .arr (.int .u8) 32)], [⟨[(1002, 1002), (1003, 1003)], []⟩]⟩)]
def u256PutL0E : LEntry := mkL u256PutL0Y u256PutL0Z fun p => u256PutL0 p.1 p.2.1 p.2.2.1 p.2.2.2
def u256PutX : Cx := mkCx Tryd.prog 22 globsF [] [(3, u256PutL0E)] []
theorem u256PutC : CxOk u256PutX (Glob globsF) := cx_ok (by kernel_rfl) (by kernel_rfl) trivial
theorem u256PutL0K (w0 : Ini) (hG : Glob globsF w0) : LoopOk u256PutX w0 (loopAt Tryd.f38 0) u256PutL0E :=
 loop_okH u256PutC hG (loopAt Tryd.f38 0) (lall_of lall_nil (by kernel_rfl : loopsOf (loopAt Tryd.f38 0) = _))
  u256PutL0Y u256PutL0Z (by kernel_rfl) (fun p => u256PutL0R p.1 p.2.1 p.2.2.1 p.2.2.2) (fun p => 1000) (fun p => by kernel_rfl) _ (fun p => u256PutL0_eq p.1 p.2.1 p.2.2.1 p.2.2.2)
theorem u256PutK : CallOk Tryd.prog (Glob globsF) 38 u256PutE :=
 fun_ok (cx := u256PutX) u256PutC (fn := Tryd.f38) Tryd.func38 (by kernel_rfl) Tryd.ntmps38 Tryd.call38 _ _ _ (by kernel_rfl) (by kernel_rfl) (by kernel_rfl)
  (fun w0 hG => lall_of (lall_cut (b := loopAt Tryd.f38 0) (u256PutL0K w0 hG) (by kernel_rfl) (lall_nil)) (by kernel_rfl : loopsOf (bodyOf Tryd.f38) = _)) (fun p => Eq.trans (b := u256PutB p) (by kernel_rfl) (u256Put_eq p).symm)
def ecdsaIOrderE : Entry := mkE [] [.u256] fun _ => ecdsaIOrder
def ecdsaIOrderX : Cx := mkCx Tryd.prog 8 globsF [(58, fieldModulusE)] [] []
theorem ecdsaIOrderC : CxOk ecdsaIOrderX (Glob globsF) := cx_ok (by kernel_rfl) (by kernel_rfl) ⟨fieldModulusK, trivial⟩
theorem ecdsaIOrderK : CallOk Tryd.prog (Glob globsF) 60 ecdsaIOrderE :=
 fun_ok (cx := ecdsaIOrderX) ecdsaIOrderC (fn := Tryd.f60) Tryd.func60 (by kernel_rfl) Tryd.ntmps60 Tryd.call60 _ _ _ (by kernel_rfl) (by kernel_rfl) (by kernel_rfl)
  (fun w0 hG => lall_of lall_nil (by kernel_rfl : loopsOf (bodyOf Tryd.f60) = _)) (fun p => Eq.trans (b := ecdsaIOrderB ) (by kernel_rfl) (ecdsaIOrder_eq ).symm)
def ecdsaIFitE : Entry := mkE [.u256] [.bool] fun p => ecdsaIFit p
def ecdsaIFitX : Cx := mkCx Tryd.prog 12 globsF [(59, u256CmpE), (60, ecdsaIOrderE)] [] []
theorem ecdsaIFitC : CxOk ecdsaIFitX (Glob globsF) := cx_ok (by kernel_rfl) (by kernel_rfl) ⟨u256CmpK, ecdsaIOrderK, trivial⟩
theorem ecdsaIFitK : CallOk Tryd.prog (Glob globsF) 43 ecdsaIFitE :=
 fun_ok (cx := ecdsaIFitX) ecdsaIFitC (fn := Tryd.f43) Tryd.func43 (by kernel_rfl) Tryd.ntmps43 Tryd.call43 _ _ _ (by kernel_rfl) (by kernel_rfl) (by kernel_rfl)
  (fun w0 hG => lall_of lall_nil (by kernel_rfl : loopsOf (bodyOf Tryd.f43) = _)) (fun p => Eq.trans (b := ecdsaIFitB p) (by kernel_rfl) (ecdsaIFit_eq p).symm)
def ecdsaILowE : Entry := mkE [.u256] [.bool] fun p => ecdsaILow p
def ecdsaILowX : Cx := mkCx Tryd.prog 8 globsF [(59, u256CmpE), (60, ecdsaIOrderE), (72, u256ShrE)] [] []
theorem ecdsaILowC : CxOk ecdsaILowX (Glob globsF) := cx_ok (by kernel_rfl) (by kernel_rfl) ⟨u256CmpK, ecdsaIOrderK, u256ShrK, trivial⟩
theorem ecdsaILowK : CallOk Tryd.prog (Glob globsF) 44 ecdsaILowE :=
 fun_ok (cx := ecdsaILowX) ecdsaILowC (fn := Tryd.f44) Tryd.func44 (by kernel_rfl) Tryd.ntmps44 Tryd.call44 _ _ _ (by kernel_rfl) (by kernel_rfl) (by kernel_rfl)
  (fun w0 hG => lall_of lall_nil (by kernel_rfl : loopsOf (bodyOf Tryd.f44) = _)) (fun p => Eq.trans (b := ecdsaILowB p) (by kernel_rfl) (ecdsaILow_eq p).symm)
def ecdsaCheckE : Entry := mkE [.st [.u256, .u256, .bool]] [.int .i64] fun p => ecdsaCheck p
def ecdsaCheckX : Cx := mkCx Tryd.prog 18 globsF [(43, ecdsaIFitE), (44, ecdsaILowE)] [] []
theorem ecdsaCheckC : CxOk ecdsaCheckX (Glob globsF) := cx_ok (by kernel_rfl) (by kernel_rfl) ⟨ecdsaIFitK, ecdsaILowK, trivial⟩
theorem ecdsaCheckK : CallOk Tryd.prog (Glob globsF) 19 ecdsaCheckE :=
 fun_ok (cx := ecdsaCheckX) ecdsaCheckC (fn := Tryd.f19) Tryd.func19 (by kernel_rfl) Tryd.ntmps19 Tryd.call19 _ _ _ (by kernel_rfl) (by kernel_rfl) (by kernel_rfl)
  (fun w0 hG => lall_of lall_nil (by kernel_rfl : loopsOf (bodyOf Tryd.f19) = _)) (fun p => Eq.trans (b := ecdsaCheckB p) (by kernel_rfl) (ecdsaCheck_eq p).symm)
end Go.Sy
