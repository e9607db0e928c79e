/- The links: each typed function is what the code computes. Printed by a program. -/
import Derived.Test.YtfappeeggccicaaDoorSyVE3
import Derived.Test.YtfappeeggccicaaDoorSyWE
set_option linter.unusedVariables false
set_option maxRecDepth 100000
namespace Go.Sy
open Go Go.Proofs

def ecdsaPackI : Lay := ⟨[], [(false, 0, .st [.u256, .u256, .bool])], []⟩
def ecdsaPackO : Lay := ⟨[(false, 0, .own 1000 (.int .u8))], [(false, 1, .int .i64), (true, 1000, .row (.int .u8))], [⟨[], [(false, 0, [], 1000)]⟩, ⟨[(1000, 1026)], []⟩]⟩
noncomputable def ecdsaPackE : Entry := mkB 1 2 0 [false] ecdsaPackI ecdsaPackO (fun p => ecdsaPack p)

noncomputable def ecdsaPackX : Cx := mkCx Tryd.prog 27 globsF [(19, ecdsaCheckE), (38, u256PutE)] [] []
theorem ecdsaPackC : CxOk ecdsaPackX (Glob globsF) := cx_ok (by kernel_rfl) (by kernel_rfl) ⟨ecdsaCheckK, u256PutK, trivial⟩
theorem ecdsaPackK : CallOk Tryd.prog (Glob globsF) 9 ecdsaPackE :=
  fun_okB (cx := ecdsaPackX) ecdsaPackC (fn := Tryd.f9) Tryd.func9 (by kernel_rfl) Tryd.ntmps9 Tryd.call9 _ _ _ _ _ _ _ (by kernel_rfl) (by kernel_rfl) (by kernel_rfl)
    (fun w0 hG => lall_of lall_nil (by kernel_rfl : loopsOf (bodyOf Tryd.f9) = _)) (fun p => Eq.trans (b := ecdsaPackB p) (by kernel_rfl) (ecdsaPack_eq p).symm)

noncomputable def ecdsaUnpackE : Entry := mkE [.isl false (.int .u8)] [.st [.u256, .u256, .bool], .int .i64] fun p => ecdsaUnpack p

noncomputable def ecdsaUnpackX : Cx := mkCx Tryd.prog 44 globsF [(19, ecdsaCheckE), (41, u256GetE)] [] []
theorem ecdsaUnpackC : CxOk ecdsaUnpackX (Glob globsF) := cx_ok (by kernel_rfl) (by kernel_rfl) ⟨ecdsaCheckK, u256GetK, trivial⟩
theorem ecdsaUnpackK : CallOk Tryd.prog (Glob globsF) 14 ecdsaUnpackE :=
  fun_ok (cx := ecdsaUnpackX) ecdsaUnpackC (fn := Tryd.f14) Tryd.func14 (by kernel_rfl) Tryd.ntmps14 Tryd.call14 _ _ _ (by kernel_rfl) (by kernel_rfl) (by kernel_rfl)
    (fun w0 hG => lall_of lall_nil (by kernel_rfl : loopsOf (bodyOf Tryd.f14) = _)) (fun p => Eq.trans (b := ecdsaUnpackB p) (by kernel_rfl) (ecdsaUnpack_eq p).symm)

def ref06PackI : Lay := ⟨[], [(false, 0, .st [.u256, .u256, .bool])], []⟩
def ref06PackO : Lay := ⟨[(false, 0, .own 1000 (.int .u8))], [(false, 1, .int .i64), (true, 1000, .row (.int .u8))], [⟨[], [(false, 0, [], 1000)]⟩, ⟨[(1000, 1050)], []⟩]⟩
noncomputable def ref06PackE : Entry := mkB 1 2 0 [false] ref06PackI ref06PackO (fun p => ref06Pack p)

def ref06PackL0Y : Lay := ⟨[(false, 1, .ptr 1001 []), (false, 5, .own 1050 (.int .u8)), (false, 6, .ptr 1006 []), (false, 7, .ptr 1007 [])], [(false, 8, .int .i64), (true, 1001, .st [.u256, .u256, .bool]), (true, 1006, .arr (.int .u8) 32), (true, 1007, .arr (.int .u8) 32), (true, 1050, .row (.int .u8))], [⟨[(1001, 1001), (1006, 1006), (1007, 1007)], [(false, 5, [], 1050)]⟩, ⟨[(1001, 1001), (1050, 1030), (1006, 1006), (1007, 1007)], []⟩]⟩
def ref06PackL0Z : List (Ex × Lay) := [(.exit 0, ⟨[(false, 1, .ptr 1001 []), (false, 5, .own 1050 (.int .u8)), (false, 7, .ptr 1007 [])], [(true, 1001, .st [.u256, .u256, .bool]), (true, 1007, .arr (.int .u8) 32), (true, 1050, .row (.int .u8))], [⟨[(1001, 1001), (1050, 1050), (1007, 1007)], []⟩]⟩)]
noncomputable def ref06PackL0E : LEntry := mkL ref06PackL0Y ref06PackL0Z fun p => ref06PackL0 p.1 p.2.1 p.2.2.1 p.2.2.2.1 p.2.2.2.2
def ref06PackL1Y : Lay := ⟨[(false, 1, .ptr 1001 []), (false, 5, .own 1050 (.int .u8)), (false, 7, .ptr 1007 [])], [(false, 9, .int .i64), (true, 1001, .st [.u256, .u256, .bool]), (true, 1007, .arr (.int .u8) 32), (true, 1050, .row (.int .u8))], [⟨[(1001, 1001), (1050, 1050), (1007, 1007)], []⟩, ⟨[(1001, 1001), (1050, 1040), (1007, 1007)], []⟩]⟩
def ref06PackL1Z : List (Ex × Lay) := [(.exit 2, ⟨[(false, 1, .ptr 1001 []), (false, 5, .own 1050 (.int .u8))], [(true, 1001, .st [.u256, .u256, .bool]), (true, 1050, .row (.int .u8))], [⟨[(1001, 1001), (1050, 1050)], []⟩]⟩)]
noncomputable def ref06PackL1E : LEntry := mkL ref06PackL1Y ref06PackL1Z fun p => ref06PackL1 p.1 p.2.1 p.2.2.1 p.2.2.2
noncomputable def ref06PackX : Cx := mkCx Tryd.prog 50 globsF [(39, ref06CheckE), (40, ref01PutE)] [(8, ref06PackL0E), (12, ref06PackL1E)] []
theorem ref06PackC : CxOk ref06PackX (Glob globsF) := cx_ok (by kernel_rfl) (by kernel_rfl) ⟨ref06CheckK, ref01PutK, trivial⟩
theorem ref06PackL0K (w0 : Ini) (hG : Glob globsF w0) : LoopOk ref06PackX w0 (loopAt Tryd.f10 0) ref06PackL0E :=
  loop_okH ref06PackC hG (loopAt Tryd.f10 0) (lall_of lall_nil (by kernel_rfl : loopsOf (loopAt Tryd.f10 0) = _))
    ref06PackL0Y ref06PackL0Z (by kernel_rfl) (fun p => ref06PackL0R p.1 p.2.1 p.2.2.1 p.2.2.2.1 p.2.2.2.2) (fun p => 1000) (fun p => by kernel_rfl) _ (fun p => ref06PackL0_eq p.1 p.2.1 p.2.2.1 p.2.2.2.1 p.2.2.2.2)
theorem ref06PackL1K (w0 : Ini) (hG : Glob globsF w0) : LoopOk ref06PackX w0 (loopAt Tryd.f10 1) ref06PackL1E :=
  loop_okH ref06PackC hG (loopAt Tryd.f10 1) (lall_of lall_nil (by kernel_rfl : loopsOf (loopAt Tryd.f10 1) = _))
    ref06PackL1Y ref06PackL1Z (by kernel_rfl) (fun p => ref06PackL1R p.1 p.2.1 p.2.2.1 p.2.2.2) (fun p => 1000) (fun p => by kernel_rfl) _ (fun p => ref06PackL1_eq p.1 p.2.1 p.2.2.1 p.2.2.2)
theorem ref06PackK : CallOk Tryd.prog (Glob globsF) 10 ref06PackE :=
  fun_okB (cx := ref06PackX) ref06PackC (fn := Tryd.f10) Tryd.func10 (by kernel_rfl) Tryd.ntmps10 Tryd.call10 _ _ _ _ _ _ _ (by kernel_rfl) (by kernel_rfl) (by kernel_rfl)
    (fun w0 hG => lall_of (lall_cut (b := loopAt Tryd.f10 0) (ref06PackL0K w0 hG) (by kernel_rfl) (lall_cut (b := loopAt Tryd.f10 1) (ref06PackL1K w0 hG) (by kernel_rfl) (lall_nil))) (by kernel_rfl : loopsOf (bodyOf Tryd.f10) = _)) (fun p => Eq.trans (b := ref06PackB p) (by kernel_rfl) (ref06Pack_eq p).symm)

noncomputable def ref06UnpackE : Entry := mkE [.isl false (.int .u8)] [.st [.u256, .u256, .bool], .int .i64] fun p => ref06Unpack p

def ref06UnpackL0Y : Lay := ⟨[(false, 2, .ptr 1002 []), (false, 4, .own 1058 (.int .u8))], [(false, 0, .isl false (.int .u8)), (false, 5, .int .i64), (true, 1002, .st [.u256, .u256, .bool]), (true, 1058, .row (.int .u8))], [⟨[(1002, 1002)], [(false, 4, [], 1058)]⟩, ⟨[(1002, 1002), (1058, 1026)], []⟩]⟩
def ref06UnpackL0Z : List (Ex × Lay) := [(.exit 0, ⟨[(false, 2, .ptr 1002 []), (false, 4, .own 1058 (.int .u8))], [(false, 0, .isl false (.int .u8)), (true, 1002, .st [.u256, .u256, .bool]), (true, 1058, .row (.int .u8))], [⟨[(1002, 1002), (1058, 1058)], []⟩]⟩)]
noncomputable def ref06UnpackL0E : LEntry := mkL ref06UnpackL0Y ref06UnpackL0Z fun p => ref06UnpackL0 p.1 p.2.1 p.2.2.1 p.2.2.2
noncomputable def ref06UnpackX : Cx := mkCx Tryd.prog 58 globsF [(39, ref06CheckE), (42, ref01GetE)] [(5, ref06UnpackL0E)] []
theorem ref06UnpackC : CxOk ref06UnpackX (Glob globsF) := cx_ok (by kernel_rfl) (by kernel_rfl) ⟨ref06CheckK, ref01GetK, trivial⟩
theorem ref06UnpackL0K (w0 : Ini) (hG : Glob globsF w0) : LoopOk ref06UnpackX w0 (loopAt Tryd.f15 0) ref06UnpackL0E :=
  loop_okH ref06UnpackC hG (loopAt Tryd.f15 0) (lall_of lall_nil (by kernel_rfl : loopsOf (loopAt Tryd.f15 0) = _))
    ref06UnpackL0Y ref06UnpackL0Z (by kernel_rfl) (fun p => ref06UnpackL0R p.1 p.2.1 p.2.2.1 p.2.2.2) (fun p => 1000) (fun p => by kernel_rfl) _ (fun p => ref06UnpackL0_eq p.1 p.2.1 p.2.2.1 p.2.2.2)
theorem ref06UnpackK : CallOk Tryd.prog (Glob globsF) 15 ref06UnpackE :=
  fun_ok (cx := ref06UnpackX) ref06UnpackC (fn := Tryd.f15) Tryd.func15 (by kernel_rfl) Tryd.ntmps15 Tryd.call15 _ _ _ (by kernel_rfl) (by kernel_rfl) (by kernel_rfl)
    (fun w0 hG => lall_of (lall_cut (b := loopAt Tryd.f15 0) (ref06UnpackL0K w0 hG) (by kernel_rfl) (lall_nil)) (by kernel_rfl : loopsOf (bodyOf Tryd.f15) = _)) (fun p => Eq.trans (b := ref06UnpackB p) (by kernel_rfl) (ref06Unpack_eq p).symm)

end Go.Sy
