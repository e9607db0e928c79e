/- The links: each typed function is what the code computes. Printed by a program. -/
import Derived.Test.YtfappeeggccicaaGreatDoorSyVG
import Derived.Test.YtfappeeggccicaaGreatDoorSyWN
set_option linter.unusedVariables false
set_option maxRecDepth 100000
noncomputable section
namespace Go.Sy
open Go Go.Proofs
def ecdsaSignE : Entry := mkE [.u256, .arr (.int .u8) 32] [.st [.u256, .u256, .bool], .int .i64] fun p => ecdsaSign p.1 p.2
def ecdsaSignL0Y : Lay := ⟨[(false, 2, .ptr 1002 []), (false, 3, .ptr 1003 []), (false, 4, .ptr 1004 [])], [(false, 15, .int .i64), (true, 1002, .u256), (true, 1003, .arr (.int .u8) 32), (true, 1004, .st [.u256, .u256, .bool])], [⟨[(1002, 1002), (1003, 1003), (1004, 1004)], []⟩]⟩
def ecdsaSignL0Z : List (Ex × Lay) := [(.exit 0, ⟨[(false, 4, .ptr 1004 [])], [(true, 1004, .st [.u256, .u256, .bool])], [⟨[(1004, 1004)], []⟩]⟩), (.ret, ⟨[(false, 4, .ptr 1004 []), (false, 5, .int .i64 0)], [(true, 1004, .st [.u256, .u256, .bool])], [⟨[(1004, 1004)], []⟩]⟩)]
def ecdsaSignL0E : LEntry := mkL ecdsaSignL0Y ecdsaSignL0Z fun p => ecdsaSignL0 p.1 p.2.1 p.2.2.1 p.2.2.2
def ecdsaSignX : Cx := mkCx Tryz.prog 39 globsG [(7, ecdsaIFitE), (8, ecdsaNonceE), (9, ecdsaSignWithE)] [(4, ecdsaSignL0E)] []
theorem ecdsaSignC : CxOk ecdsaSignX (Glob globsG) := cx_ok (by kernel_rfl) (by kernel_rfl) ⟨(ecdsaIFitK.up globsF_globsG), (ecdsaNonceK.up globs0x2x3_globsG), (ecdsaSignWithK.up globs0x1_globsG), trivial⟩
theorem ecdsaSignL0K (w0 : Ini) (hG : Glob globsG w0) : LoopOk ecdsaSignX w0 (loopAt Tryz.f4 0) ecdsaSignL0E :=
 loop_okH ecdsaSignC hG (loopAt Tryz.f4 0) (lall_of lall_nil (by kernel_rfl : loopsOf (loopAt Tryz.f4 0) = _))
  ecdsaSignL0Y ecdsaSignL0Z (by kernel_rfl) (fun p => ecdsaSignL0R p.1 p.2.1 p.2.2.1 p.2.2.2) (fun p => 1000) (fun p => by kernel_rfl) _ (fun p => ecdsaSignL0_eq p.1 p.2.1 p.2.2.1 p.2.2.2)
theorem ecdsaSignK : CallOk Tryz.prog (Glob globsG) 4 ecdsaSignE :=
 fun_ok (cx := ecdsaSignX) ecdsaSignC (fn := Tryz.f4) Tryz.func4 (by kernel_rfl) Tryz.ntmps4 Tryz.call4 _ _ _ (by kernel_rfl) (by kernel_rfl) (by kernel_rfl)
  (fun w0 hG => lall_of (lall_cut (b := loopAt Tryz.f4 0) (ecdsaSignL0K w0 hG) (by kernel_rfl) (lall_nil)) (by kernel_rfl : loopsOf (bodyOf Tryz.f4) = _)) (fun p => Eq.trans (b := ecdsaSignB p.1 p.2) (by kernel_rfl) (ecdsaSign_eq p.1 p.2).symm)
def ref06SignE : Entry := mkE [.u256, .arr (.int .u8) 32] [.st [.u256, .u256, .bool], .int .i64] fun p => ref06Sign p.1 p.2
def ref06SignL0Y : Lay := ⟨[(false, 2, .ptr 1002 []), (false, 3, .ptr 1003 []), (false, 4, .ptr 1004 [])], [(false, 7, .int .i64), (true, 1002, .u256), (true, 1003, .arr (.int .u8) 32), (true, 1004, .st [.u256, .u256, .bool])], [⟨[(1002, 1002), (1003, 1003), (1004, 1004)], []⟩]⟩
def ref06SignL0Z : List (Ex × Lay) := [(.ret, ⟨[(false, 4, .ptr 1004 []), (false, 5, .int .i64 0)], [(true, 1004, .st [.u256, .u256, .bool])], [⟨[(1004, 1004)], []⟩]⟩), (.exit 0, ⟨[(false, 4, .ptr 1004 [])], [(true, 1004, .st [.u256, .u256, .bool])], [⟨[(1004, 1004)], []⟩]⟩)]
def ref06SignL0E : LEntry := mkL ref06SignL0Y ref06SignL0Z fun p => ref06SignL0 p.1 p.2.1 p.2.2.1 p.2.2.2
def ref06SignX : Cx := mkCx Tryz.prog 41 globsF [(10, ref06FitE), (11, ref06NonceE), (12, ref06SignWithE)] [(5, ref06SignL0E)] []
theorem ref06SignC : CxOk ref06SignX (Glob globsF) := cx_ok (by kernel_rfl) (by kernel_rfl) ⟨ref06FitK, ref06NonceK, ref06SignWithK, trivial⟩
theorem ref06SignL0K (w0 : Ini) (hG : Glob globsF w0) : LoopOk ref06SignX w0 (loopAt Tryz.f5 0) ref06SignL0E :=
 loop_okH ref06SignC hG (loopAt Tryz.f5 0) (lall_of lall_nil (by kernel_rfl : loopsOf (loopAt Tryz.f5 0) = _))
  ref06SignL0Y ref06SignL0Z (by kernel_rfl) (fun p => ref06SignL0R p.1 p.2.1 p.2.2.1 p.2.2.2) (fun p => 1000) (fun p => by kernel_rfl) _ (fun p => ref06SignL0_eq p.1 p.2.1 p.2.2.1 p.2.2.2)
theorem ref06SignK : CallOk Tryz.prog (Glob globsF) 5 ref06SignE :=
 fun_ok (cx := ref06SignX) ref06SignC (fn := Tryz.f5) Tryz.func5 (by kernel_rfl) Tryz.ntmps5 Tryz.call5 _ _ _ (by kernel_rfl) (by kernel_rfl) (by kernel_rfl)
  (fun w0 hG => lall_of (lall_cut (b := loopAt Tryz.f5 0) (ref06SignL0K w0 hG) (by kernel_rfl) (lall_nil)) (by kernel_rfl : loopsOf (bodyOf Tryz.f5) = _)) (fun p => Eq.trans (b := ref06SignB p.1 p.2) (by kernel_rfl) (ref06Sign_eq p.1 p.2).symm)
def law06EcdsaSignsE : Entry := mkE [.u256, .arr (.int .u8) 32] [.bool] fun p => law06EcdsaSigns p.1 p.2
def law06EcdsaSignsX : Cx := mkCx Tryz.prog 30 globsG [(4, ecdsaSignE), (5, ref06SignE), (6, law06INumE)] [] []
theorem law06EcdsaSignsC : CxOk law06EcdsaSignsX (Glob globsG) := cx_ok (by kernel_rfl) (by kernel_rfl) ⟨ecdsaSignK, (ref06SignK.up globsF_globsG), (law06INumK.up globsF_globsG), trivial⟩
theorem law06EcdsaSignsK : CallOk Tryz.prog (Glob globsG) 3 law06EcdsaSignsE :=
 fun_ok (cx := law06EcdsaSignsX) law06EcdsaSignsC (fn := Tryz.f3) Tryz.func3 (by kernel_rfl) Tryz.ntmps3 Tryz.call3 _ _ _ (by kernel_rfl) (by kernel_rfl) (by kernel_rfl)
  (fun w0 hG => lall_of lall_nil (by kernel_rfl : loopsOf (bodyOf Tryz.f3) = _)) (fun p => Eq.trans (b := law06EcdsaSignsB p.1 p.2) (by kernel_rfl) (law06EcdsaSigns_eq p.1 p.2).symm)
end Go.Sy
