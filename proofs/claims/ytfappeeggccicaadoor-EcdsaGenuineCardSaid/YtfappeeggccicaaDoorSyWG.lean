/- The links: each typed function is what the code computes. Printed by a program. -/

import Derived.Test.YtfappeeggccicaaDoorSyVG

import Derived.Test.YtfappeeggccicaaDoorSyWN

set_option linter.unusedVariables false

set_option maxRecDepth 100000

namespace Go.Sy

open Go Go.Proofs

noncomputable def ecdsaSignE : Entry := mkE [.u256, .arr (.int .u8) 32] [.st [.u256, .u256, .bool], .int .i64] fun p => ecdsaSign p.1 p.2

def ecdsaSignL0Y : Lay := ⟨[(false, 2, .ptr 1002 []), (false, 3, .ptr 1003 []), (false, 4, .ptr 1004 [])], [(false, 15, .int .i64), (true, 1002, .u256), (true, 1003, .arr (.int .u8) 32), (true, 1004, .st [.u256, .u256, .bool])], [⟨[(1002, 1002), (1003, 1003), (1004, 1004)], []⟩]⟩

def ecdsaSignL0Z : List (Ex × Lay) := [(.exit 0, ⟨[(false, 4, .ptr 1004 [])], [(true, 1004, .st [.u256, .u256, .bool])], [⟨[(1004, 1004)], []⟩]⟩), (.ret, ⟨[(false, 4, .ptr 1004 []), (false, 5, .int .i64 0)], [(true, 1004, .st [.u256, .u256, .bool])], [⟨[(1004, 1004)], []⟩]⟩)]

noncomputable def ecdsaSignL0E : LEntry := mkL ecdsaSignL0Y ecdsaSignL0Z fun p => ecdsaSignL0 p.1 p.2.1 p.2.2.1 p.2.2.2

noncomputable def ecdsaSignX : Cx := mkCx Tryd.prog 39 globsG [(31, ecdsaNonceE), (35, ecdsaSignWithE), (43, ecdsaIFitE)] [(4, ecdsaSignL0E)] []

theorem ecdsaSignC : CxOk ecdsaSignX (Glob globsG) := cx_ok (by kernel_rfl) (by kernel_rfl) ⟨(ecdsaNonceK.up globs0x2x3_globsG), (ecdsaSignWithK.up globs0x1_globsG), (ecdsaIFitK.up globsF_globsG), trivial⟩

theorem ecdsaSignL0K (w0 : Ini) (hG : Glob globsG w0) : LoopOk ecdsaSignX w0 (loopAt Tryd.f33 0) ecdsaSignL0E :=
  loop_okH ecdsaSignC hG (loopAt Tryd.f33 0) (lall_of lall_nil (by kernel_rfl : loopsOf (loopAt Tryd.f33 0) = _))
    ecdsaSignL0Y ecdsaSignL0Z (by kernel_rfl) (fun p => ecdsaSignL0R p.1 p.2.1 p.2.2.1 p.2.2.2) (fun p => 1000) (fun p => by kernel_rfl) _ (fun p => ecdsaSignL0_eq p.1 p.2.1 p.2.2.1 p.2.2.2)

theorem ecdsaSignK : CallOk Tryd.prog (Glob globsG) 33 ecdsaSignE :=
  fun_ok (cx := ecdsaSignX) ecdsaSignC (fn := Tryd.f33) Tryd.func33 (by kernel_rfl) Tryd.ntmps33 Tryd.call33 _ _ _ (by kernel_rfl) (by kernel_rfl) (by kernel_rfl)
    (fun w0 hG => lall_of (lall_cut (b := loopAt Tryd.f33 0) (ecdsaSignL0K w0 hG) (by kernel_rfl) (lall_nil)) (by kernel_rfl : loopsOf (bodyOf Tryd.f33) = _)) (fun p => Eq.trans (b := ecdsaSignB p.1 p.2) (by kernel_rfl) (ecdsaSign_eq p.1 p.2).symm)

noncomputable def law06EcdsaGenuineE : Entry := mkE [.u256, .arr (.int .u8) 32] [.bool] fun p => law06EcdsaGenuine p.1 p.2

def law06EcdsaGenuineL0Y : Lay := ⟨[(false, 2, .ptr 1002 []), (false, 3, .ptr 1003 []), (false, 5, .ptr 1005 [])], [(false, 6, .int .i64), (false, 7, .int .i64), (true, 1002, .u256), (true, 1003, .arr (.int .u8) 32), (true, 1005, .st [.u256, .u256, .bool])], [⟨[(1002, 1002), (1003, 1003), (1005, 1005)], []⟩]⟩

def law06EcdsaGenuineL0Z : List (Ex × Lay) := [(.ret, ⟨[], [(false, 4, .bool)], [⟨[], []⟩]⟩), (.exit 0, ⟨[], [(false, 6, .int .i64)], [⟨[], []⟩]⟩)]

noncomputable def law06EcdsaGenuineL0E : LEntry := mkL law06EcdsaGenuineL0Y law06EcdsaGenuineL0Z fun p => law06EcdsaGenuineL0 p.1 p.2.1 p.2.2.1 p.2.2.2.1 p.2.2.2.2

noncomputable def law06EcdsaGenuineX : Cx := mkCx Tryd.prog 94 globsG [(31, ecdsaNonceE), (33, ecdsaSignE), (34, law06IFitE), (35, ecdsaSignWithE), (36, ecdsaRecoverE), (37, curveMulGE)] [(5, law06EcdsaGenuineL0E)] []

theorem law06EcdsaGenuineC : CxOk law06EcdsaGenuineX (Glob globsG) := cx_ok (by kernel_rfl) (by kernel_rfl) ⟨(ecdsaNonceK.up globs0x2x3_globsG), ecdsaSignK, (law06IFitK.up globsF_globsG), (ecdsaSignWithK.up globs0x1_globsG), (ecdsaRecoverK.up globs0x1_globsG), (curveMulGK.up globs0x1_globsG), trivial⟩

theorem law06EcdsaGenuineL0K (w0 : Ini) (hG : Glob globsG w0) : LoopOk law06EcdsaGenuineX w0 (loopAt Tryd.f8 0) law06EcdsaGenuineL0E :=
  loop_okH law06EcdsaGenuineC hG (loopAt Tryd.f8 0) (lall_of lall_nil (by kernel_rfl : loopsOf (loopAt Tryd.f8 0) = _))
    law06EcdsaGenuineL0Y law06EcdsaGenuineL0Z (by kernel_rfl) (fun p => law06EcdsaGenuineL0R p.1 p.2.1 p.2.2.1 p.2.2.2.1 p.2.2.2.2) (fun p => 1000) (fun p => by kernel_rfl) _ (fun p => law06EcdsaGenuineL0_eq p.1 p.2.1 p.2.2.1 p.2.2.2.1 p.2.2.2.2)

theorem law06EcdsaGenuineK : CallOk Tryd.prog (Glob globsG) 8 law06EcdsaGenuineE :=
  fun_ok (cx := law06EcdsaGenuineX) law06EcdsaGenuineC (fn := Tryd.f8) Tryd.func8 (by kernel_rfl) Tryd.ntmps8 Tryd.call8 _ _ _ (by kernel_rfl) (by kernel_rfl) (by kernel_rfl)
    (fun w0 hG => lall_of (lall_cut (b := loopAt Tryd.f8 0) (law06EcdsaGenuineL0K w0 hG) (by kernel_rfl) (lall_nil)) (by kernel_rfl : loopsOf (bodyOf Tryd.f8) = _)) (fun p => Eq.trans (b := law06EcdsaGenuineB p.1 p.2) (by kernel_rfl) (law06EcdsaGenuine_eq p.1 p.2).symm)

end Go.Sy
