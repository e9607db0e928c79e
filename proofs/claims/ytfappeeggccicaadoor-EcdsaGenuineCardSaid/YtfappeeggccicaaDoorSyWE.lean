/- The links: each typed function is what the code computes. Printed by a program. -/

import Derived.Test.YtfappeeggccicaaDoorSyVE

import Derived.Test.YtfappeeggccicaaDoorSyWC3

set_option linter.unusedVariables false

set_option maxRecDepth 100000

namespace Go.Sy

open Go Go.Proofs

noncomputable def ecdsaINumberE : Entry := mkE [.arr (.int .u8) 32] [.u256] fun p => ecdsaINumber p

noncomputable def ecdsaINumberX : Cx := mkCx Tryd.prog 19 globsF [(41, u256GetE), (98, fieldReduceE)] [] []

theorem ecdsaINumberC : CxOk ecdsaINumberX (Glob globsF) := cx_ok (by kernel_rfl) (by kernel_rfl) ⟨u256GetK, fieldReduceK, trivial⟩

theorem ecdsaINumberK : CallOk Tryd.prog (Glob globsF) 63 ecdsaINumberE :=
  fun_ok (cx := ecdsaINumberX) ecdsaINumberC (fn := Tryd.f63) Tryd.func63 (by kernel_rfl) Tryd.ntmps63 Tryd.call63 _ _ _ (by kernel_rfl) (by kernel_rfl) (by kernel_rfl)
    (fun w0 hG => lall_of lall_nil (by kernel_rfl : loopsOf (bodyOf Tryd.f63) = _)) (fun p => Eq.trans (b := ecdsaINumberB p) (by kernel_rfl) (ecdsaINumber_eq p).symm)

noncomputable def ecdsaSignWithE : Entry := mkE [.u256, .u256, .arr (.int .u8) 32] [.st [.u256, .u256, .bool], .int .i64] fun p => ecdsaSignWith p.1 p.2.1 p.2.2

noncomputable def ecdsaSignWithX : Cx := mkCx Tryd.prog 92 globs0x1 [(37, curveMulGE), (43, ecdsaIFitE), (44, ecdsaILowE), (59, u256CmpE), (60, ecdsaIOrderE), (61, fieldMulE), (62, fieldAddE), (63, ecdsaINumberE), (64, fieldInverseE), (65, u256BitE), (66, fieldNegE)] [] []

theorem ecdsaSignWithC : CxOk ecdsaSignWithX (Glob globs0x1) := cx_ok (by kernel_rfl) (by kernel_rfl) ⟨curveMulGK, (ecdsaIFitK.up globsF_globs0x1), (ecdsaILowK.up globsF_globs0x1), (u256CmpK.up globsF_globs0x1), (ecdsaIOrderK.up globsF_globs0x1), (fieldMulK.up globsF_globs0x1), (fieldAddK.up globsF_globs0x1), (ecdsaINumberK.up globsF_globs0x1), (fieldInverseK.up globsF_globs0x1), (u256BitK.up globsF_globs0x1), (fieldNegK.up globsF_globs0x1), trivial⟩

theorem ecdsaSignWithK : CallOk Tryd.prog (Glob globs0x1) 35 ecdsaSignWithE :=
  fun_ok (cx := ecdsaSignWithX) ecdsaSignWithC (fn := Tryd.f35) Tryd.func35 (by kernel_rfl) Tryd.ntmps35 Tryd.call35 _ _ _ (by kernel_rfl) (by kernel_rfl) (by kernel_rfl)
    (fun w0 hG => lall_of lall_nil (by kernel_rfl : loopsOf (bodyOf Tryd.f35) = _)) (fun p => Eq.trans (b := ecdsaSignWithB p.1 p.2.1 p.2.2) (by kernel_rfl) (ecdsaSignWith_eq p.1 p.2.1 p.2.2).symm)

noncomputable def ecdsaRecoverE : Entry := mkE [.arr (.int .u8) 32, .st [.u256, .u256, .bool]] [.st [.u256, .u256, .bool], .int .i64] fun p => ecdsaRecover p.1 p.2

noncomputable def ecdsaRecoverX : Cx := mkCx Tryd.prog 77 globs0x1 [(19, ecdsaCheckE), (61, fieldMulE), (63, ecdsaINumberE), (64, fieldInverseE), (66, fieldNegE), (67, curveLiftE), (68, curveMulAddE)] [] []

theorem ecdsaRecoverC : CxOk ecdsaRecoverX (Glob globs0x1) := cx_ok (by kernel_rfl) (by kernel_rfl) ⟨(ecdsaCheckK.up globsF_globs0x1), (fieldMulK.up globsF_globs0x1), (ecdsaINumberK.up globsF_globs0x1), (fieldInverseK.up globsF_globs0x1), (fieldNegK.up globsF_globs0x1), (curveLiftK.up globsF_globs0x1), curveMulAddK, trivial⟩

theorem ecdsaRecoverK : CallOk Tryd.prog (Glob globs0x1) 36 ecdsaRecoverE :=
  fun_ok (cx := ecdsaRecoverX) ecdsaRecoverC (fn := Tryd.f36) Tryd.func36 (by kernel_rfl) Tryd.ntmps36 Tryd.call36 _ _ _ (by kernel_rfl) (by kernel_rfl) (by kernel_rfl)
    (fun w0 hG => lall_of lall_nil (by kernel_rfl : loopsOf (bodyOf Tryd.f36) = _)) (fun p => Eq.trans (b := ecdsaRecoverB p.1 p.2) (by kernel_rfl) (ecdsaRecover_eq p.1 p.2).symm)

noncomputable def law06IFitE : Entry := mkE [.u256] [.bool] fun p => law06IFit p

noncomputable def law06IFitX : Cx := mkCx Tryd.prog 22 globsF [(58, fieldModulusE), (59, u256CmpE)] [] []

theorem law06IFitC : CxOk law06IFitX (Glob globsF) := cx_ok (by kernel_rfl) (by kernel_rfl) ⟨fieldModulusK, u256CmpK, trivial⟩

theorem law06IFitK : CallOk Tryd.prog (Glob globsF) 34 law06IFitE :=
  fun_ok (cx := law06IFitX) law06IFitC (fn := Tryd.f34) Tryd.func34 (by kernel_rfl) Tryd.ntmps34 Tryd.call34 _ _ _ (by kernel_rfl) (by kernel_rfl) (by kernel_rfl)
    (fun w0 hG => lall_of lall_nil (by kernel_rfl : loopsOf (bodyOf Tryd.f34) = _)) (fun p => Eq.trans (b := law06IFitB p) (by kernel_rfl) (law06IFit_eq p).symm)

end Go.Sy
