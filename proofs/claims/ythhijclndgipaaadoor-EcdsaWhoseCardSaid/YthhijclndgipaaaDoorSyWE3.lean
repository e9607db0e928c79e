/- The links: each typed function is what the code computes. Printed by a program. -/
import Derived.Test.YthhijclndgipaaaDoorSyVE3
import Derived.Test.YthhijclndgipaaaDoorSyWE
set_option linter.unusedVariables false
set_option maxRecDepth 100000
namespace Go.Sy
open Go Go.Proofs

def ecdsaPackI : Lay := ⟨[], [(false, 0, .st [.u256, .u256, .bool])], [⟨[], []⟩]⟩
def ecdsaPackO : Lay := ⟨[(false, 0, .own 1000 (.int .u8))], [(false, 1, .int .i64), (true, 1000, .row (.int .u8))], [⟨[], [(false, 0, [], 1000)]⟩, ⟨[(1000, 1026)], []⟩]⟩
noncomputable def ecdsaPackE : Entry := mkB 1 2 0 [false] ecdsaPackI ecdsaPackO (fun p => ecdsaPack p)

noncomputable def ecdsaPackX : Cx := mkCx Tryd.prog 27 globsF [(14, ecdsaCheckE), (34, u256PutE)] [] []
theorem ecdsaPackC : CxOk ecdsaPackX (Glob globsF) := cx_ok (by kernel_rfl) (by kernel_rfl) ⟨ecdsaCheckK, u256PutK, trivial⟩
theorem ecdsaPackK : CallOk Tryd.prog (Glob globsF) 12 ecdsaPackE :=
  fun_okB (cx := ecdsaPackX) ecdsaPackC (fn := Tryd.f12) Tryd.func12 (by kernel_rfl) Tryd.ntmps12 Tryd.call12 _ _ _ _ _ _ _ (by kernel_rfl) (by kernel_rfl) (by kernel_rfl)
    (fun w0 hG => lall_of lall_nil (by kernel_rfl : loopsOf (bodyOf Tryd.f12) = _)) (fun p => Eq.trans (b := ecdsaPackB p) (by kernel_rfl) (ecdsaPack_eq p).symm)

noncomputable def ecdsaUnpackE : Entry := mkE [.isl false (.int .u8)] [.st [.u256, .u256, .bool], .int .i64] fun p => ecdsaUnpack p

noncomputable def ecdsaUnpackX : Cx := mkCx Tryd.prog 44 globsF [(14, ecdsaCheckE), (33, u256GetE)] [] []
theorem ecdsaUnpackC : CxOk ecdsaUnpackX (Glob globsF) := cx_ok (by kernel_rfl) (by kernel_rfl) ⟨ecdsaCheckK, u256GetK, trivial⟩
theorem ecdsaUnpackK : CallOk Tryd.prog (Glob globsF) 10 ecdsaUnpackE :=
  fun_ok (cx := ecdsaUnpackX) ecdsaUnpackC (fn := Tryd.f10) Tryd.func10 (by kernel_rfl) Tryd.ntmps10 Tryd.call10 _ _ _ (by kernel_rfl) (by kernel_rfl) (by kernel_rfl)
    (fun w0 hG => lall_of lall_nil (by kernel_rfl : loopsOf (bodyOf Tryd.f10) = _)) (fun p => Eq.trans (b := ecdsaUnpackB p) (by kernel_rfl) (ecdsaUnpack_eq p).symm)

noncomputable def law06EcdsaWhoseE : Entry := mkE [.u256, .u256, .arr (.int .u8) 32] [.bool] fun p => law06EcdsaWhose p.1 p.2.1 p.2.2

noncomputable def law06EcdsaWhoseX : Cx := mkCx Tryd.prog 103 globsG [(10, ecdsaUnpackE), (12, ecdsaPackE), (19, ecdsaSignWithE), (20, law06IFitE), (21, curveMulGE), (27, ecdsaRecoverE), (31, ecdsaVerifyE)] [] []
theorem law06EcdsaWhoseC : CxOk law06EcdsaWhoseX (Glob globsG) := cx_ok (by kernel_rfl) (by kernel_rfl) ⟨(ecdsaUnpackK.up globsFG), (ecdsaPackK.up globsFG), ecdsaSignWithK, (law06IFitK.up globsFG), curveMulGK, ecdsaRecoverK, ecdsaVerifyK, trivial⟩
theorem law06EcdsaWhoseK : CallOk Tryd.prog (Glob globsG) 8 law06EcdsaWhoseE :=
  fun_ok (cx := law06EcdsaWhoseX) law06EcdsaWhoseC (fn := Tryd.f8) Tryd.func8 (by kernel_rfl) Tryd.ntmps8 Tryd.call8 _ _ _ (by kernel_rfl) (by kernel_rfl) (by kernel_rfl)
    (fun w0 hG => lall_of lall_nil (by kernel_rfl : loopsOf (bodyOf Tryd.f8) = _)) (fun p => Eq.trans (b := law06EcdsaWhoseB p.1 p.2.1 p.2.2) (by kernel_rfl) (law06EcdsaWhose_eq p.1 p.2.1 p.2.2).symm)

end Go.Sy
