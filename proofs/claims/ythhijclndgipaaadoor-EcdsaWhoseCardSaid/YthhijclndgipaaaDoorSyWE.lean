/- The links: each typed function is what the code computes. Printed by a program. -/
import Derived.Test.YthhijclndgipaaaDoorSyVE
import Derived.Test.YthhijclndgipaaaDoorSyWC2
set_option linter.unusedVariables false
set_option maxRecDepth 100000
namespace Go.Sy
open Go Go.Proofs

noncomputable def ecdsaINumberE : Entry := mkE [.arr (.int .u8) 32] [.u256] fun p => ecdsaINumber p

noncomputable def ecdsaINumberX : Cx := mkCx Tryd.prog 19 globsF [(33, u256GetE), (61, fieldReduceE)] [] []
theorem ecdsaINumberC : CxOk ecdsaINumberX (Glob globsF) := cx_ok (by kernel_rfl) (by kernel_rfl) ⟨u256GetK, fieldReduceK, trivial⟩
theorem ecdsaINumberK : CallOk Tryd.prog (Glob globsF) 45 ecdsaINumberE :=
  fun_ok (cx := ecdsaINumberX) ecdsaINumberC (fn := Tryd.f45) Tryd.func45 (by kernel_rfl) Tryd.ntmps45 Tryd.call45 _ _ _ (by kernel_rfl) (by kernel_rfl) (by kernel_rfl)
    (fun w0 hG => lall_of lall_nil (by kernel_rfl : loopsOf (bodyOf Tryd.f45) = _)) (fun p => Eq.trans (b := ecdsaINumberB p) (by kernel_rfl) (ecdsaINumber_eq p).symm)

noncomputable def ecdsaSignWithE : Entry := mkE [.u256, .u256, .arr (.int .u8) 32] [.st [.u256, .u256, .bool], .int .i64] fun p => ecdsaSignWith p.1 p.2.1 p.2.2

noncomputable def ecdsaSignWithX : Cx := mkCx Tryd.prog 92 globsG [(21, curveMulGE), (35, ecdsaIFitE), (36, ecdsaILowE), (41, u256CmpE), (42, ecdsaIOrderE), (43, fieldMulE), (44, fieldAddE), (45, ecdsaINumberE), (46, fieldInverseE), (47, u256BitE), (48, fieldNegE)] [] []
theorem ecdsaSignWithC : CxOk ecdsaSignWithX (Glob globsG) := cx_ok (by kernel_rfl) (by kernel_rfl) ⟨curveMulGK, (ecdsaIFitK.up globsFG), (ecdsaILowK.up globsFG), (u256CmpK.up globsFG), (ecdsaIOrderK.up globsFG), (fieldMulK.up globsFG), (fieldAddK.up globsFG), (ecdsaINumberK.up globsFG), (fieldInverseK.up globsFG), (u256BitK.up globsFG), (fieldNegK.up globsFG), trivial⟩
theorem ecdsaSignWithK : CallOk Tryd.prog (Glob globsG) 19 ecdsaSignWithE :=
  fun_ok (cx := ecdsaSignWithX) ecdsaSignWithC (fn := Tryd.f19) Tryd.func19 (by kernel_rfl) Tryd.ntmps19 Tryd.call19 _ _ _ (by kernel_rfl) (by kernel_rfl) (by kernel_rfl)
    (fun w0 hG => lall_of lall_nil (by kernel_rfl : loopsOf (bodyOf Tryd.f19) = _)) (fun p => Eq.trans (b := ecdsaSignWithB p.1 p.2.1 p.2.2) (by kernel_rfl) (ecdsaSignWith_eq p.1 p.2.1 p.2.2).symm)

noncomputable def law06IFitE : Entry := mkE [.u256] [.bool] fun p => law06IFit p

noncomputable def law06IFitX : Cx := mkCx Tryd.prog 22 globsF [(26, fieldModulusE), (41, u256CmpE)] [] []
theorem law06IFitC : CxOk law06IFitX (Glob globsF) := cx_ok (by kernel_rfl) (by kernel_rfl) ⟨fieldModulusK, u256CmpK, trivial⟩
theorem law06IFitK : CallOk Tryd.prog (Glob globsF) 20 law06IFitE :=
  fun_ok (cx := law06IFitX) law06IFitC (fn := Tryd.f20) Tryd.func20 (by kernel_rfl) Tryd.ntmps20 Tryd.call20 _ _ _ (by kernel_rfl) (by kernel_rfl) (by kernel_rfl)
    (fun w0 hG => lall_of lall_nil (by kernel_rfl : loopsOf (bodyOf Tryd.f20) = _)) (fun p => Eq.trans (b := law06IFitB p) (by kernel_rfl) (law06IFit_eq p).symm)

noncomputable def law06IPlusE : Entry := mkE [.u256, .u256] [.u256] fun p => law06IPlus p.1 p.2

noncomputable def law06IPlusX : Cx := mkCx Tryd.prog 14 globsF [(44, fieldAddE)] [] []
theorem law06IPlusC : CxOk law06IPlusX (Glob globsF) := cx_ok (by kernel_rfl) (by kernel_rfl) ⟨fieldAddK, trivial⟩
theorem law06IPlusK : CallOk Tryd.prog (Glob globsF) 22 law06IPlusE :=
  fun_ok (cx := law06IPlusX) law06IPlusC (fn := Tryd.f22) Tryd.func22 (by kernel_rfl) Tryd.ntmps22 Tryd.call22 _ _ _ (by kernel_rfl) (by kernel_rfl) (by kernel_rfl)
    (fun w0 hG => lall_of lall_nil (by kernel_rfl : loopsOf (bodyOf Tryd.f22) = _)) (fun p => Eq.trans (b := law06IPlusB p.1 p.2) (by kernel_rfl) (law06IPlus_eq p.1 p.2).symm)

noncomputable def law06INumberE : Entry := mkE [.arr (.int .u8) 32] [.u256] fun p => law06INumber p

noncomputable def law06INumberX : Cx := mkCx Tryd.prog 13 globsF [(22, law06IPlusE), (33, u256GetE)] [] []
theorem law06INumberC : CxOk law06INumberX (Glob globsF) := cx_ok (by kernel_rfl) (by kernel_rfl) ⟨law06IPlusK, u256GetK, trivial⟩
theorem law06INumberK : CallOk Tryd.prog (Glob globsF) 23 law06INumberE :=
  fun_ok (cx := law06INumberX) law06INumberC (fn := Tryd.f23) Tryd.func23 (by kernel_rfl) Tryd.ntmps23 Tryd.call23 _ _ _ (by kernel_rfl) (by kernel_rfl) (by kernel_rfl)
    (fun w0 hG => lall_of lall_nil (by kernel_rfl : loopsOf (bodyOf Tryd.f23) = _)) (fun p => Eq.trans (b := law06INumberB p) (by kernel_rfl) (law06INumber_eq p).symm)

noncomputable def law06ITimesE : Entry := mkE [.u256, .u256] [.u256] fun p => law06ITimes p.1 p.2

noncomputable def law06ITimesX : Cx := mkCx Tryd.prog 14 globsF [(43, fieldMulE)] [] []
theorem law06ITimesC : CxOk law06ITimesX (Glob globsF) := cx_ok (by kernel_rfl) (by kernel_rfl) ⟨fieldMulK, trivial⟩
theorem law06ITimesK : CallOk Tryd.prog (Glob globsF) 24 law06ITimesE :=
  fun_ok (cx := law06ITimesX) law06ITimesC (fn := Tryd.f24) Tryd.func24 (by kernel_rfl) Tryd.ntmps24 Tryd.call24 _ _ _ (by kernel_rfl) (by kernel_rfl) (by kernel_rfl)
    (fun w0 hG => lall_of lall_nil (by kernel_rfl : loopsOf (bodyOf Tryd.f24) = _)) (fun p => Eq.trans (b := law06ITimesB p.1 p.2) (by kernel_rfl) (law06ITimes_eq p.1 p.2).symm)

noncomputable def law06INegE : Entry := mkE [.u256] [.u256] fun p => law06INeg p

noncomputable def law06INegX : Cx := mkCx Tryd.prog 11 globsF [(48, fieldNegE)] [] []
theorem law06INegC : CxOk law06INegX (Glob globsF) := cx_ok (by kernel_rfl) (by kernel_rfl) ⟨fieldNegK, trivial⟩
theorem law06INegK : CallOk Tryd.prog (Glob globsF) 25 law06INegE :=
  fun_ok (cx := law06INegX) law06INegC (fn := Tryd.f25) Tryd.func25 (by kernel_rfl) Tryd.ntmps25 Tryd.call25 _ _ _ (by kernel_rfl) (by kernel_rfl) (by kernel_rfl)
    (fun w0 hG => lall_of lall_nil (by kernel_rfl : loopsOf (bodyOf Tryd.f25) = _)) (fun p => Eq.trans (b := law06INegB p) (by kernel_rfl) (law06INeg_eq p).symm)

noncomputable def law06EcdsaTextbookE : Entry := mkE [.u256, .u256, .arr (.int .u8) 32] [.bool] fun p => law06EcdsaTextbook p.1 p.2.1 p.2.2

noncomputable def law06EcdsaTextbookX : Cx := mkCx Tryd.prog 111 globsG [(14, ecdsaCheckE), (19, ecdsaSignWithE), (20, law06IFitE), (21, curveMulGE), (22, law06IPlusE), (23, law06INumberE), (24, law06ITimesE), (25, law06INegE)] [] []
theorem law06EcdsaTextbookC : CxOk law06EcdsaTextbookX (Glob globsG) := cx_ok (by kernel_rfl) (by kernel_rfl) ⟨(ecdsaCheckK.up globsFG), ecdsaSignWithK, (law06IFitK.up globsFG), curveMulGK, (law06IPlusK.up globsFG), (law06INumberK.up globsFG), (law06ITimesK.up globsFG), (law06INegK.up globsFG), trivial⟩
theorem law06EcdsaTextbookK : CallOk Tryd.prog (Glob globsG) 5 law06EcdsaTextbookE :=
  fun_ok (cx := law06EcdsaTextbookX) law06EcdsaTextbookC (fn := Tryd.f5) Tryd.func5 (by kernel_rfl) Tryd.ntmps5 Tryd.call5 _ _ _ (by kernel_rfl) (by kernel_rfl) (by kernel_rfl)
    (fun w0 hG => lall_of lall_nil (by kernel_rfl : loopsOf (bodyOf Tryd.f5) = _)) (fun p => Eq.trans (b := law06EcdsaTextbookB p.1 p.2.1 p.2.2) (by kernel_rfl) (law06EcdsaTextbook_eq p.1 p.2.1 p.2.2).symm)

noncomputable def law06EcdsaTurnedE : Entry := mkE [.u256, .u256, .arr (.int .u8) 32] [.bool] fun p => law06EcdsaTurned p.1 p.2.1 p.2.2

noncomputable def law06EcdsaTurnedX : Cx := mkCx Tryd.prog 85 globsG [(14, ecdsaCheckE), (19, ecdsaSignWithE), (20, law06IFitE), (25, law06INegE), (26, fieldModulusE)] [] []
theorem law06EcdsaTurnedC : CxOk law06EcdsaTurnedX (Glob globsG) := cx_ok (by kernel_rfl) (by kernel_rfl) ⟨(ecdsaCheckK.up globsFG), ecdsaSignWithK, (law06IFitK.up globsFG), (law06INegK.up globsFG), (fieldModulusK.up globsFG), trivial⟩
theorem law06EcdsaTurnedK : CallOk Tryd.prog (Glob globsG) 6 law06EcdsaTurnedE :=
  fun_ok (cx := law06EcdsaTurnedX) law06EcdsaTurnedC (fn := Tryd.f6) Tryd.func6 (by kernel_rfl) Tryd.ntmps6 Tryd.call6 _ _ _ (by kernel_rfl) (by kernel_rfl) (by kernel_rfl)
    (fun w0 hG => lall_of lall_nil (by kernel_rfl : loopsOf (bodyOf Tryd.f6) = _)) (fun p => Eq.trans (b := law06EcdsaTurnedB p.1 p.2.1 p.2.2) (by kernel_rfl) (law06EcdsaTurned_eq p.1 p.2.1 p.2.2).symm)

noncomputable def ecdsaRecoverE : Entry := mkE [.arr (.int .u8) 32, .st [.u256, .u256, .bool]] [.st [.u256, .u256, .bool], .int .i64] fun p => ecdsaRecover p.1 p.2

noncomputable def ecdsaRecoverX : Cx := mkCx Tryd.prog 77 globsG [(14, ecdsaCheckE), (28, curveLiftE), (30, curveMulAddE), (43, fieldMulE), (45, ecdsaINumberE), (46, fieldInverseE), (48, fieldNegE)] [] []
theorem ecdsaRecoverC : CxOk ecdsaRecoverX (Glob globsG) := cx_ok (by kernel_rfl) (by kernel_rfl) ⟨(ecdsaCheckK.up globsFG), (curveLiftK.up globsFG), curveMulAddK, (fieldMulK.up globsFG), (ecdsaINumberK.up globsFG), (fieldInverseK.up globsFG), (fieldNegK.up globsFG), trivial⟩
theorem ecdsaRecoverK : CallOk Tryd.prog (Glob globsG) 27 ecdsaRecoverE :=
  fun_ok (cx := ecdsaRecoverX) ecdsaRecoverC (fn := Tryd.f27) Tryd.func27 (by kernel_rfl) Tryd.ntmps27 Tryd.call27 _ _ _ (by kernel_rfl) (by kernel_rfl) (by kernel_rfl)
    (fun w0 hG => lall_of lall_nil (by kernel_rfl : loopsOf (bodyOf Tryd.f27) = _)) (fun p => Eq.trans (b := ecdsaRecoverB p.1 p.2) (by kernel_rfl) (ecdsaRecover_eq p.1 p.2).symm)

noncomputable def ecdsaVerifyE : Entry := mkE [.st [.u256, .u256, .bool], .arr (.int .u8) 32, .st [.u256, .u256, .bool]] [.bool, .int .i64] fun p => ecdsaVerify p.1 p.2.1 p.2.2

noncomputable def ecdsaVerifyX : Cx := mkCx Tryd.prog 76 globsG [(14, ecdsaCheckE), (30, curveMulAddE), (43, fieldMulE), (45, ecdsaINumberE), (46, fieldInverseE), (57, curveOnE), (61, fieldReduceE)] [] []
theorem ecdsaVerifyC : CxOk ecdsaVerifyX (Glob globsG) := cx_ok (by kernel_rfl) (by kernel_rfl) ⟨(ecdsaCheckK.up globsFG), curveMulAddK, (fieldMulK.up globsFG), (ecdsaINumberK.up globsFG), (fieldInverseK.up globsFG), (curveOnK.up globsFG), (fieldReduceK.up globsFG), trivial⟩
theorem ecdsaVerifyK : CallOk Tryd.prog (Glob globsG) 31 ecdsaVerifyE :=
  fun_ok (cx := ecdsaVerifyX) ecdsaVerifyC (fn := Tryd.f31) Tryd.func31 (by kernel_rfl) Tryd.ntmps31 Tryd.call31 _ _ _ (by kernel_rfl) (by kernel_rfl) (by kernel_rfl)
    (fun w0 hG => lall_of lall_nil (by kernel_rfl : loopsOf (bodyOf Tryd.f31) = _)) (fun p => Eq.trans (b := ecdsaVerifyB p.1 p.2.1 p.2.2) (by kernel_rfl) (ecdsaVerify_eq p.1 p.2.1 p.2.2).symm)

noncomputable def law06EcdsaRecoveredE : Entry := mkE [.arr (.int .u8) 32, .st [.u256, .u256, .bool]] [.bool] fun p => law06EcdsaRecovered p.1 p.2

noncomputable def law06EcdsaRecoveredX : Cx := mkCx Tryd.prog 141 globsG [(14, ecdsaCheckE), (21, curveMulGE), (23, law06INumberE), (27, ecdsaRecoverE), (28, curveLiftE), (29, curveMulE), (30, curveMulAddE), (31, ecdsaVerifyE)] [] []
theorem law06EcdsaRecoveredC : CxOk law06EcdsaRecoveredX (Glob globsG) := cx_ok (by kernel_rfl) (by kernel_rfl) ⟨(ecdsaCheckK.up globsFG), curveMulGK, (law06INumberK.up globsFG), ecdsaRecoverK, (curveLiftK.up globsFG), (curveMulK.up globsFG), curveMulAddK, ecdsaVerifyK, trivial⟩
theorem law06EcdsaRecoveredK : CallOk Tryd.prog (Glob globsG) 7 law06EcdsaRecoveredE :=
  fun_ok (cx := law06EcdsaRecoveredX) law06EcdsaRecoveredC (fn := Tryd.f7) Tryd.func7 (by kernel_rfl) Tryd.ntmps7 Tryd.call7 _ _ _ (by kernel_rfl) (by kernel_rfl) (by kernel_rfl)
    (fun w0 hG => lall_of lall_nil (by kernel_rfl : loopsOf (bodyOf Tryd.f7) = _)) (fun p => Eq.trans (b := law06EcdsaRecoveredB p.1 p.2) (by kernel_rfl) (law06EcdsaRecovered_eq p.1 p.2).symm)

end Go.Sy
