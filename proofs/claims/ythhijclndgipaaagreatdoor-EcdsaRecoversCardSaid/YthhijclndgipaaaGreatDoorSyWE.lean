/- The links: each typed function is what the code computes. Printed by a program. -/
import Derived.Test.YthhijclndgipaaaGreatDoorSyVE
import Derived.Test.YthhijclndgipaaaGreatDoorSyWC2
set_option linter.unusedVariables false
set_option maxRecDepth 100000
namespace Go.Sy
open Go Go.Proofs

noncomputable def ecdsaINumberE : Entry := mkE [.arr (.int .u8) 32] [.u256] fun p => ecdsaINumber p

noncomputable def ecdsaINumberX : Cx := mkCx Tryz.prog 19 globsF [(34, fieldReduceE), (55, u256GetE)] [] []
theorem ecdsaINumberC : CxOk ecdsaINumberX (Glob globsF) := cx_ok (by kernel_rfl) (by kernel_rfl) ⟨fieldReduceK, u256GetK, trivial⟩
theorem ecdsaINumberK : CallOk Tryz.prog (Glob globsF) 22 ecdsaINumberE :=
  fun_ok (cx := ecdsaINumberX) ecdsaINumberC (fn := Tryz.f22) Tryz.func22 (by kernel_rfl) Tryz.ntmps22 Tryz.call22 _ _ _ (by kernel_rfl) (by kernel_rfl) (by kernel_rfl)
    (fun w0 hG => lall_of lall_nil (by kernel_rfl : loopsOf (bodyOf Tryz.f22) = _)) (fun p => Eq.trans (b := ecdsaINumberB p) (by kernel_rfl) (ecdsaINumber_eq p).symm)

noncomputable def ecdsaSignWithE : Entry := mkE [.u256, .u256, .arr (.int .u8) 32] [.st [.u256, .u256, .bool], .int .i64] fun p => ecdsaSignWith p.1 p.2.1 p.2.2

noncomputable def ecdsaSignWithX : Cx := mkCx Tryz.prog 92 globsG [(16, ecdsaIFitE), (17, curveMulGE), (18, u256CmpE), (19, ecdsaIOrderE), (20, fieldMulE), (21, fieldAddE), (22, ecdsaINumberE), (23, fieldInverseE), (24, u256BitE), (25, ecdsaILowE), (26, fieldNegE)] [] []
theorem ecdsaSignWithC : CxOk ecdsaSignWithX (Glob globsG) := cx_ok (by kernel_rfl) (by kernel_rfl) ⟨(ecdsaIFitK.up globsFG), curveMulGK, (u256CmpK.up globsFG), (ecdsaIOrderK.up globsFG), (fieldMulK.up globsFG), (fieldAddK.up globsFG), (ecdsaINumberK.up globsFG), (fieldInverseK.up globsFG), (u256BitK.up globsFG), (ecdsaILowK.up globsFG), (fieldNegK.up globsFG), trivial⟩
theorem ecdsaSignWithK : CallOk Tryz.prog (Glob globsG) 7 ecdsaSignWithE :=
  fun_ok (cx := ecdsaSignWithX) ecdsaSignWithC (fn := Tryz.f7) Tryz.func7 (by kernel_rfl) Tryz.ntmps7 Tryz.call7 _ _ _ (by kernel_rfl) (by kernel_rfl) (by kernel_rfl)
    (fun w0 hG => lall_of lall_nil (by kernel_rfl : loopsOf (bodyOf Tryz.f7) = _)) (fun p => Eq.trans (b := ecdsaSignWithB p.1 p.2.1 p.2.2) (by kernel_rfl) (ecdsaSignWith_eq p.1 p.2.1 p.2.2).symm)

noncomputable def ref06NumberE : Entry := mkE [.arr (.int .u8) 32] [.u256] fun p => ref06Number p

noncomputable def ref06NumberX : Cx := mkCx Tryz.prog 19 globsF [(41, ref04ReduceE), (81, ref01GetE)] [] []
theorem ref06NumberC : CxOk ref06NumberX (Glob globsF) := cx_ok (by kernel_rfl) (by kernel_rfl) ⟨ref04ReduceK, ref01GetK, trivial⟩
theorem ref06NumberK : CallOk Tryz.prog (Glob globsF) 38 ref06NumberE :=
  fun_ok (cx := ref06NumberX) ref06NumberC (fn := Tryz.f38) Tryz.func38 (by kernel_rfl) Tryz.ntmps38 Tryz.call38 _ _ _ (by kernel_rfl) (by kernel_rfl) (by kernel_rfl)
    (fun w0 hG => lall_of lall_nil (by kernel_rfl : loopsOf (bodyOf Tryz.f38) = _)) (fun p => Eq.trans (b := ref06NumberB p) (by kernel_rfl) (ref06Number_eq p).symm)

noncomputable def ref06ITimesE : Entry := mkE [.u256, .u256] [.u256] fun p => ref06ITimes p.1 p.2

noncomputable def ref06ITimesX : Cx := mkCx Tryz.prog 14 globsF [(86, ref04MulE)] [] []
theorem ref06ITimesC : CxOk ref06ITimesX (Glob globsF) := cx_ok (by kernel_rfl) (by kernel_rfl) ⟨ref04MulK, trivial⟩
theorem ref06ITimesK : CallOk Tryz.prog (Glob globsF) 40 ref06ITimesE :=
  fun_ok (cx := ref06ITimesX) ref06ITimesC (fn := Tryz.f40) Tryz.func40 (by kernel_rfl) Tryz.ntmps40 Tryz.call40 _ _ _ (by kernel_rfl) (by kernel_rfl) (by kernel_rfl)
    (fun w0 hG => lall_of lall_nil (by kernel_rfl : loopsOf (bodyOf Tryz.f40) = _)) (fun p => Eq.trans (b := ref06ITimesB p.1 p.2) (by kernel_rfl) (ref06ITimes_eq p.1 p.2).symm)

noncomputable def ref06IPlusE : Entry := mkE [.u256, .u256] [.u256] fun p => ref06IPlus p.1 p.2

noncomputable def ref06IPlusX : Cx := mkCx Tryz.prog 14 globsF [(105, ref04AddE)] [] []
theorem ref06IPlusC : CxOk ref06IPlusX (Glob globsF) := cx_ok (by kernel_rfl) (by kernel_rfl) ⟨ref04AddK, trivial⟩
theorem ref06IPlusK : CallOk Tryz.prog (Glob globsF) 62 ref06IPlusE :=
  fun_ok (cx := ref06IPlusX) ref06IPlusC (fn := Tryz.f62) Tryz.func62 (by kernel_rfl) Tryz.ntmps62 Tryz.call62 _ _ _ (by kernel_rfl) (by kernel_rfl) (by kernel_rfl)
    (fun w0 hG => lall_of lall_nil (by kernel_rfl : loopsOf (bodyOf Tryz.f62) = _)) (fun p => Eq.trans (b := ref06IPlusB p.1 p.2) (by kernel_rfl) (ref06IPlus_eq p.1 p.2).symm)

noncomputable def ref06IInverseE : Entry := mkE [.u256] [.u256] fun p => ref06IInverse p

noncomputable def ref06IInverseX : Cx := mkCx Tryz.prog 11 globsF [(80, ref04InverseE)] [] []
theorem ref06IInverseC : CxOk ref06IInverseX (Glob globsF) := cx_ok (by kernel_rfl) (by kernel_rfl) ⟨ref04InverseK, trivial⟩
theorem ref06IInverseK : CallOk Tryz.prog (Glob globsF) 37 ref06IInverseE :=
  fun_ok (cx := ref06IInverseX) ref06IInverseC (fn := Tryz.f37) Tryz.func37 (by kernel_rfl) Tryz.ntmps37 Tryz.call37 _ _ _ (by kernel_rfl) (by kernel_rfl) (by kernel_rfl)
    (fun w0 hG => lall_of lall_nil (by kernel_rfl : loopsOf (bodyOf Tryz.f37) = _)) (fun p => Eq.trans (b := ref06IInverseB p) (by kernel_rfl) (ref06IInverse_eq p).symm)

noncomputable def ref06IOddE : Entry := mkE [.u256] [.bool] fun p => ref06IOdd p

noncomputable def ref06IOddX : Cx := mkCx Tryz.prog 7 globsF [] [] []
theorem ref06IOddC : CxOk ref06IOddX (Glob globsF) := cx_ok (by kernel_rfl) (by kernel_rfl) trivial
theorem ref06IOddK : CallOk Tryz.prog (Glob globsF) 63 ref06IOddE :=
  fun_ok (cx := ref06IOddX) ref06IOddC (fn := Tryz.f63) Tryz.func63 (by kernel_rfl) Tryz.ntmps63 Tryz.call63 _ _ _ (by kernel_rfl) (by kernel_rfl) (by kernel_rfl)
    (fun w0 hG => lall_of lall_nil (by kernel_rfl : loopsOf (bodyOf Tryz.f63) = _)) (fun p => Eq.trans (b := ref06IOddB p) (by kernel_rfl) (ref06IOdd_eq p).symm)

noncomputable def ref06TextbookE : Entry := mkE [.u256, .u256, .arr (.int .u8) 32] [.st [.u256, .u256, .bool], .int .i64] fun p => ref06Textbook p.1 p.2.1 p.2.2

noncomputable def ref06TextbookX : Cx := mkCx Tryz.prog 60 globsF [(30, ref06IOrderE), (37, ref06IInverseE), (38, ref06NumberE), (40, ref06ITimesE), (46, ref06FitE), (60, ref05MulGE), (61, ref01CmpE), (62, ref06IPlusE), (63, ref06IOddE)] [] []
theorem ref06TextbookC : CxOk ref06TextbookX (Glob globsF) := cx_ok (by kernel_rfl) (by kernel_rfl) ⟨ref06IOrderK, ref06IInverseK, ref06NumberK, ref06ITimesK, ref06FitK, ref05MulGK, ref01CmpK, ref06IPlusK, ref06IOddK, trivial⟩
theorem ref06TextbookK : CallOk Tryz.prog (Glob globsF) 27 ref06TextbookE :=
  fun_ok (cx := ref06TextbookX) ref06TextbookC (fn := Tryz.f27) Tryz.func27 (by kernel_rfl) Tryz.ntmps27 Tryz.call27 _ _ _ (by kernel_rfl) (by kernel_rfl) (by kernel_rfl)
    (fun w0 hG => lall_of lall_nil (by kernel_rfl : loopsOf (bodyOf Tryz.f27) = _)) (fun p => Eq.trans (b := ref06TextbookB p.1 p.2.1 p.2.2) (by kernel_rfl) (ref06Textbook_eq p.1 p.2.1 p.2.2).symm)

noncomputable def ref06SignWithE : Entry := mkE [.u256, .u256, .arr (.int .u8) 32] [.st [.u256, .u256, .bool], .int .i64] fun p => ref06SignWith p.1 p.2.1 p.2.2

noncomputable def ref06SignWithX : Cx := mkCx Tryz.prog 43 globsF [(27, ref06TextbookE), (28, ref06LowE), (29, ref01SubE), (30, ref06IOrderE)] [] []
theorem ref06SignWithC : CxOk ref06SignWithX (Glob globsF) := cx_ok (by kernel_rfl) (by kernel_rfl) ⟨ref06TextbookK, ref06LowK, ref01SubK, ref06IOrderK, trivial⟩
theorem ref06SignWithK : CallOk Tryz.prog (Glob globsF) 8 ref06SignWithE :=
  fun_ok (cx := ref06SignWithX) ref06SignWithC (fn := Tryz.f8) Tryz.func8 (by kernel_rfl) Tryz.ntmps8 Tryz.call8 _ _ _ (by kernel_rfl) (by kernel_rfl) (by kernel_rfl)
    (fun w0 hG => lall_of lall_nil (by kernel_rfl : loopsOf (bodyOf Tryz.f8) = _)) (fun p => Eq.trans (b := ref06SignWithB p.1 p.2.1 p.2.2) (by kernel_rfl) (ref06SignWith_eq p.1 p.2.1 p.2.2).symm)

noncomputable def law06INumE : Entry := mkE [.int .i64] [.int .i64] fun p => law06INum p

noncomputable def law06INumX : Cx := mkCx Tryz.prog 4 globsF [] [] []
theorem law06INumC : CxOk law06INumX (Glob globsF) := cx_ok (by kernel_rfl) (by kernel_rfl) trivial
theorem law06INumK : CallOk Tryz.prog (Glob globsF) 9 law06INumE :=
  fun_ok (cx := law06INumX) law06INumC (fn := Tryz.f9) Tryz.func9 (by kernel_rfl) Tryz.ntmps9 Tryz.call9 _ _ _ (by kernel_rfl) (by kernel_rfl) (by kernel_rfl)
    (fun w0 hG => lall_of lall_nil (by kernel_rfl : loopsOf (bodyOf Tryz.f9) = _)) (fun p => Eq.trans (b := law06INumB p) (by kernel_rfl) (law06INum_eq p).symm)

noncomputable def law06EcdsaSignsWithE : Entry := mkE [.u256, .u256, .arr (.int .u8) 32] [.bool] fun p => law06EcdsaSignsWith p.1 p.2.1 p.2.2

noncomputable def law06EcdsaSignsWithX : Cx := mkCx Tryz.prog 34 globsG [(7, ecdsaSignWithE), (8, ref06SignWithE), (9, law06INumE)] [] []
theorem law06EcdsaSignsWithC : CxOk law06EcdsaSignsWithX (Glob globsG) := cx_ok (by kernel_rfl) (by kernel_rfl) ⟨ecdsaSignWithK, (ref06SignWithK.up globsFG), (law06INumK.up globsFG), trivial⟩
theorem law06EcdsaSignsWithK : CallOk Tryz.prog (Glob globsG) 3 law06EcdsaSignsWithE :=
  fun_ok (cx := law06EcdsaSignsWithX) law06EcdsaSignsWithC (fn := Tryz.f3) Tryz.func3 (by kernel_rfl) Tryz.ntmps3 Tryz.call3 _ _ _ (by kernel_rfl) (by kernel_rfl) (by kernel_rfl)
    (fun w0 hG => lall_of lall_nil (by kernel_rfl : loopsOf (bodyOf Tryz.f3) = _)) (fun p => Eq.trans (b := law06EcdsaSignsWithB p.1 p.2.1 p.2.2) (by kernel_rfl) (law06EcdsaSignsWith_eq p.1 p.2.1 p.2.2).symm)

noncomputable def ecdsaVerifyE : Entry := mkE [.st [.u256, .u256, .bool], .arr (.int .u8) 32, .st [.u256, .u256, .bool]] [.bool, .int .i64] fun p => ecdsaVerify p.1 p.2.1 p.2.2

noncomputable def ecdsaVerifyX : Cx := mkCx Tryz.prog 76 globsG [(20, fieldMulE), (22, ecdsaINumberE), (23, fieldInverseE), (31, curveOnE), (32, ecdsaCheckE), (33, curveMulAddE), (34, fieldReduceE)] [] []
theorem ecdsaVerifyC : CxOk ecdsaVerifyX (Glob globsG) := cx_ok (by kernel_rfl) (by kernel_rfl) ⟨(fieldMulK.up globsFG), (ecdsaINumberK.up globsFG), (fieldInverseK.up globsFG), (curveOnK.up globsFG), (ecdsaCheckK.up globsFG), curveMulAddK, (fieldReduceK.up globsFG), trivial⟩
theorem ecdsaVerifyK : CallOk Tryz.prog (Glob globsG) 10 ecdsaVerifyE :=
  fun_ok (cx := ecdsaVerifyX) ecdsaVerifyC (fn := Tryz.f10) Tryz.func10 (by kernel_rfl) Tryz.ntmps10 Tryz.call10 _ _ _ (by kernel_rfl) (by kernel_rfl) (by kernel_rfl)
    (fun w0 hG => lall_of lall_nil (by kernel_rfl : loopsOf (bodyOf Tryz.f10) = _)) (fun p => Eq.trans (b := ecdsaVerifyB p.1 p.2.1 p.2.2) (by kernel_rfl) (ecdsaVerify_eq p.1 p.2.1 p.2.2).symm)

noncomputable def ref06VerifyE : Entry := mkE [.st [.u256, .u256, .bool], .arr (.int .u8) 32, .st [.u256, .u256, .bool]] [.bool, .int .i64] fun p => ref06Verify p.1 p.2.1 p.2.2

noncomputable def ref06VerifyX : Cx := mkCx Tryz.prog 59 globsF [(35, ref05OnE), (36, ref06CheckE), (37, ref06IInverseE), (38, ref06NumberE), (39, ref05MulAddE), (40, ref06ITimesE), (41, ref04ReduceE)] [] []
theorem ref06VerifyC : CxOk ref06VerifyX (Glob globsF) := cx_ok (by kernel_rfl) (by kernel_rfl) ⟨ref05OnK, ref06CheckK, ref06IInverseK, ref06NumberK, ref05MulAddK, ref06ITimesK, ref04ReduceK, trivial⟩
theorem ref06VerifyK : CallOk Tryz.prog (Glob globsF) 11 ref06VerifyE :=
  fun_ok (cx := ref06VerifyX) ref06VerifyC (fn := Tryz.f11) Tryz.func11 (by kernel_rfl) Tryz.ntmps11 Tryz.call11 _ _ _ (by kernel_rfl) (by kernel_rfl) (by kernel_rfl)
    (fun w0 hG => lall_of lall_nil (by kernel_rfl : loopsOf (bodyOf Tryz.f11) = _)) (fun p => Eq.trans (b := ref06VerifyB p.1 p.2.1 p.2.2) (by kernel_rfl) (ref06Verify_eq p.1 p.2.1 p.2.2).symm)

noncomputable def law06EcdsaVerifiesE : Entry := mkE [.st [.u256, .u256, .bool], .arr (.int .u8) 32, .st [.u256, .u256, .bool]] [.bool] fun p => law06EcdsaVerifies p.1 p.2.1 p.2.2

noncomputable def law06EcdsaVerifiesX : Cx := mkCx Tryz.prog 34 globsG [(9, law06INumE), (10, ecdsaVerifyE), (11, ref06VerifyE)] [] []
theorem law06EcdsaVerifiesC : CxOk law06EcdsaVerifiesX (Glob globsG) := cx_ok (by kernel_rfl) (by kernel_rfl) ⟨(law06INumK.up globsFG), ecdsaVerifyK, (ref06VerifyK.up globsFG), trivial⟩
theorem law06EcdsaVerifiesK : CallOk Tryz.prog (Glob globsG) 4 law06EcdsaVerifiesE :=
  fun_ok (cx := law06EcdsaVerifiesX) law06EcdsaVerifiesC (fn := Tryz.f4) Tryz.func4 (by kernel_rfl) Tryz.ntmps4 Tryz.call4 _ _ _ (by kernel_rfl) (by kernel_rfl) (by kernel_rfl)
    (fun w0 hG => lall_of lall_nil (by kernel_rfl : loopsOf (bodyOf Tryz.f4) = _)) (fun p => Eq.trans (b := law06EcdsaVerifiesB p.1 p.2.1 p.2.2) (by kernel_rfl) (law06EcdsaVerifies_eq p.1 p.2.1 p.2.2).symm)

noncomputable def ecdsaRecoverE : Entry := mkE [.arr (.int .u8) 32, .st [.u256, .u256, .bool]] [.st [.u256, .u256, .bool], .int .i64] fun p => ecdsaRecover p.1 p.2

noncomputable def ecdsaRecoverX : Cx := mkCx Tryz.prog 77 globsG [(20, fieldMulE), (22, ecdsaINumberE), (23, fieldInverseE), (26, fieldNegE), (32, ecdsaCheckE), (33, curveMulAddE), (42, curveLiftE)] [] []
theorem ecdsaRecoverC : CxOk ecdsaRecoverX (Glob globsG) := cx_ok (by kernel_rfl) (by kernel_rfl) ⟨(fieldMulK.up globsFG), (ecdsaINumberK.up globsFG), (fieldInverseK.up globsFG), (fieldNegK.up globsFG), (ecdsaCheckK.up globsFG), curveMulAddK, (curveLiftK.up globsFG), trivial⟩
theorem ecdsaRecoverK : CallOk Tryz.prog (Glob globsG) 12 ecdsaRecoverE :=
  fun_ok (cx := ecdsaRecoverX) ecdsaRecoverC (fn := Tryz.f12) Tryz.func12 (by kernel_rfl) Tryz.ntmps12 Tryz.call12 _ _ _ (by kernel_rfl) (by kernel_rfl) (by kernel_rfl)
    (fun w0 hG => lall_of lall_nil (by kernel_rfl : loopsOf (bodyOf Tryz.f12) = _)) (fun p => Eq.trans (b := ecdsaRecoverB p.1 p.2) (by kernel_rfl) (ecdsaRecover_eq p.1 p.2).symm)

noncomputable def ref06RecoverE : Entry := mkE [.arr (.int .u8) 32, .st [.u256, .u256, .bool]] [.st [.u256, .u256, .bool], .int .i64] fun p => ref06Recover p.1 p.2

noncomputable def ref06RecoverX : Cx := mkCx Tryz.prog 58 globsF [(36, ref06CheckE), (37, ref06IInverseE), (38, ref06NumberE), (39, ref05MulAddE), (40, ref06ITimesE), (43, ref05LiftE), (44, ref04NegE)] [] []
theorem ref06RecoverC : CxOk ref06RecoverX (Glob globsF) := cx_ok (by kernel_rfl) (by kernel_rfl) ⟨ref06CheckK, ref06IInverseK, ref06NumberK, ref05MulAddK, ref06ITimesK, ref05LiftK, ref04NegK, trivial⟩
theorem ref06RecoverK : CallOk Tryz.prog (Glob globsF) 13 ref06RecoverE :=
  fun_ok (cx := ref06RecoverX) ref06RecoverC (fn := Tryz.f13) Tryz.func13 (by kernel_rfl) Tryz.ntmps13 Tryz.call13 _ _ _ (by kernel_rfl) (by kernel_rfl) (by kernel_rfl)
    (fun w0 hG => lall_of lall_nil (by kernel_rfl : loopsOf (bodyOf Tryz.f13) = _)) (fun p => Eq.trans (b := ref06RecoverB p.1 p.2) (by kernel_rfl) (ref06Recover_eq p.1 p.2).symm)

noncomputable def law06EcdsaRecoversE : Entry := mkE [.arr (.int .u8) 32, .st [.u256, .u256, .bool]] [.bool] fun p => law06EcdsaRecovers p.1 p.2

noncomputable def law06EcdsaRecoversX : Cx := mkCx Tryz.prog 30 globsG [(9, law06INumE), (12, ecdsaRecoverE), (13, ref06RecoverE)] [] []
theorem law06EcdsaRecoversC : CxOk law06EcdsaRecoversX (Glob globsG) := cx_ok (by kernel_rfl) (by kernel_rfl) ⟨(law06INumK.up globsFG), ecdsaRecoverK, (ref06RecoverK.up globsFG), trivial⟩
theorem law06EcdsaRecoversK : CallOk Tryz.prog (Glob globsG) 5 law06EcdsaRecoversE :=
  fun_ok (cx := law06EcdsaRecoversX) law06EcdsaRecoversC (fn := Tryz.f5) Tryz.func5 (by kernel_rfl) Tryz.ntmps5 Tryz.call5 _ _ _ (by kernel_rfl) (by kernel_rfl) (by kernel_rfl)
    (fun w0 hG => lall_of lall_nil (by kernel_rfl : loopsOf (bodyOf Tryz.f5) = _)) (fun p => Eq.trans (b := law06EcdsaRecoversB p.1 p.2) (by kernel_rfl) (law06EcdsaRecovers_eq p.1 p.2).symm)

end Go.Sy
