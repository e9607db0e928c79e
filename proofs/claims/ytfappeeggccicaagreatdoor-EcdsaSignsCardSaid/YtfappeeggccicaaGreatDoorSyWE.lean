/- The links: each typed function is what the code computes. Printed by a program. -/
import Derived.Test.YtfappeeggccicaaGreatDoorSyVE
import Derived.Test.YtfappeeggccicaaGreatDoorSyWC3
set_option linter.unusedVariables false
set_option maxRecDepth 100000
noncomputable section
namespace Go.Sy
open Go Go.Proofs
def ecdsaINumberE : Entry := mkE [.arr (.int .u8) 32] [.u256] fun p => ecdsaINumber p
def ecdsaINumberX : Cx := mkCx Tryz.prog 19 globsF [(36, u256GetE), (42, fieldReduceE)] [] []
theorem ecdsaINumberC : CxOk ecdsaINumberX (Glob globsF) := cx_ok (by kernel_rfl) (by kernel_rfl) ⟨u256GetK, fieldReduceK, trivial⟩
theorem ecdsaINumberK : CallOk Tryz.prog (Glob globsF) 19 ecdsaINumberE :=
 fun_ok (cx := ecdsaINumberX) ecdsaINumberC (fn := Tryz.f19) Tryz.func19 (by kernel_rfl) Tryz.ntmps19 Tryz.call19 _ _ _ (by kernel_rfl) (by kernel_rfl) (by kernel_rfl)
  (fun w0 hG => lall_of lall_nil (by kernel_rfl : loopsOf (bodyOf Tryz.f19) = _)) (fun p => Eq.trans (b := ecdsaINumberB p) (by kernel_rfl) (ecdsaINumber_eq p).symm)
def ecdsaSignWithE : Entry := mkE [.u256, .u256, .arr (.int .u8) 32] [.st [.u256, .u256, .bool], .int .i64] fun p => ecdsaSignWith p.1 p.2.1 p.2.2
def ecdsaSignWithX : Cx := mkCx Tryz.prog 92 globs0x1 [(7, ecdsaIFitE), (13, u256CmpE), (14, ecdsaIOrderE), (16, curveMulGE), (17, fieldMulE), (18, fieldAddE), (19, ecdsaINumberE), (20, fieldInverseE), (21, u256BitE), (22, ecdsaILowE), (23, fieldNegE)] [] []
theorem ecdsaSignWithC : CxOk ecdsaSignWithX (Glob globs0x1) := cx_ok (by kernel_rfl) (by kernel_rfl) ⟨(ecdsaIFitK.up globsF_globs0x1), (u256CmpK.up globsF_globs0x1), (ecdsaIOrderK.up globsF_globs0x1), curveMulGK, (fieldMulK.up globsF_globs0x1), (fieldAddK.up globsF_globs0x1), (ecdsaINumberK.up globsF_globs0x1), (fieldInverseK.up globsF_globs0x1), (u256BitK.up globsF_globs0x1), (ecdsaILowK.up globsF_globs0x1), (fieldNegK.up globsF_globs0x1), trivial⟩
theorem ecdsaSignWithK : CallOk Tryz.prog (Glob globs0x1) 9 ecdsaSignWithE :=
 fun_ok (cx := ecdsaSignWithX) ecdsaSignWithC (fn := Tryz.f9) Tryz.func9 (by kernel_rfl) Tryz.ntmps9 Tryz.call9 _ _ _ (by kernel_rfl) (by kernel_rfl) (by kernel_rfl)
  (fun w0 hG => lall_of lall_nil (by kernel_rfl : loopsOf (bodyOf Tryz.f9) = _)) (fun p => Eq.trans (b := ecdsaSignWithB p.1 p.2.1 p.2.2) (by kernel_rfl) (ecdsaSignWith_eq p.1 p.2.1 p.2.2).symm)
def ref06NumberE : Entry := mkE [.arr (.int .u8) 32] [.u256] fun p => ref06Number p
def ref06NumberX : Cx := mkCx Tryz.prog 19 globsF [(51, ref01GetE), (80, ref04ReduceE)] [] []
theorem ref06NumberC : CxOk ref06NumberX (Glob globsF) := cx_ok (by kernel_rfl) (by kernel_rfl) ⟨ref01GetK, ref04ReduceK, trivial⟩
theorem ref06NumberK : CallOk Tryz.prog (Glob globsF) 49 ref06NumberE :=
 fun_ok (cx := ref06NumberX) ref06NumberC (fn := Tryz.f49) Tryz.func49 (by kernel_rfl) Tryz.ntmps49 Tryz.call49 _ _ _ (by kernel_rfl) (by kernel_rfl) (by kernel_rfl)
  (fun w0 hG => lall_of lall_nil (by kernel_rfl : loopsOf (bodyOf Tryz.f49) = _)) (fun p => Eq.trans (b := ref06NumberB p) (by kernel_rfl) (ref06Number_eq p).symm)
def ref06ITimesE : Entry := mkE [.u256, .u256] [.u256] fun p => ref06ITimes p.1 p.2
def ref06ITimesX : Cx := mkCx Tryz.prog 14 globsF [(85, ref04MulE)] [] []
theorem ref06ITimesC : CxOk ref06ITimesX (Glob globsF) := cx_ok (by kernel_rfl) (by kernel_rfl) ⟨ref04MulK, trivial⟩
theorem ref06ITimesK : CallOk Tryz.prog (Glob globsF) 53 ref06ITimesE :=
 fun_ok (cx := ref06ITimesX) ref06ITimesC (fn := Tryz.f53) Tryz.func53 (by kernel_rfl) Tryz.ntmps53 Tryz.call53 _ _ _ (by kernel_rfl) (by kernel_rfl) (by kernel_rfl)
  (fun w0 hG => lall_of lall_nil (by kernel_rfl : loopsOf (bodyOf Tryz.f53) = _)) (fun p => Eq.trans (b := ref06ITimesB p.1 p.2) (by kernel_rfl) (ref06ITimes_eq p.1 p.2).symm)
def ref06IPlusE : Entry := mkE [.u256, .u256] [.u256] fun p => ref06IPlus p.1 p.2
def ref06IPlusX : Cx := mkCx Tryz.prog 14 globsF [(86, ref04AddE)] [] []
theorem ref06IPlusC : CxOk ref06IPlusX (Glob globsF) := cx_ok (by kernel_rfl) (by kernel_rfl) ⟨ref04AddK, trivial⟩
theorem ref06IPlusK : CallOk Tryz.prog (Glob globsF) 54 ref06IPlusE :=
 fun_ok (cx := ref06IPlusX) ref06IPlusC (fn := Tryz.f54) Tryz.func54 (by kernel_rfl) Tryz.ntmps54 Tryz.call54 _ _ _ (by kernel_rfl) (by kernel_rfl) (by kernel_rfl)
  (fun w0 hG => lall_of lall_nil (by kernel_rfl : loopsOf (bodyOf Tryz.f54) = _)) (fun p => Eq.trans (b := ref06IPlusB p.1 p.2) (by kernel_rfl) (ref06IPlus_eq p.1 p.2).symm)
def ref06IInverseE : Entry := mkE [.u256] [.u256] fun p => ref06IInverse p
def ref06IInverseX : Cx := mkCx Tryz.prog 11 globsF [(87, ref04InverseE)] [] []
theorem ref06IInverseC : CxOk ref06IInverseX (Glob globsF) := cx_ok (by kernel_rfl) (by kernel_rfl) ⟨ref04InverseK, trivial⟩
theorem ref06IInverseK : CallOk Tryz.prog (Glob globsF) 55 ref06IInverseE :=
 fun_ok (cx := ref06IInverseX) ref06IInverseC (fn := Tryz.f55) Tryz.func55 (by kernel_rfl) Tryz.ntmps55 Tryz.call55 _ _ _ (by kernel_rfl) (by kernel_rfl) (by kernel_rfl)
  (fun w0 hG => lall_of lall_nil (by kernel_rfl : loopsOf (bodyOf Tryz.f55) = _)) (fun p => Eq.trans (b := ref06IInverseB p) (by kernel_rfl) (ref06IInverse_eq p).symm)
def ref06IOddE : Entry := mkE [.u256] [.bool] fun p => ref06IOdd p
def ref06IOddX : Cx := mkCx Tryz.prog 7 globsF [] [] []
theorem ref06IOddC : CxOk ref06IOddX (Glob globsF) := cx_ok (by kernel_rfl) (by kernel_rfl) trivial
theorem ref06IOddK : CallOk Tryz.prog (Glob globsF) 56 ref06IOddE :=
 fun_ok (cx := ref06IOddX) ref06IOddC (fn := Tryz.f56) Tryz.func56 (by kernel_rfl) Tryz.ntmps56 Tryz.call56 _ _ _ (by kernel_rfl) (by kernel_rfl) (by kernel_rfl)
  (fun w0 hG => lall_of lall_nil (by kernel_rfl : loopsOf (bodyOf Tryz.f56) = _)) (fun p => Eq.trans (b := ref06IOddB p) (by kernel_rfl) (ref06IOdd_eq p).symm)
def ref06TextbookE : Entry := mkE [.u256, .u256, .arr (.int .u8) 32] [.st [.u256, .u256, .bool], .int .i64] fun p => ref06Textbook p.1 p.2.1 p.2.2
def ref06TextbookX : Cx := mkCx Tryz.prog 60 globsF [(10, ref06FitE), (24, ref01CmpE), (25, ref06IOrderE), (49, ref06NumberE), (52, ref05MulGE), (53, ref06ITimesE), (54, ref06IPlusE), (55, ref06IInverseE), (56, ref06IOddE)] [] []
theorem ref06TextbookC : CxOk ref06TextbookX (Glob globsF) := cx_ok (by kernel_rfl) (by kernel_rfl) ⟨ref06FitK, ref01CmpK, ref06IOrderK, ref06NumberK, ref05MulGK, ref06ITimesK, ref06IPlusK, ref06IInverseK, ref06IOddK, trivial⟩
theorem ref06TextbookK : CallOk Tryz.prog (Glob globsF) 28 ref06TextbookE :=
 fun_ok (cx := ref06TextbookX) ref06TextbookC (fn := Tryz.f28) Tryz.func28 (by kernel_rfl) Tryz.ntmps28 Tryz.call28 _ _ _ (by kernel_rfl) (by kernel_rfl) (by kernel_rfl)
  (fun w0 hG => lall_of lall_nil (by kernel_rfl : loopsOf (bodyOf Tryz.f28) = _)) (fun p => Eq.trans (b := ref06TextbookB p.1 p.2.1 p.2.2) (by kernel_rfl) (ref06Textbook_eq p.1 p.2.1 p.2.2).symm)
def ref06SignWithE : Entry := mkE [.u256, .u256, .arr (.int .u8) 32] [.st [.u256, .u256, .bool], .int .i64] fun p => ref06SignWith p.1 p.2.1 p.2.2
def ref06SignWithX : Cx := mkCx Tryz.prog 43 globsF [(25, ref06IOrderE), (28, ref06TextbookE), (29, ref06LowE), (30, ref01SubE)] [] []
theorem ref06SignWithC : CxOk ref06SignWithX (Glob globsF) := cx_ok (by kernel_rfl) (by kernel_rfl) ⟨ref06IOrderK, ref06TextbookK, ref06LowK, ref01SubK, trivial⟩
theorem ref06SignWithK : CallOk Tryz.prog (Glob globsF) 12 ref06SignWithE :=
 fun_ok (cx := ref06SignWithX) ref06SignWithC (fn := Tryz.f12) Tryz.func12 (by kernel_rfl) Tryz.ntmps12 Tryz.call12 _ _ _ (by kernel_rfl) (by kernel_rfl) (by kernel_rfl)
  (fun w0 hG => lall_of lall_nil (by kernel_rfl : loopsOf (bodyOf Tryz.f12) = _)) (fun p => Eq.trans (b := ref06SignWithB p.1 p.2.1 p.2.2) (by kernel_rfl) (ref06SignWith_eq p.1 p.2.1 p.2.2).symm)
end Go.Sy
