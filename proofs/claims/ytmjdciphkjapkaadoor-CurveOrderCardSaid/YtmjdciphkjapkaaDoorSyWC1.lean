/- The links: each typed function is what the code computes. Printed by a program. -/
import Derived.Test.YtmjdciphkjapkaaDoorSyVC1
import Derived.Test.YtmjdciphkjapkaaDoorSyWT
set_option linter.unusedVariables false
set_option maxRecDepth 100000
namespace Go.Sy
open Go Go.Proofs

noncomputable def curveIZeroE : Entry := mkE [] [.u256] fun _ => curveIZero

noncomputable def curveIZeroX : Cx := mkCx Tryd.prog 2 globsF [] [] []
theorem curveIZeroC : CxOk curveIZeroX (Glob globsF) := cx_ok (by kernel_rfl) (by kernel_rfl) trivial
theorem curveIZeroK : CallOk Tryd.prog (Glob globsF) 63 curveIZeroE :=
  fun_ok (cx := curveIZeroX) curveIZeroC (fn := Tryd.f63) Tryd.func63 (by kernel_rfl) Tryd.ntmps63 Tryd.call63 _ _ _ (by kernel_rfl) (by kernel_rfl) (by kernel_rfl)
    (fun w0 hG => lall_of lall_nil (by kernel_rfl : loopsOf (bodyOf Tryd.f63) = _)) (fun p => Eq.trans (b := curveIZeroB ) (by kernel_rfl) (curveIZero_eq ).symm)

noncomputable def curveIPrimeE : Entry := mkE [] [.u256] fun _ => curveIPrime

noncomputable def curveIPrimeX : Cx := mkCx Tryd.prog 8 globsF [(88, fieldModulusE)] [] []
theorem curveIPrimeC : CxOk curveIPrimeX (Glob globsF) := cx_ok (by kernel_rfl) (by kernel_rfl) ⟨fieldModulusK, trivial⟩
theorem curveIPrimeK : CallOk Tryd.prog (Glob globsF) 59 curveIPrimeE :=
  fun_ok (cx := curveIPrimeX) curveIPrimeC (fn := Tryd.f59) Tryd.func59 (by kernel_rfl) Tryd.ntmps59 Tryd.call59 _ _ _ (by kernel_rfl) (by kernel_rfl) (by kernel_rfl)
    (fun w0 hG => lall_of lall_nil (by kernel_rfl : loopsOf (bodyOf Tryd.f59) = _)) (fun p => Eq.trans (b := curveIPrimeB ) (by kernel_rfl) (curveIPrime_eq ).symm)

noncomputable def curveISquareE : Entry := mkE [.u256] [.u256] fun p => curveISquare p

noncomputable def curveISquareX : Cx := mkCx Tryd.prog 11 globsF [(112, fieldSquareE)] [] []
theorem curveISquareC : CxOk curveISquareX (Glob globsF) := cx_ok (by kernel_rfl) (by kernel_rfl) ⟨fieldSquareK, trivial⟩
theorem curveISquareK : CallOk Tryd.prog (Glob globsF) 76 curveISquareE :=
  fun_ok (cx := curveISquareX) curveISquareC (fn := Tryd.f76) Tryd.func76 (by kernel_rfl) Tryd.ntmps76 Tryd.call76 _ _ _ (by kernel_rfl) (by kernel_rfl) (by kernel_rfl)
    (fun w0 hG => lall_of lall_nil (by kernel_rfl : loopsOf (bodyOf Tryd.f76) = _)) (fun p => Eq.trans (b := curveISquareB p) (by kernel_rfl) (curveISquare_eq p).symm)

noncomputable def curveITimesE : Entry := mkE [.u256, .u256] [.u256] fun p => curveITimes p.1 p.2

noncomputable def curveITimesX : Cx := mkCx Tryd.prog 14 globsF [(128, fieldMulE)] [] []
theorem curveITimesC : CxOk curveITimesX (Glob globsF) := cx_ok (by kernel_rfl) (by kernel_rfl) ⟨fieldMulK, trivial⟩
theorem curveITimesK : CallOk Tryd.prog (Glob globsF) 94 curveITimesE :=
  fun_ok (cx := curveITimesX) curveITimesC (fn := Tryd.f94) Tryd.func94 (by kernel_rfl) Tryd.ntmps94 Tryd.call94 _ _ _ (by kernel_rfl) (by kernel_rfl) (by kernel_rfl)
    (fun w0 hG => lall_of lall_nil (by kernel_rfl : loopsOf (bodyOf Tryd.f94) = _)) (fun p => Eq.trans (b := curveITimesB p.1 p.2) (by kernel_rfl) (curveITimes_eq p.1 p.2).symm)

noncomputable def curveIPlusE : Entry := mkE [.u256, .u256] [.u256] fun p => curveIPlus p.1 p.2

noncomputable def curveIPlusX : Cx := mkCx Tryd.prog 14 globsF [(127, fieldAddE)] [] []
theorem curveIPlusC : CxOk curveIPlusX (Glob globsF) := cx_ok (by kernel_rfl) (by kernel_rfl) ⟨fieldAddK, trivial⟩
theorem curveIPlusK : CallOk Tryd.prog (Glob globsF) 93 curveIPlusE :=
  fun_ok (cx := curveIPlusX) curveIPlusC (fn := Tryd.f93) Tryd.func93 (by kernel_rfl) Tryd.ntmps93 Tryd.call93 _ _ _ (by kernel_rfl) (by kernel_rfl) (by kernel_rfl)
    (fun w0 hG => lall_of lall_nil (by kernel_rfl : loopsOf (bodyOf Tryd.f93) = _)) (fun p => Eq.trans (b := curveIPlusB p.1 p.2) (by kernel_rfl) (curveIPlus_eq p.1 p.2).symm)

noncomputable def curveIRightE : Entry := mkE [.u256] [.u256] fun p => curveIRight p

noncomputable def curveIRightX : Cx := mkCx Tryd.prog 9 globsF [(76, curveISquareE), (93, curveIPlusE), (94, curveITimesE)] [] []
theorem curveIRightC : CxOk curveIRightX (Glob globsF) := cx_ok (by kernel_rfl) (by kernel_rfl) ⟨curveISquareK, curveIPlusK, curveITimesK, trivial⟩
theorem curveIRightK : CallOk Tryd.prog (Glob globsF) 61 curveIRightE :=
  fun_ok (cx := curveIRightX) curveIRightC (fn := Tryd.f61) Tryd.func61 (by kernel_rfl) Tryd.ntmps61 Tryd.call61 _ _ _ (by kernel_rfl) (by kernel_rfl) (by kernel_rfl)
    (fun w0 hG => lall_of lall_nil (by kernel_rfl : loopsOf (bodyOf Tryd.f61) = _)) (fun p => Eq.trans (b := curveIRightB p) (by kernel_rfl) (curveIRight_eq p).symm)

noncomputable def curveOnE : Entry := mkE [.st [.u256, .u256, .bool]] [.bool] fun p => curveOn p

noncomputable def curveOnX : Cx := mkCx Tryd.prog 36 globsF [(58, u256CmpE), (59, curveIPrimeE), (61, curveIRightE), (63, curveIZeroE), (76, curveISquareE)] [] []
theorem curveOnC : CxOk curveOnX (Glob globsF) := cx_ok (by kernel_rfl) (by kernel_rfl) ⟨u256CmpK, curveIPrimeK, curveIRightK, curveIZeroK, curveISquareK, trivial⟩
theorem curveOnK : CallOk Tryd.prog (Glob globsF) 37 curveOnE :=
  fun_ok (cx := curveOnX) curveOnC (fn := Tryd.f37) Tryd.func37 (by kernel_rfl) Tryd.ntmps37 Tryd.call37 _ _ _ (by kernel_rfl) (by kernel_rfl) (by kernel_rfl)
    (fun w0 hG => lall_of lall_nil (by kernel_rfl : loopsOf (bodyOf Tryd.f37) = _)) (fun p => Eq.trans (b := curveOnB p) (by kernel_rfl) (curveOn_eq p).symm)

noncomputable def curveIOneE : Entry := mkE [] [.u256] fun _ => curveIOne

noncomputable def curveIOneX : Cx := mkCx Tryd.prog 2 globsF [] [] []
theorem curveIOneC : CxOk curveIOneX (Glob globsF) := cx_ok (by kernel_rfl) (by kernel_rfl) trivial
theorem curveIOneK : CallOk Tryd.prog (Glob globsF) 108 curveIOneE :=
  fun_ok (cx := curveIOneX) curveIOneC (fn := Tryd.f108) Tryd.func108 (by kernel_rfl) Tryd.ntmps108 Tryd.call108 _ _ _ (by kernel_rfl) (by kernel_rfl) (by kernel_rfl)
    (fun w0 hG => lall_of lall_nil (by kernel_rfl : loopsOf (bodyOf Tryd.f108) = _)) (fun p => Eq.trans (b := curveIOneB ) (by kernel_rfl) (curveIOne_eq ).symm)

noncomputable def curveIOfE : Entry := mkE [.st [.u256, .u256, .bool]] [.st [.u256, .u256, .u256]] fun p => curveIOf p

noncomputable def curveIOfX : Cx := mkCx Tryd.prog 12 globsF [(108, curveIOneE)] [] []
theorem curveIOfC : CxOk curveIOfX (Glob globsF) := cx_ok (by kernel_rfl) (by kernel_rfl) ⟨curveIOneK, trivial⟩
theorem curveIOfK : CallOk Tryd.prog (Glob globsF) 69 curveIOfE :=
  fun_ok (cx := curveIOfX) curveIOfC (fn := Tryd.f69) Tryd.func69 (by kernel_rfl) Tryd.ntmps69 Tryd.call69 _ _ _ (by kernel_rfl) (by kernel_rfl) (by kernel_rfl)
    (fun w0 hG => lall_of lall_nil (by kernel_rfl : loopsOf (bodyOf Tryd.f69) = _)) (fun p => Eq.trans (b := curveIOfB p) (by kernel_rfl) (curveIOf_eq p).symm)

noncomputable def curveIMinusE : Entry := mkE [.u256, .u256] [.u256] fun p => curveIMinus p.1 p.2

noncomputable def curveIMinusX : Cx := mkCx Tryd.prog 14 globsF [(95, fieldSubE)] [] []
theorem curveIMinusC : CxOk curveIMinusX (Glob globsF) := cx_ok (by kernel_rfl) (by kernel_rfl) ⟨fieldSubK, trivial⟩
theorem curveIMinusK : CallOk Tryd.prog (Glob globsF) 62 curveIMinusE :=
  fun_ok (cx := curveIMinusX) curveIMinusC (fn := Tryd.f62) Tryd.func62 (by kernel_rfl) Tryd.ntmps62 Tryd.call62 _ _ _ (by kernel_rfl) (by kernel_rfl) (by kernel_rfl)
    (fun w0 hG => lall_of lall_nil (by kernel_rfl : loopsOf (bodyOf Tryd.f62) = _)) (fun p => Eq.trans (b := curveIMinusB p.1 p.2) (by kernel_rfl) (curveIMinus_eq p.1 p.2).symm)

noncomputable def curveJacobianDoubleE : Entry := mkE [.st [.u256, .u256, .u256]] [.st [.u256, .u256, .u256]] fun p => curveJacobianDouble p

noncomputable def curveJacobianDoubleX : Cx := mkCx Tryd.prog 66 globsF [(62, curveIMinusE), (63, curveIZeroE), (76, curveISquareE), (93, curveIPlusE), (94, curveITimesE)] [] []
theorem curveJacobianDoubleC : CxOk curveJacobianDoubleX (Glob globsF) := cx_ok (by kernel_rfl) (by kernel_rfl) ⟨curveIMinusK, curveIZeroK, curveISquareK, curveIPlusK, curveITimesK, trivial⟩
theorem curveJacobianDoubleK : CallOk Tryd.prog (Glob globsF) 75 curveJacobianDoubleE :=
  fun_ok (cx := curveJacobianDoubleX) curveJacobianDoubleC (fn := Tryd.f75) Tryd.func75 (by kernel_rfl) Tryd.ntmps75 Tryd.call75 _ _ _ (by kernel_rfl) (by kernel_rfl) (by kernel_rfl)
    (fun w0 hG => lall_of (lall_free (b := loopAt Tryd.f75 0) (by kernel_rfl) (lall_nil)) (by kernel_rfl : loopsOf (bodyOf Tryd.f75) = _)) (fun p => Eq.trans (b := curveJacobianDoubleB p) (by kernel_rfl) (curveJacobianDouble_eq p).symm)

noncomputable def curveJacobianAddE : Entry := mkE [.st [.u256, .u256, .u256], .st [.u256, .u256, .u256]] [.st [.u256, .u256, .u256]] fun p => curveJacobianAdd p.1 p.2

noncomputable def curveJacobianAddX : Cx := mkCx Tryd.prog 104 globsF [(62, curveIMinusE), (63, curveIZeroE), (75, curveJacobianDoubleE), (76, curveISquareE), (94, curveITimesE)] [] []
theorem curveJacobianAddC : CxOk curveJacobianAddX (Glob globsF) := cx_ok (by kernel_rfl) (by kernel_rfl) ⟨curveIMinusK, curveIZeroK, curveJacobianDoubleK, curveISquareK, curveITimesK, trivial⟩
theorem curveJacobianAddK : CallOk Tryd.prog (Glob globsF) 68 curveJacobianAddE :=
  fun_ok (cx := curveJacobianAddX) curveJacobianAddC (fn := Tryd.f68) Tryd.func68 (by kernel_rfl) Tryd.ntmps68 Tryd.call68 _ _ _ (by kernel_rfl) (by kernel_rfl) (by kernel_rfl)
    (fun w0 hG => lall_of lall_nil (by kernel_rfl : loopsOf (bodyOf Tryd.f68) = _)) (fun p => Eq.trans (b := curveJacobianAddB p.1 p.2) (by kernel_rfl) (curveJacobianAdd_eq p.1 p.2).symm)

noncomputable def curveJacobianPointE : Entry := mkE [.st [.u256, .u256, .u256]] [.st [.u256, .u256, .bool]] fun p => curveJacobianPoint p

noncomputable def curveJacobianPointX : Cx := mkCx Tryd.prog 30 globsF [(63, curveIZeroE), (76, curveISquareE), (94, curveITimesE), (109, fieldInverseE)] [] []
theorem curveJacobianPointC : CxOk curveJacobianPointX (Glob globsF) := cx_ok (by kernel_rfl) (by kernel_rfl) ⟨curveIZeroK, curveISquareK, curveITimesK, fieldInverseK, trivial⟩
theorem curveJacobianPointK : CallOk Tryd.prog (Glob globsF) 70 curveJacobianPointE :=
  fun_ok (cx := curveJacobianPointX) curveJacobianPointC (fn := Tryd.f70) Tryd.func70 (by kernel_rfl) Tryd.ntmps70 Tryd.call70 _ _ _ (by kernel_rfl) (by kernel_rfl) (by kernel_rfl)
    (fun w0 hG => lall_of lall_nil (by kernel_rfl : loopsOf (bodyOf Tryd.f70) = _)) (fun p => Eq.trans (b := curveJacobianPointB p) (by kernel_rfl) (curveJacobianPoint_eq p).symm)

noncomputable def curveSumE : Entry := mkE [.isl false .pt] [.st [.u256, .u256, .bool], .int .i64] fun p => curveSum p

def curveSumL0Y : Lay := ⟨[(false, 2, .ptr 1002 []), (false, 4, .ptr 1004 [])], [(false, 7, .isl false .pt), (false, 8, .int .i64), (false, 9, .int .i64), (true, 1002, .st [.u256, .u256, .bool]), (true, 1004, .st [.u256, .u256, .u256])], [⟨[(1002, 1002), (1004, 1004)], []⟩]⟩
def curveSumL0Z : List (Ex × Lay) := [(.ret, ⟨[(false, 2, .ptr 1002 []), (false, 3, .int .i64 50)], [(true, 1002, .st [.u256, .u256, .bool])], [⟨[(1002, 1002)], []⟩]⟩), (.exit 0, ⟨[(false, 2, .ptr 1002 []), (false, 4, .ptr 1004 [])], [(true, 1002, .st [.u256, .u256, .bool]), (true, 1004, .st [.u256, .u256, .u256])], [⟨[(1002, 1002), (1004, 1004)], []⟩]⟩)]
noncomputable def curveSumL0E : LEntry := mkL curveSumL0Y curveSumL0Z fun p => curveSumL0 p.1 p.2.1 p.2.2.1 p.2.2.2.1 p.2.2.2.2
noncomputable def curveSumX : Cx := mkCx Tryd.prog 24 globsF [(37, curveOnE), (68, curveJacobianAddE), (69, curveIOfE), (70, curveJacobianPointE)] [(3, curveSumL0E)] []
theorem curveSumC : CxOk curveSumX (Glob globsF) := cx_ok (by kernel_rfl) (by kernel_rfl) ⟨curveOnK, curveJacobianAddK, curveIOfK, curveJacobianPointK, trivial⟩
theorem curveSumL0K (w0 : Ini) (hG : Glob globsF w0) : LoopOk curveSumX w0 (loopAt Tryd.f24 0) curveSumL0E :=
  loop_okH curveSumC hG (loopAt Tryd.f24 0) (lall_of lall_nil (by kernel_rfl : loopsOf (loopAt Tryd.f24 0) = _))
    curveSumL0Y curveSumL0Z (by kernel_rfl) (fun p => curveSumL0R p.1 p.2.1 p.2.2.1 p.2.2.2.1 p.2.2.2.2) (fun p => bigFuel) (fun p => by kernel_rfl) _ (fun p => curveSumL0_eq p.1 p.2.1 p.2.2.1 p.2.2.2.1 p.2.2.2.2)
theorem curveSumK : CallOk Tryd.prog (Glob globsF) 24 curveSumE :=
  fun_ok (cx := curveSumX) curveSumC (fn := Tryd.f24) Tryd.func24 (by kernel_rfl) Tryd.ntmps24 Tryd.call24 _ _ _ (by kernel_rfl) (by kernel_rfl) (by kernel_rfl)
    (fun w0 hG => lall_of (lall_cut (b := loopAt Tryd.f24 0) (curveSumL0K w0 hG) (by kernel_rfl) (lall_nil)) (by kernel_rfl : loopsOf (bodyOf Tryd.f24) = _)) (fun p => Eq.trans (b := curveSumB p) (by kernel_rfl) (curveSum_eq p).symm)

noncomputable def curveAddE : Entry := mkE [.st [.u256, .u256, .bool], .st [.u256, .u256, .bool]] [.st [.u256, .u256, .bool], .int .i64] fun p => curveAdd p.1 p.2

noncomputable def curveAddX : Cx := mkCx Tryd.prog 12 globsF [(24, curveSumE)] [] []
theorem curveAddC : CxOk curveAddX (Glob globsF) := cx_ok (by kernel_rfl) (by kernel_rfl) ⟨curveSumK, trivial⟩
theorem curveAddK : CallOk Tryd.prog (Glob globsF) 31 curveAddE :=
  fun_ok (cx := curveAddX) curveAddC (fn := Tryd.f31) Tryd.func31 (by kernel_rfl) Tryd.ntmps31 Tryd.call31 _ _ _ (by kernel_rfl) (by kernel_rfl) (by kernel_rfl)
    (fun w0 hG => lall_of lall_nil (by kernel_rfl : loopsOf (bodyOf Tryd.f31) = _)) (fun p => Eq.trans (b := curveAddB p.1 p.2) (by kernel_rfl) (curveAdd_eq p.1 p.2).symm)

noncomputable def ref05IIdentityE : Entry := mkE [] [.st [.u256, .u256, .bool]] fun _ => ref05IIdentity

noncomputable def ref05IIdentityX : Cx := mkCx Tryd.prog 2 globsF [] [] []
theorem ref05IIdentityC : CxOk ref05IIdentityX (Glob globsF) := cx_ok (by kernel_rfl) (by kernel_rfl) trivial
theorem ref05IIdentityK : CallOk Tryd.prog (Glob globsF) 71 ref05IIdentityE :=
  fun_ok (cx := ref05IIdentityX) ref05IIdentityC (fn := Tryd.f71) Tryd.func71 (by kernel_rfl) Tryd.ntmps71 Tryd.call71 _ _ _ (by kernel_rfl) (by kernel_rfl) (by kernel_rfl)
    (fun w0 hG => lall_of lall_nil (by kernel_rfl : loopsOf (bodyOf Tryd.f71) = _)) (fun p => Eq.trans (b := ref05IIdentityB ) (by kernel_rfl) (ref05IIdentity_eq ).symm)

noncomputable def ref05ILowE : Entry := mkE [.u256] [.bool] fun p => ref05ILow p

noncomputable def ref05ILowX : Cx := mkCx Tryd.prog 13 globsF [(96, ref04ModulusE), (97, ref01CmpE)] [] []
theorem ref05ILowC : CxOk ref05ILowX (Glob globsF) := cx_ok (by kernel_rfl) (by kernel_rfl) ⟨ref04ModulusK, ref01CmpK, trivial⟩
theorem ref05ILowK : CallOk Tryd.prog (Glob globsF) 64 ref05ILowE :=
  fun_ok (cx := ref05ILowX) ref05ILowC (fn := Tryd.f64) Tryd.func64 (by kernel_rfl) Tryd.ntmps64 Tryd.call64 _ _ _ (by kernel_rfl) (by kernel_rfl) (by kernel_rfl)
    (fun w0 hG => lall_of lall_nil (by kernel_rfl : loopsOf (bodyOf Tryd.f64) = _)) (fun p => Eq.trans (b := ref05ILowB p) (by kernel_rfl) (ref05ILow_eq p).symm)

noncomputable def ref05IMulE : Entry := mkE [.u256, .u256] [.u256] fun p => ref05IMul p.1 p.2

noncomputable def ref05IMulX : Cx := mkCx Tryd.prog 14 globsF [(113, ref04MulE)] [] []
theorem ref05IMulC : CxOk ref05IMulX (Glob globsF) := cx_ok (by kernel_rfl) (by kernel_rfl) ⟨ref04MulK, trivial⟩
theorem ref05IMulK : CallOk Tryd.prog (Glob globsF) 77 ref05IMulE :=
  fun_ok (cx := ref05IMulX) ref05IMulC (fn := Tryd.f77) Tryd.func77 (by kernel_rfl) Tryd.ntmps77 Tryd.call77 _ _ _ (by kernel_rfl) (by kernel_rfl) (by kernel_rfl)
    (fun w0 hG => lall_of lall_nil (by kernel_rfl : loopsOf (bodyOf Tryd.f77) = _)) (fun p => Eq.trans (b := ref05IMulB p.1 p.2) (by kernel_rfl) (ref05IMul_eq p.1 p.2).symm)

noncomputable def ref05IAddE : Entry := mkE [.u256, .u256] [.u256] fun p => ref05IAdd p.1 p.2

noncomputable def ref05IAddX : Cx := mkCx Tryd.prog 14 globsF [(138, ref04AddE)] [] []
theorem ref05IAddC : CxOk ref05IAddX (Glob globsF) := cx_ok (by kernel_rfl) (by kernel_rfl) ⟨ref04AddK, trivial⟩
theorem ref05IAddK : CallOk Tryd.prog (Glob globsF) 106 ref05IAddE :=
  fun_ok (cx := ref05IAddX) ref05IAddC (fn := Tryd.f106) Tryd.func106 (by kernel_rfl) Tryd.ntmps106 Tryd.call106 _ _ _ (by kernel_rfl) (by kernel_rfl) (by kernel_rfl)
    (fun w0 hG => lall_of lall_nil (by kernel_rfl : loopsOf (bodyOf Tryd.f106) = _)) (fun p => Eq.trans (b := ref05IAddB p.1 p.2) (by kernel_rfl) (ref05IAdd_eq p.1 p.2).symm)

noncomputable def ref05ICubicE : Entry := mkE [.u256] [.u256] fun p => ref05ICubic p

noncomputable def ref05ICubicX : Cx := mkCx Tryd.prog 12 globsF [(77, ref05IMulE), (100, ref01FromE), (106, ref05IAddE)] [] []
theorem ref05ICubicC : CxOk ref05ICubicX (Glob globsF) := cx_ok (by kernel_rfl) (by kernel_rfl) ⟨ref05IMulK, ref01FromK, ref05IAddK, trivial⟩
theorem ref05ICubicK : CallOk Tryd.prog (Glob globsF) 66 ref05ICubicE :=
  fun_ok (cx := ref05ICubicX) ref05ICubicC (fn := Tryd.f66) Tryd.func66 (by kernel_rfl) Tryd.ntmps66 Tryd.call66 _ _ _ (by kernel_rfl) (by kernel_rfl) (by kernel_rfl)
    (fun w0 hG => lall_of lall_nil (by kernel_rfl : loopsOf (bodyOf Tryd.f66) = _)) (fun p => Eq.trans (b := ref05ICubicB p) (by kernel_rfl) (ref05ICubic_eq p).symm)

noncomputable def ref05OnE : Entry := mkE [.st [.u256, .u256, .bool]] [.bool] fun p => ref05On p

noncomputable def ref05OnX : Cx := mkCx Tryd.prog 27 globsF [(64, ref05ILowE), (66, ref05ICubicE), (71, ref05IIdentityE), (77, ref05IMulE)] [] []
theorem ref05OnC : CxOk ref05OnX (Glob globsF) := cx_ok (by kernel_rfl) (by kernel_rfl) ⟨ref05ILowK, ref05ICubicK, ref05IIdentityK, ref05IMulK, trivial⟩
theorem ref05OnK : CallOk Tryd.prog (Glob globsF) 38 ref05OnE :=
  fun_ok (cx := ref05OnX) ref05OnC (fn := Tryd.f38) Tryd.func38 (by kernel_rfl) Tryd.ntmps38 Tryd.call38 _ _ _ (by kernel_rfl) (by kernel_rfl) (by kernel_rfl)
    (fun w0 hG => lall_of lall_nil (by kernel_rfl : loopsOf (bodyOf Tryd.f38) = _)) (fun p => Eq.trans (b := ref05OnB p) (by kernel_rfl) (ref05On_eq p).symm)

noncomputable def ref05ISubE : Entry := mkE [.u256, .u256] [.u256] fun p => ref05ISub p.1 p.2

noncomputable def ref05ISubX : Cx := mkCx Tryd.prog 14 globsF [(139, ref04SubE)] [] []
theorem ref05ISubC : CxOk ref05ISubX (Glob globsF) := cx_ok (by kernel_rfl) (by kernel_rfl) ⟨ref04SubK, trivial⟩
theorem ref05ISubK : CallOk Tryd.prog (Glob globsF) 107 ref05ISubE :=
  fun_ok (cx := ref05ISubX) ref05ISubC (fn := Tryd.f107) Tryd.func107 (by kernel_rfl) Tryd.ntmps107 Tryd.call107 _ _ _ (by kernel_rfl) (by kernel_rfl) (by kernel_rfl)
    (fun w0 hG => lall_of lall_nil (by kernel_rfl : loopsOf (bodyOf Tryd.f107) = _)) (fun p => Eq.trans (b := ref05ISubB p.1 p.2) (by kernel_rfl) (ref05ISub_eq p.1 p.2).symm)

noncomputable def ref05INegE : Entry := mkE [.st [.u256, .u256, .bool]] [.st [.u256, .u256, .bool]] fun p => ref05INeg p

noncomputable def ref05INegX : Cx := mkCx Tryd.prog 15 globsF [(107, ref05ISubE)] [] []
theorem ref05INegC : CxOk ref05INegX (Glob globsF) := cx_ok (by kernel_rfl) (by kernel_rfl) ⟨ref05ISubK, trivial⟩
theorem ref05INegK : CallOk Tryd.prog (Glob globsF) 67 ref05INegE :=
  fun_ok (cx := ref05INegX) ref05INegC (fn := Tryd.f67) Tryd.func67 (by kernel_rfl) Tryd.ntmps67 Tryd.call67 _ _ _ (by kernel_rfl) (by kernel_rfl) (by kernel_rfl)
    (fun w0 hG => lall_of lall_nil (by kernel_rfl : loopsOf (bodyOf Tryd.f67) = _)) (fun p => Eq.trans (b := ref05INegB p) (by kernel_rfl) (ref05INeg_eq p).symm)

noncomputable def ref05ITimesE : Entry := mkE [.int .u64, .u256] [.u256] fun p => ref05ITimes p.1 p.2

noncomputable def ref05ITimesX : Cx := mkCx Tryd.prog 9 globsF [(77, ref05IMulE), (100, ref01FromE)] [] []
theorem ref05ITimesC : CxOk ref05ITimesX (Glob globsF) := cx_ok (by kernel_rfl) (by kernel_rfl) ⟨ref05IMulK, ref01FromK, trivial⟩
theorem ref05ITimesK : CallOk Tryd.prog (Glob globsF) 111 ref05ITimesE :=
  fun_ok (cx := ref05ITimesX) ref05ITimesC (fn := Tryd.f111) Tryd.func111 (by kernel_rfl) Tryd.ntmps111 Tryd.call111 _ _ _ (by kernel_rfl) (by kernel_rfl) (by kernel_rfl)
    (fun w0 hG => lall_of lall_nil (by kernel_rfl : loopsOf (bodyOf Tryd.f111) = _)) (fun p => Eq.trans (b := ref05ITimesB p.1 p.2) (by kernel_rfl) (ref05ITimes_eq p.1 p.2).symm)

noncomputable def ref05IOverE : Entry := mkE [.u256, .u256] [.u256] fun p => ref05IOver p.1 p.2

noncomputable def ref05IOverX : Cx := mkCx Tryd.prog 15 globsF [(77, ref05IMulE), (119, ref04InverseE)] [] []
theorem ref05IOverC : CxOk ref05IOverX (Glob globsF) := cx_ok (by kernel_rfl) (by kernel_rfl) ⟨ref05IMulK, ref04InverseK, trivial⟩
theorem ref05IOverK : CallOk Tryd.prog (Glob globsF) 110 ref05IOverE :=
  fun_ok (cx := ref05IOverX) ref05IOverC (fn := Tryd.f110) Tryd.func110 (by kernel_rfl) Tryd.ntmps110 Tryd.call110 _ _ _ (by kernel_rfl) (by kernel_rfl) (by kernel_rfl)
    (fun w0 hG => lall_of lall_nil (by kernel_rfl : loopsOf (bodyOf Tryd.f110) = _)) (fun p => Eq.trans (b := ref05IOverB p.1 p.2) (by kernel_rfl) (ref05IOver_eq p.1 p.2).symm)

noncomputable def ref05IPlusE : Entry := mkE [.st [.u256, .u256, .bool], .st [.u256, .u256, .bool]] [.st [.u256, .u256, .bool]] fun p => ref05IPlus p.1 p.2

noncomputable def ref05IPlusX : Cx := mkCx Tryd.prog 65 globsF [(67, ref05INegE), (71, ref05IIdentityE), (77, ref05IMulE), (107, ref05ISubE), (110, ref05IOverE), (111, ref05ITimesE)] [] []
theorem ref05IPlusC : CxOk ref05IPlusX (Glob globsF) := cx_ok (by kernel_rfl) (by kernel_rfl) ⟨ref05INegK, ref05IIdentityK, ref05IMulK, ref05ISubK, ref05IOverK, ref05ITimesK, trivial⟩
theorem ref05IPlusK : CallOk Tryd.prog (Glob globsF) 72 ref05IPlusE :=
  fun_ok (cx := ref05IPlusX) ref05IPlusC (fn := Tryd.f72) Tryd.func72 (by kernel_rfl) Tryd.ntmps72 Tryd.call72 _ _ _ (by kernel_rfl) (by kernel_rfl) (by kernel_rfl)
    (fun w0 hG => lall_of lall_nil (by kernel_rfl : loopsOf (bodyOf Tryd.f72) = _)) (fun p => Eq.trans (b := ref05IPlusB p.1 p.2) (by kernel_rfl) (ref05IPlus_eq p.1 p.2).symm)

noncomputable def ref05AddE : Entry := mkE [.st [.u256, .u256, .bool], .st [.u256, .u256, .bool]] [.st [.u256, .u256, .bool], .int .i64] fun p => ref05Add p.1 p.2

noncomputable def ref05AddX : Cx := mkCx Tryd.prog 18 globsF [(38, ref05OnE), (72, ref05IPlusE)] [] []
theorem ref05AddC : CxOk ref05AddX (Glob globsF) := cx_ok (by kernel_rfl) (by kernel_rfl) ⟨ref05OnK, ref05IPlusK, trivial⟩
theorem ref05AddK : CallOk Tryd.prog (Glob globsF) 32 ref05AddE :=
  fun_ok (cx := ref05AddX) ref05AddC (fn := Tryd.f32) Tryd.func32 (by kernel_rfl) Tryd.ntmps32 Tryd.call32 _ _ _ (by kernel_rfl) (by kernel_rfl) (by kernel_rfl)
    (fun w0 hG => lall_of lall_nil (by kernel_rfl : loopsOf (bodyOf Tryd.f32) = _)) (fun p => Eq.trans (b := ref05AddB p.1 p.2) (by kernel_rfl) (ref05Add_eq p.1 p.2).symm)

noncomputable def curveDoubleE : Entry := mkE [.st [.u256, .u256, .bool]] [.st [.u256, .u256, .bool], .int .i64] fun p => curveDouble p

noncomputable def curveDoubleX : Cx := mkCx Tryd.prog 12 globsF [(37, curveOnE), (69, curveIOfE), (70, curveJacobianPointE), (75, curveJacobianDoubleE)] [] []
theorem curveDoubleC : CxOk curveDoubleX (Glob globsF) := cx_ok (by kernel_rfl) (by kernel_rfl) ⟨curveOnK, curveIOfK, curveJacobianPointK, curveJacobianDoubleK, trivial⟩
theorem curveDoubleK : CallOk Tryd.prog (Glob globsF) 33 curveDoubleE :=
  fun_ok (cx := curveDoubleX) curveDoubleC (fn := Tryd.f33) Tryd.func33 (by kernel_rfl) Tryd.ntmps33 Tryd.call33 _ _ _ (by kernel_rfl) (by kernel_rfl) (by kernel_rfl)
    (fun w0 hG => lall_of lall_nil (by kernel_rfl : loopsOf (bodyOf Tryd.f33) = _)) (fun p => Eq.trans (b := curveDoubleB p) (by kernel_rfl) (curveDouble_eq p).symm)

noncomputable def ref05DoubleE : Entry := mkE [.st [.u256, .u256, .bool]] [.st [.u256, .u256, .bool], .int .i64] fun p => ref05Double p

noncomputable def ref05DoubleX : Cx := mkCx Tryd.prog 9 globsF [(32, ref05AddE)] [] []
theorem ref05DoubleC : CxOk ref05DoubleX (Glob globsF) := cx_ok (by kernel_rfl) (by kernel_rfl) ⟨ref05AddK, trivial⟩
theorem ref05DoubleK : CallOk Tryd.prog (Glob globsF) 34 ref05DoubleE :=
  fun_ok (cx := ref05DoubleX) ref05DoubleC (fn := Tryd.f34) Tryd.func34 (by kernel_rfl) Tryd.ntmps34 Tryd.call34 _ _ _ (by kernel_rfl) (by kernel_rfl) (by kernel_rfl)
    (fun w0 hG => lall_of lall_nil (by kernel_rfl : loopsOf (bodyOf Tryd.f34) = _)) (fun p => Eq.trans (b := ref05DoubleB p) (by kernel_rfl) (ref05Double_eq p).symm)

noncomputable def curveNegE : Entry := mkE [.st [.u256, .u256, .bool]] [.st [.u256, .u256, .bool], .int .i64] fun p => curveNeg p

noncomputable def curveNegX : Cx := mkCx Tryd.prog 17 globsF [(37, curveOnE), (62, curveIMinusE), (63, curveIZeroE)] [] []
theorem curveNegC : CxOk curveNegX (Glob globsF) := cx_ok (by kernel_rfl) (by kernel_rfl) ⟨curveOnK, curveIMinusK, curveIZeroK, trivial⟩
theorem curveNegK : CallOk Tryd.prog (Glob globsF) 35 curveNegE :=
  fun_ok (cx := curveNegX) curveNegC (fn := Tryd.f35) Tryd.func35 (by kernel_rfl) Tryd.ntmps35 Tryd.call35 _ _ _ (by kernel_rfl) (by kernel_rfl) (by kernel_rfl)
    (fun w0 hG => lall_of lall_nil (by kernel_rfl : loopsOf (bodyOf Tryd.f35) = _)) (fun p => Eq.trans (b := curveNegB p) (by kernel_rfl) (curveNeg_eq p).symm)

noncomputable def ref05NegE : Entry := mkE [.st [.u256, .u256, .bool]] [.st [.u256, .u256, .bool], .int .i64] fun p => ref05Neg p

noncomputable def ref05NegX : Cx := mkCx Tryd.prog 12 globsF [(38, ref05OnE), (67, ref05INegE)] [] []
theorem ref05NegC : CxOk ref05NegX (Glob globsF) := cx_ok (by kernel_rfl) (by kernel_rfl) ⟨ref05OnK, ref05INegK, trivial⟩
theorem ref05NegK : CallOk Tryd.prog (Glob globsF) 36 ref05NegE :=
  fun_ok (cx := ref05NegX) ref05NegC (fn := Tryd.f36) Tryd.func36 (by kernel_rfl) Tryd.ntmps36 Tryd.call36 _ _ _ (by kernel_rfl) (by kernel_rfl) (by kernel_rfl)
    (fun w0 hG => lall_of lall_nil (by kernel_rfl : loopsOf (bodyOf Tryd.f36) = _)) (fun p => Eq.trans (b := ref05NegB p) (by kernel_rfl) (ref05Neg_eq p).symm)

noncomputable def law05INumE : Entry := mkE [.int .i64] [.int .i64] fun p => law05INum p

noncomputable def law05INumX : Cx := mkCx Tryd.prog 4 globsF [] [] []
theorem law05INumC : CxOk law05INumX (Glob globsF) := cx_ok (by kernel_rfl) (by kernel_rfl) trivial
theorem law05INumK : CallOk Tryd.prog (Glob globsF) 20 law05INumE :=
  fun_ok (cx := law05INumX) law05INumC (fn := Tryd.f20) Tryd.func20 (by kernel_rfl) Tryd.ntmps20 Tryd.call20 _ _ _ (by kernel_rfl) (by kernel_rfl) (by kernel_rfl)
    (fun w0 hG => lall_of lall_nil (by kernel_rfl : loopsOf (bodyOf Tryd.f20) = _)) (fun p => Eq.trans (b := law05INumB p) (by kernel_rfl) (law05INum_eq p).symm)

noncomputable def curveGE : Entry := mkE [] [.st [.u256, .u256, .bool]] fun _ => curveG

noncomputable def curveGX : Cx := mkCx Tryd.prog 20 globsG [] [] []
theorem curveGC : CxOk curveGX (Glob globsG) := cx_ok (by kernel_rfl) (by kernel_rfl) trivial
theorem curveGK : CallOk Tryd.prog (Glob globsG) 39 curveGE :=
  fun_ok (cx := curveGX) curveGC (fn := Tryd.f39) Tryd.func39 (by kernel_rfl) Tryd.ntmps39 Tryd.call39 _ _ _ (by kernel_rfl) (by kernel_rfl) (by kernel_rfl)
    (fun w0 hG => lall_of lall_nil (by kernel_rfl : loopsOf (bodyOf Tryd.f39) = _)) (fun p => Eq.trans (b := curveGB ) (by kernel_rfl) (curveG_eq ).symm)

noncomputable def ref05GE : Entry := mkE [] [.st [.u256, .u256, .bool]] fun _ => ref05G

noncomputable def ref05GX : Cx := mkCx Tryd.prog 8 globsF [] [] []
theorem ref05GC : CxOk ref05GX (Glob globsF) := cx_ok (by kernel_rfl) (by kernel_rfl) trivial
theorem ref05GK : CallOk Tryd.prog (Glob globsF) 40 ref05GE :=
  fun_ok (cx := ref05GX) ref05GC (fn := Tryd.f40) Tryd.func40 (by kernel_rfl) Tryd.ntmps40 Tryd.call40 _ _ _ (by kernel_rfl) (by kernel_rfl) (by kernel_rfl)
    (fun w0 hG => lall_of lall_nil (by kernel_rfl : loopsOf (bodyOf Tryd.f40) = _)) (fun p => Eq.trans (b := ref05GB ) (by kernel_rfl) (ref05G_eq ).symm)

noncomputable def law05CurveAddsE : Entry := mkE [.st [.u256, .u256, .bool], .st [.u256, .u256, .bool]] [.bool] fun p => law05CurveAdds p.1 p.2

noncomputable def law05CurveAddsX : Cx := mkCx Tryd.prog 97 globsG [(20, law05INumE), (31, curveAddE), (32, ref05AddE), (33, curveDoubleE), (34, ref05DoubleE), (35, curveNegE), (36, ref05NegE), (37, curveOnE), (38, ref05OnE), (39, curveGE), (40, ref05GE)] [] []
theorem law05CurveAddsC : CxOk law05CurveAddsX (Glob globsG) := cx_ok (by kernel_rfl) (by kernel_rfl) ⟨(law05INumK.up globsFG), (curveAddK.up globsFG), (ref05AddK.up globsFG), (curveDoubleK.up globsFG), (ref05DoubleK.up globsFG), (curveNegK.up globsFG), (ref05NegK.up globsFG), (curveOnK.up globsFG), (ref05OnK.up globsFG), curveGK, (ref05GK.up globsFG), trivial⟩
theorem law05CurveAddsK : CallOk Tryd.prog (Glob globsG) 7 law05CurveAddsE :=
  fun_ok (cx := law05CurveAddsX) law05CurveAddsC (fn := Tryd.f7) Tryd.func7 (by kernel_rfl) Tryd.ntmps7 Tryd.call7 _ _ _ (by kernel_rfl) (by kernel_rfl) (by kernel_rfl)
    (fun w0 hG => lall_of lall_nil (by kernel_rfl : loopsOf (bodyOf Tryd.f7) = _)) (fun p => Eq.trans (b := law05CurveAddsB p.1 p.2) (by kernel_rfl) (law05CurveAdds_eq p.1 p.2).symm)

noncomputable def ref05SumE : Entry := mkE [.isl false .pt] [.st [.u256, .u256, .bool], .int .i64] fun p => ref05Sum p

def ref05SumL0Y : Lay := ⟨[(false, 2, .ptr 1002 [])], [(false, 0, .isl false .pt), (false, 4, .int .i64), (true, 1002, .st [.u256, .u256, .bool])], [⟨[(1002, 1002)], []⟩]⟩
def ref05SumL0Z : List (Ex × Lay) := [(.ret, ⟨[(false, 2, .ptr 1002 []), (false, 3, .int .i64 50)], [(true, 1002, .st [.u256, .u256, .bool])], [⟨[(1002, 1002)], []⟩]⟩), (.exit 0, ⟨[(false, 2, .ptr 1002 [])], [(false, 0, .isl false .pt), (true, 1002, .st [.u256, .u256, .bool])], [⟨[(1002, 1002)], []⟩]⟩)]
noncomputable def ref05SumL0E : LEntry := mkL ref05SumL0Y ref05SumL0Z fun p => ref05SumL0 p.1 p.2.1 p.2.2
def ref05SumL1Y : Lay := ⟨[(false, 2, .ptr 1002 []), (false, 6, .ptr 1006 [])], [(false, 0, .isl false .pt), (false, 7, .int .i64), (true, 1002, .st [.u256, .u256, .bool]), (true, 1006, .st [.u256, .u256, .bool])], [⟨[(1002, 1002), (1006, 1006)], []⟩]⟩
def ref05SumL1Z : List (Ex × Lay) := [(.exit 2, ⟨[(false, 2, .ptr 1002 []), (false, 6, .ptr 1006 [])], [(true, 1002, .st [.u256, .u256, .bool]), (true, 1006, .st [.u256, .u256, .bool])], [⟨[(1002, 1002), (1006, 1006)], []⟩]⟩)]
noncomputable def ref05SumL1E : LEntry := mkL ref05SumL1Y ref05SumL1Z fun p => ref05SumL1 p.1 p.2.1 p.2.2.1 p.2.2.2
noncomputable def ref05SumX : Cx := mkCx Tryd.prog 36 globsF [(38, ref05OnE), (71, ref05IIdentityE), (72, ref05IPlusE)] [(2, ref05SumL0E), (9, ref05SumL1E)] []
theorem ref05SumC : CxOk ref05SumX (Glob globsF) := cx_ok (by kernel_rfl) (by kernel_rfl) ⟨ref05OnK, ref05IIdentityK, ref05IPlusK, trivial⟩
theorem ref05SumL0K (w0 : Ini) (hG : Glob globsF w0) : LoopOk ref05SumX w0 (loopAt Tryd.f25 0) ref05SumL0E :=
  loop_okH ref05SumC hG (loopAt Tryd.f25 0) (lall_of lall_nil (by kernel_rfl : loopsOf (loopAt Tryd.f25 0) = _))
    ref05SumL0Y ref05SumL0Z (by kernel_rfl) (fun p => ref05SumL0R p.1 p.2.1 p.2.2) (fun p => bigFuel) (fun p => by kernel_rfl) _ (fun p => ref05SumL0_eq p.1 p.2.1 p.2.2)
theorem ref05SumL1K (w0 : Ini) (hG : Glob globsF w0) : LoopOk ref05SumX w0 (loopAt Tryd.f25 1) ref05SumL1E :=
  loop_okH ref05SumC hG (loopAt Tryd.f25 1) (lall_of lall_nil (by kernel_rfl : loopsOf (loopAt Tryd.f25 1) = _))
    ref05SumL1Y ref05SumL1Z (by kernel_rfl) (fun p => ref05SumL1R p.1 p.2.1 p.2.2.1 p.2.2.2) (fun p => bigFuel) (fun p => by kernel_rfl) _ (fun p => ref05SumL1_eq p.1 p.2.1 p.2.2.1 p.2.2.2)
theorem ref05SumK : CallOk Tryd.prog (Glob globsF) 25 ref05SumE :=
  fun_ok (cx := ref05SumX) ref05SumC (fn := Tryd.f25) Tryd.func25 (by kernel_rfl) Tryd.ntmps25 Tryd.call25 _ _ _ (by kernel_rfl) (by kernel_rfl) (by kernel_rfl)
    (fun w0 hG => lall_of (lall_cut (b := loopAt Tryd.f25 0) (ref05SumL0K w0 hG) (by kernel_rfl) (lall_cut (b := loopAt Tryd.f25 1) (ref05SumL1K w0 hG) (by kernel_rfl) (lall_nil))) (by kernel_rfl : loopsOf (bodyOf Tryd.f25) = _)) (fun p => Eq.trans (b := ref05SumB p) (by kernel_rfl) (ref05Sum_eq p).symm)

noncomputable def law05CurveSumsE : Entry := mkE [.isl false .pt] [.bool] fun p => law05CurveSums p

def law05CurveSumsL0Y : Lay := ⟨[(false, 3, .own 1013 .pt), (false, 4, .ptr 1004 []), (false, 5, .ptr 1005 []), (false, 7, .ptr 1007 [])], [(false, 0, .isl false .pt), (false, 6, .int .i64), (false, 8, .int .i64), (false, 9, .int .i64), (true, 1004, .st [.u256, .u256, .bool]), (true, 1005, .st [.u256, .u256, .bool]), (true, 1007, .st [.u256, .u256, .bool]), (true, 1013, .row .pt)], [⟨[(1013, 1013), (1004, 1004), (1005, 1005), (1007, 1007)], []⟩]⟩
def law05CurveSumsL0Z : List (Ex × Lay) := [(.ret, ⟨[(false, 2, .bool false)], [], [⟨[], []⟩]⟩), (.exit 0, ⟨[(false, 3, .own 1013 .pt), (false, 4, .ptr 1004 []), (false, 5, .ptr 1005 []), (false, 7, .ptr 1007 [])], [(false, 0, .isl false .pt), (false, 6, .int .i64), (false, 8, .int .i64), (true, 1004, .st [.u256, .u256, .bool]), (true, 1005, .st [.u256, .u256, .bool]), (true, 1007, .st [.u256, .u256, .bool]), (true, 1013, .row .pt)], [⟨[(1013, 1013), (1004, 1004), (1005, 1005), (1007, 1007)], []⟩]⟩)]
noncomputable def law05CurveSumsL0E : LEntry := mkL law05CurveSumsL0Y law05CurveSumsL0Z fun p => law05CurveSumsL0 p.1 p.2.1 p.2.2.1 p.2.2.2.1 p.2.2.2.2.1 p.2.2.2.2.2.1 p.2.2.2.2.2.2.1 p.2.2.2.2.2.2.2
noncomputable def law05CurveSumsX : Cx := mkCx Tryd.prog 86 globsF [(20, law05INumE), (24, curveSumE), (25, ref05SumE)] [(9, law05CurveSumsL0E)] []
theorem law05CurveSumsC : CxOk law05CurveSumsX (Glob globsF) := cx_ok (by kernel_rfl) (by kernel_rfl) ⟨law05INumK, curveSumK, ref05SumK, trivial⟩
theorem law05CurveSumsL0K (w0 : Ini) (hG : Glob globsF w0) : LoopOk law05CurveSumsX w0 (loopAt Tryd.f5 0) law05CurveSumsL0E :=
  loop_okH law05CurveSumsC hG (loopAt Tryd.f5 0) (lall_of lall_nil (by kernel_rfl : loopsOf (loopAt Tryd.f5 0) = _))
    law05CurveSumsL0Y law05CurveSumsL0Z (by kernel_rfl) (fun p => law05CurveSumsL0R p.1 p.2.1 p.2.2.1 p.2.2.2.1 p.2.2.2.2.1 p.2.2.2.2.2.1 p.2.2.2.2.2.2.1 p.2.2.2.2.2.2.2) (fun p => bigFuel) (fun p => by kernel_rfl) _ (fun p => law05CurveSumsL0_eq p.1 p.2.1 p.2.2.1 p.2.2.2.1 p.2.2.2.2.1 p.2.2.2.2.2.1 p.2.2.2.2.2.2.1 p.2.2.2.2.2.2.2)
theorem law05CurveSumsK : CallOk Tryd.prog (Glob globsF) 5 law05CurveSumsE :=
  fun_ok (cx := law05CurveSumsX) law05CurveSumsC (fn := Tryd.f5) Tryd.func5 (by kernel_rfl) Tryd.ntmps5 Tryd.call5 _ _ _ (by kernel_rfl) (by kernel_rfl) (by kernel_rfl)
    (fun w0 hG => lall_of (lall_cut (b := loopAt Tryd.f5 0) (law05CurveSumsL0K w0 hG) (by kernel_rfl) (lall_nil)) (by kernel_rfl : loopsOf (bodyOf Tryd.f5) = _)) (fun p => Eq.trans (b := law05CurveSumsB p) (by kernel_rfl) (law05CurveSums_eq p).symm)

noncomputable def curveLiftE : Entry := mkE [.u256, .bool] [.st [.u256, .u256, .bool], .int .i64] fun p => curveLift p.1 p.2

noncomputable def curveLiftX : Cx := mkCx Tryd.prog 29 globsF [(58, u256CmpE), (59, curveIPrimeE), (60, fieldRootE), (61, curveIRightE), (62, curveIMinusE), (63, curveIZeroE)] [] []
theorem curveLiftC : CxOk curveLiftX (Glob globsF) := cx_ok (by kernel_rfl) (by kernel_rfl) ⟨u256CmpK, curveIPrimeK, fieldRootK, curveIRightK, curveIMinusK, curveIZeroK, trivial⟩
theorem curveLiftK : CallOk Tryd.prog (Glob globsF) 22 curveLiftE :=
  fun_ok (cx := curveLiftX) curveLiftC (fn := Tryd.f22) Tryd.func22 (by kernel_rfl) Tryd.ntmps22 Tryd.call22 _ _ _ (by kernel_rfl) (by kernel_rfl) (by kernel_rfl)
    (fun w0 hG => lall_of lall_nil (by kernel_rfl : loopsOf (bodyOf Tryd.f22) = _)) (fun p => Eq.trans (b := curveLiftB p.1 p.2) (by kernel_rfl) (curveLift_eq p.1 p.2).symm)

noncomputable def ref05LiftE : Entry := mkE [.u256, .bool] [.st [.u256, .u256, .bool], .int .i64] fun p => ref05Lift p.1 p.2

noncomputable def ref05LiftX : Cx := mkCx Tryd.prog 29 globsF [(64, ref05ILowE), (65, ref04RootE), (66, ref05ICubicE), (67, ref05INegE)] [] []
theorem ref05LiftC : CxOk ref05LiftX (Glob globsF) := cx_ok (by kernel_rfl) (by kernel_rfl) ⟨ref05ILowK, ref04RootK, ref05ICubicK, ref05INegK, trivial⟩
theorem ref05LiftK : CallOk Tryd.prog (Glob globsF) 23 ref05LiftE :=
  fun_ok (cx := ref05LiftX) ref05LiftC (fn := Tryd.f23) Tryd.func23 (by kernel_rfl) Tryd.ntmps23 Tryd.call23 _ _ _ (by kernel_rfl) (by kernel_rfl) (by kernel_rfl)
    (fun w0 hG => lall_of lall_nil (by kernel_rfl : loopsOf (bodyOf Tryd.f23) = _)) (fun p => Eq.trans (b := ref05LiftB p.1 p.2) (by kernel_rfl) (ref05Lift_eq p.1 p.2).symm)

noncomputable def law05CurveLiftsE : Entry := mkE [.u256] [.bool] fun p => law05CurveLifts p

noncomputable def law05CurveLiftsX : Cx := mkCx Tryd.prog 51 globsF [(20, law05INumE), (22, curveLiftE), (23, ref05LiftE)] [] []
theorem law05CurveLiftsC : CxOk law05CurveLiftsX (Glob globsF) := cx_ok (by kernel_rfl) (by kernel_rfl) ⟨law05INumK, curveLiftK, ref05LiftK, trivial⟩
theorem law05CurveLiftsK : CallOk Tryd.prog (Glob globsF) 4 law05CurveLiftsE :=
  fun_ok (cx := law05CurveLiftsX) law05CurveLiftsC (fn := Tryd.f4) Tryd.func4 (by kernel_rfl) Tryd.ntmps4 Tryd.call4 _ _ _ (by kernel_rfl) (by kernel_rfl) (by kernel_rfl)
    (fun w0 hG => lall_of lall_nil (by kernel_rfl : loopsOf (bodyOf Tryd.f4) = _)) (fun p => Eq.trans (b := law05CurveLiftsB p) (by kernel_rfl) (law05CurveLifts_eq p).symm)

noncomputable def law05IZeroE : Entry := mkE [] [.st [.u256, .u256, .bool]] fun _ => law05IZero

noncomputable def law05IZeroX : Cx := mkCx Tryd.prog 2 globsF [] [] []
theorem law05IZeroC : CxOk law05IZeroX (Glob globsF) := cx_ok (by kernel_rfl) (by kernel_rfl) trivial
theorem law05IZeroK : CallOk Tryd.prog (Glob globsF) 45 law05IZeroE :=
  fun_ok (cx := law05IZeroX) law05IZeroC (fn := Tryd.f45) Tryd.func45 (by kernel_rfl) Tryd.ntmps45 Tryd.call45 _ _ _ (by kernel_rfl) (by kernel_rfl) (by kernel_rfl)
    (fun w0 hG => lall_of lall_nil (by kernel_rfl : loopsOf (bodyOf Tryd.f45) = _)) (fun p => Eq.trans (b := law05IZeroB ) (by kernel_rfl) (law05IZero_eq ).symm)

noncomputable def law05IBaseE : Entry := mkE [] [.bool] fun _ => law05IBase

noncomputable def law05IBaseX : Cx := mkCx Tryd.prog 43 globsG [(20, law05INumE), (33, curveDoubleE), (37, curveOnE), (39, curveGE), (45, law05IZeroE)] [] []
theorem law05IBaseC : CxOk law05IBaseX (Glob globsG) := cx_ok (by kernel_rfl) (by kernel_rfl) ⟨(law05INumK.up globsFG), (curveDoubleK.up globsFG), (curveOnK.up globsFG), curveGK, (law05IZeroK.up globsFG), trivial⟩
theorem law05IBaseK : CallOk Tryd.prog (Glob globsG) 43 law05IBaseE :=
  fun_ok (cx := law05IBaseX) law05IBaseC (fn := Tryd.f43) Tryd.func43 (by kernel_rfl) Tryd.ntmps43 Tryd.call43 _ _ _ (by kernel_rfl) (by kernel_rfl) (by kernel_rfl)
    (fun w0 hG => lall_of lall_nil (by kernel_rfl : loopsOf (bodyOf Tryd.f43) = _)) (fun p => Eq.trans (b := law05IBaseB ) (by kernel_rfl) (law05IBase_eq ).symm)

noncomputable def law05IPlusE : Entry := mkE [.st [.u256, .u256, .bool], .st [.u256, .u256, .bool]] [.st [.u256, .u256, .bool], .bool] fun p => law05IPlus p.1 p.2

noncomputable def law05IPlusX : Cx := mkCx Tryd.prog 22 globsF [(20, law05INumE), (31, curveAddE), (37, curveOnE)] [] []
theorem law05IPlusC : CxOk law05IPlusX (Glob globsF) := cx_ok (by kernel_rfl) (by kernel_rfl) ⟨law05INumK, curveAddK, curveOnK, trivial⟩
theorem law05IPlusK : CallOk Tryd.prog (Glob globsF) 44 law05IPlusE :=
  fun_ok (cx := law05IPlusX) law05IPlusC (fn := Tryd.f44) Tryd.func44 (by kernel_rfl) Tryd.ntmps44 Tryd.call44 _ _ _ (by kernel_rfl) (by kernel_rfl) (by kernel_rfl)
    (fun w0 hG => lall_of lall_nil (by kernel_rfl : loopsOf (bodyOf Tryd.f44) = _)) (fun p => Eq.trans (b := law05IPlusB p.1 p.2) (by kernel_rfl) (law05IPlus_eq p.1 p.2).symm)

noncomputable def law05CurveGroupE : Entry := mkE [.st [.u256, .u256, .bool], .st [.u256, .u256, .bool], .st [.u256, .u256, .bool]] [.bool] fun p => law05CurveGroup p.1 p.2.1 p.2.2

noncomputable def law05CurveGroupX : Cx := mkCx Tryd.prog 186 globsG [(20, law05INumE), (24, curveSumE), (33, curveDoubleE), (35, curveNegE), (37, curveOnE), (43, law05IBaseE), (44, law05IPlusE), (45, law05IZeroE)] [] []
theorem law05CurveGroupC : CxOk law05CurveGroupX (Glob globsG) := cx_ok (by kernel_rfl) (by kernel_rfl) ⟨(law05INumK.up globsFG), (curveSumK.up globsFG), (curveDoubleK.up globsFG), (curveNegK.up globsFG), (curveOnK.up globsFG), law05IBaseK, (law05IPlusK.up globsFG), (law05IZeroK.up globsFG), trivial⟩
theorem law05CurveGroupK : CallOk Tryd.prog (Glob globsG) 9 law05CurveGroupE :=
  fun_ok (cx := law05CurveGroupX) law05CurveGroupC (fn := Tryd.f9) Tryd.func9 (by kernel_rfl) Tryd.ntmps9 Tryd.call9 _ _ _ (by kernel_rfl) (by kernel_rfl) (by kernel_rfl)
    (fun w0 hG => lall_of lall_nil (by kernel_rfl : loopsOf (bodyOf Tryd.f9) = _)) (fun p => Eq.trans (b := law05CurveGroupB p.1 p.2.1 p.2.2) (by kernel_rfl) (law05CurveGroup_eq p.1 p.2.1 p.2.2).symm)

end Go.Sy
