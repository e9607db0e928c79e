/- The links: each typed function is what the code computes. Printed by a program. -/
import Derived.Test.YtfappeeggccicaaDoorSyVC1
import Derived.Test.YtfappeeggccicaaDoorSyWT
set_option linter.unusedVariables false
set_option maxRecDepth 100000
namespace Go.Sy
open Go Go.Proofs

noncomputable def curveIZeroE : Entry := mkE [] [.u256] fun _ => curveIZero

noncomputable def curveIZeroX : Cx := mkCx Tryd.prog 2 globsF [] [] []
theorem curveIZeroC : CxOk curveIZeroX (Glob globsF) := cx_ok (by kernel_rfl) (by kernel_rfl) trivial
theorem curveIZeroK : CallOk Tryd.prog (Glob globsF) 73 curveIZeroE :=
  fun_ok (cx := curveIZeroX) curveIZeroC (fn := Tryd.f73) Tryd.func73 (by kernel_rfl) Tryd.ntmps73 Tryd.call73 _ _ _ (by kernel_rfl) (by kernel_rfl) (by kernel_rfl)
    (fun w0 hG => lall_of lall_nil (by kernel_rfl : loopsOf (bodyOf Tryd.f73) = _)) (fun p => Eq.trans (b := curveIZeroB ) (by kernel_rfl) (curveIZero_eq ).symm)

noncomputable def curveIPrimeE : Entry := mkE [] [.u256] fun _ => curveIPrime

noncomputable def curveIPrimeX : Cx := mkCx Tryd.prog 8 globsF [(58, fieldModulusE)] [] []
theorem curveIPrimeC : CxOk curveIPrimeX (Glob globsF) := cx_ok (by kernel_rfl) (by kernel_rfl) ⟨fieldModulusK, trivial⟩
theorem curveIPrimeK : CallOk Tryd.prog (Glob globsF) 74 curveIPrimeE :=
  fun_ok (cx := curveIPrimeX) curveIPrimeC (fn := Tryd.f74) Tryd.func74 (by kernel_rfl) Tryd.ntmps74 Tryd.call74 _ _ _ (by kernel_rfl) (by kernel_rfl) (by kernel_rfl)
    (fun w0 hG => lall_of lall_nil (by kernel_rfl : loopsOf (bodyOf Tryd.f74) = _)) (fun p => Eq.trans (b := curveIPrimeB ) (by kernel_rfl) (curveIPrime_eq ).symm)

noncomputable def curveISquareE : Entry := mkE [.u256] [.u256] fun p => curveISquare p

noncomputable def curveISquareX : Cx := mkCx Tryd.prog 11 globsF [(109, fieldSquareE)] [] []
theorem curveISquareC : CxOk curveISquareX (Glob globsF) := cx_ok (by kernel_rfl) (by kernel_rfl) ⟨fieldSquareK, trivial⟩
theorem curveISquareK : CallOk Tryd.prog (Glob globsF) 75 curveISquareE :=
  fun_ok (cx := curveISquareX) curveISquareC (fn := Tryd.f75) Tryd.func75 (by kernel_rfl) Tryd.ntmps75 Tryd.call75 _ _ _ (by kernel_rfl) (by kernel_rfl) (by kernel_rfl)
    (fun w0 hG => lall_of lall_nil (by kernel_rfl : loopsOf (bodyOf Tryd.f75) = _)) (fun p => Eq.trans (b := curveISquareB p) (by kernel_rfl) (curveISquare_eq p).symm)

noncomputable def curveITimesE : Entry := mkE [.u256, .u256] [.u256] fun p => curveITimes p.1 p.2

noncomputable def curveITimesX : Cx := mkCx Tryd.prog 14 globsF [(61, fieldMulE)] [] []
theorem curveITimesC : CxOk curveITimesX (Glob globsF) := cx_ok (by kernel_rfl) (by kernel_rfl) ⟨fieldMulK, trivial⟩
theorem curveITimesK : CallOk Tryd.prog (Glob globsF) 106 curveITimesE :=
  fun_ok (cx := curveITimesX) curveITimesC (fn := Tryd.f106) Tryd.func106 (by kernel_rfl) Tryd.ntmps106 Tryd.call106 _ _ _ (by kernel_rfl) (by kernel_rfl) (by kernel_rfl)
    (fun w0 hG => lall_of lall_nil (by kernel_rfl : loopsOf (bodyOf Tryd.f106) = _)) (fun p => Eq.trans (b := curveITimesB p.1 p.2) (by kernel_rfl) (curveITimes_eq p.1 p.2).symm)

noncomputable def curveIPlusE : Entry := mkE [.u256, .u256] [.u256] fun p => curveIPlus p.1 p.2

noncomputable def curveIPlusX : Cx := mkCx Tryd.prog 14 globsF [(62, fieldAddE)] [] []
theorem curveIPlusC : CxOk curveIPlusX (Glob globsF) := cx_ok (by kernel_rfl) (by kernel_rfl) ⟨fieldAddK, trivial⟩
theorem curveIPlusK : CallOk Tryd.prog (Glob globsF) 110 curveIPlusE :=
  fun_ok (cx := curveIPlusX) curveIPlusC (fn := Tryd.f110) Tryd.func110 (by kernel_rfl) Tryd.ntmps110 Tryd.call110 _ _ _ (by kernel_rfl) (by kernel_rfl) (by kernel_rfl)
    (fun w0 hG => lall_of lall_nil (by kernel_rfl : loopsOf (bodyOf Tryd.f110) = _)) (fun p => Eq.trans (b := curveIPlusB p.1 p.2) (by kernel_rfl) (curveIPlus_eq p.1 p.2).symm)

noncomputable def curveIRightE : Entry := mkE [.u256] [.u256] fun p => curveIRight p

noncomputable def curveIRightX : Cx := mkCx Tryd.prog 9 globsF [(75, curveISquareE), (106, curveITimesE), (110, curveIPlusE)] [] []
theorem curveIRightC : CxOk curveIRightX (Glob globsF) := cx_ok (by kernel_rfl) (by kernel_rfl) ⟨curveISquareK, curveITimesK, curveIPlusK, trivial⟩
theorem curveIRightK : CallOk Tryd.prog (Glob globsF) 76 curveIRightE :=
  fun_ok (cx := curveIRightX) curveIRightC (fn := Tryd.f76) Tryd.func76 (by kernel_rfl) Tryd.ntmps76 Tryd.call76 _ _ _ (by kernel_rfl) (by kernel_rfl) (by kernel_rfl)
    (fun w0 hG => lall_of lall_nil (by kernel_rfl : loopsOf (bodyOf Tryd.f76) = _)) (fun p => Eq.trans (b := curveIRightB p) (by kernel_rfl) (curveIRight_eq p).symm)

noncomputable def curveOnE : Entry := mkE [.st [.u256, .u256, .bool]] [.bool] fun p => curveOn p

noncomputable def curveOnX : Cx := mkCx Tryd.prog 36 globsF [(59, u256CmpE), (73, curveIZeroE), (74, curveIPrimeE), (75, curveISquareE), (76, curveIRightE)] [] []
theorem curveOnC : CxOk curveOnX (Glob globsF) := cx_ok (by kernel_rfl) (by kernel_rfl) ⟨u256CmpK, curveIZeroK, curveIPrimeK, curveISquareK, curveIRightK, trivial⟩
theorem curveOnK : CallOk Tryd.prog (Glob globsF) 45 curveOnE :=
  fun_ok (cx := curveOnX) curveOnC (fn := Tryd.f45) Tryd.func45 (by kernel_rfl) Tryd.ntmps45 Tryd.call45 _ _ _ (by kernel_rfl) (by kernel_rfl) (by kernel_rfl)
    (fun w0 hG => lall_of lall_nil (by kernel_rfl : loopsOf (bodyOf Tryd.f45) = _)) (fun p => Eq.trans (b := curveOnB p) (by kernel_rfl) (curveOn_eq p).symm)

noncomputable def curveIMinusE : Entry := mkE [.u256, .u256] [.u256] fun p => curveIMinus p.1 p.2

noncomputable def curveIMinusX : Cx := mkCx Tryd.prog 14 globsF [(131, fieldSubE)] [] []
theorem curveIMinusC : CxOk curveIMinusX (Glob globsF) := cx_ok (by kernel_rfl) (by kernel_rfl) ⟨fieldSubK, trivial⟩
theorem curveIMinusK : CallOk Tryd.prog (Glob globsF) 101 curveIMinusE :=
  fun_ok (cx := curveIMinusX) curveIMinusC (fn := Tryd.f101) Tryd.func101 (by kernel_rfl) Tryd.ntmps101 Tryd.call101 _ _ _ (by kernel_rfl) (by kernel_rfl) (by kernel_rfl)
    (fun w0 hG => lall_of lall_nil (by kernel_rfl : loopsOf (bodyOf Tryd.f101) = _)) (fun p => Eq.trans (b := curveIMinusB p.1 p.2) (by kernel_rfl) (curveIMinus_eq p.1 p.2).symm)

noncomputable def curveLiftE : Entry := mkE [.u256, .bool] [.st [.u256, .u256, .bool], .int .i64] fun p => curveLift p.1 p.2

noncomputable def curveLiftX : Cx := mkCx Tryd.prog 29 globsF [(59, u256CmpE), (73, curveIZeroE), (74, curveIPrimeE), (76, curveIRightE), (100, fieldRootE), (101, curveIMinusE)] [] []
theorem curveLiftC : CxOk curveLiftX (Glob globsF) := cx_ok (by kernel_rfl) (by kernel_rfl) ⟨u256CmpK, curveIZeroK, curveIPrimeK, curveIRightK, fieldRootK, curveIMinusK, trivial⟩
theorem curveLiftK : CallOk Tryd.prog (Glob globsF) 67 curveLiftE :=
  fun_ok (cx := curveLiftX) curveLiftC (fn := Tryd.f67) Tryd.func67 (by kernel_rfl) Tryd.ntmps67 Tryd.call67 _ _ _ (by kernel_rfl) (by kernel_rfl) (by kernel_rfl)
    (fun w0 hG => lall_of lall_nil (by kernel_rfl : loopsOf (bodyOf Tryd.f67) = _)) (fun p => Eq.trans (b := curveLiftB p.1 p.2) (by kernel_rfl) (curveLift_eq p.1 p.2).symm)

noncomputable def ref05IIdentityE : Entry := mkE [] [.st [.u256, .u256, .bool]] fun _ => ref05IIdentity

noncomputable def ref05IIdentityX : Cx := mkCx Tryd.prog 2 globsF [] [] []
theorem ref05IIdentityC : CxOk ref05IIdentityX (Glob globsF) := cx_ok (by kernel_rfl) (by kernel_rfl) trivial
theorem ref05IIdentityK : CallOk Tryd.prog (Glob globsF) 77 ref05IIdentityE :=
  fun_ok (cx := ref05IIdentityX) ref05IIdentityC (fn := Tryd.f77) Tryd.func77 (by kernel_rfl) Tryd.ntmps77 Tryd.call77 _ _ _ (by kernel_rfl) (by kernel_rfl) (by kernel_rfl)
    (fun w0 hG => lall_of lall_nil (by kernel_rfl : loopsOf (bodyOf Tryd.f77) = _)) (fun p => Eq.trans (b := ref05IIdentityB ) (by kernel_rfl) (ref05IIdentity_eq ).symm)

noncomputable def ref05ILowE : Entry := mkE [.u256] [.bool] fun p => ref05ILow p

noncomputable def ref05ILowX : Cx := mkCx Tryd.prog 13 globsF [(92, ref01CmpE), (111, ref04ModulusE)] [] []
theorem ref05ILowC : CxOk ref05ILowX (Glob globsF) := cx_ok (by kernel_rfl) (by kernel_rfl) ⟨ref01CmpK, ref04ModulusK, trivial⟩
theorem ref05ILowK : CallOk Tryd.prog (Glob globsF) 78 ref05ILowE :=
  fun_ok (cx := ref05ILowX) ref05ILowC (fn := Tryd.f78) Tryd.func78 (by kernel_rfl) Tryd.ntmps78 Tryd.call78 _ _ _ (by kernel_rfl) (by kernel_rfl) (by kernel_rfl)
    (fun w0 hG => lall_of lall_nil (by kernel_rfl : loopsOf (bodyOf Tryd.f78) = _)) (fun p => Eq.trans (b := ref05ILowB p) (by kernel_rfl) (ref05ILow_eq p).symm)

noncomputable def ref05IMulE : Entry := mkE [.u256, .u256] [.u256] fun p => ref05IMul p.1 p.2

noncomputable def ref05IMulX : Cx := mkCx Tryd.prog 14 globsF [(112, ref04MulE)] [] []
theorem ref05IMulC : CxOk ref05IMulX (Glob globsF) := cx_ok (by kernel_rfl) (by kernel_rfl) ⟨ref04MulK, trivial⟩
theorem ref05IMulK : CallOk Tryd.prog (Glob globsF) 79 ref05IMulE :=
  fun_ok (cx := ref05IMulX) ref05IMulC (fn := Tryd.f79) Tryd.func79 (by kernel_rfl) Tryd.ntmps79 Tryd.call79 _ _ _ (by kernel_rfl) (by kernel_rfl) (by kernel_rfl)
    (fun w0 hG => lall_of lall_nil (by kernel_rfl : loopsOf (bodyOf Tryd.f79) = _)) (fun p => Eq.trans (b := ref05IMulB p.1 p.2) (by kernel_rfl) (ref05IMul_eq p.1 p.2).symm)

noncomputable def ref05IAddE : Entry := mkE [.u256, .u256] [.u256] fun p => ref05IAdd p.1 p.2

noncomputable def ref05IAddX : Cx := mkCx Tryd.prog 14 globsF [(137, ref04AddE)] [] []
theorem ref05IAddC : CxOk ref05IAddX (Glob globsF) := cx_ok (by kernel_rfl) (by kernel_rfl) ⟨ref04AddK, trivial⟩
theorem ref05IAddK : CallOk Tryd.prog (Glob globsF) 113 ref05IAddE :=
  fun_ok (cx := ref05IAddX) ref05IAddC (fn := Tryd.f113) Tryd.func113 (by kernel_rfl) Tryd.ntmps113 Tryd.call113 _ _ _ (by kernel_rfl) (by kernel_rfl) (by kernel_rfl)
    (fun w0 hG => lall_of lall_nil (by kernel_rfl : loopsOf (bodyOf Tryd.f113) = _)) (fun p => Eq.trans (b := ref05IAddB p.1 p.2) (by kernel_rfl) (ref05IAdd_eq p.1 p.2).symm)

noncomputable def ref05ICubicE : Entry := mkE [.u256] [.u256] fun p => ref05ICubic p

noncomputable def ref05ICubicX : Cx := mkCx Tryd.prog 12 globsF [(79, ref05IMulE), (88, ref01FromE), (113, ref05IAddE)] [] []
theorem ref05ICubicC : CxOk ref05ICubicX (Glob globsF) := cx_ok (by kernel_rfl) (by kernel_rfl) ⟨ref05IMulK, ref01FromK, ref05IAddK, trivial⟩
theorem ref05ICubicK : CallOk Tryd.prog (Glob globsF) 80 ref05ICubicE :=
  fun_ok (cx := ref05ICubicX) ref05ICubicC (fn := Tryd.f80) Tryd.func80 (by kernel_rfl) Tryd.ntmps80 Tryd.call80 _ _ _ (by kernel_rfl) (by kernel_rfl) (by kernel_rfl)
    (fun w0 hG => lall_of lall_nil (by kernel_rfl : loopsOf (bodyOf Tryd.f80) = _)) (fun p => Eq.trans (b := ref05ICubicB p) (by kernel_rfl) (ref05ICubic_eq p).symm)

noncomputable def ref05OnE : Entry := mkE [.st [.u256, .u256, .bool]] [.bool] fun p => ref05On p

noncomputable def ref05OnX : Cx := mkCx Tryd.prog 27 globsF [(77, ref05IIdentityE), (78, ref05ILowE), (79, ref05IMulE), (80, ref05ICubicE)] [] []
theorem ref05OnC : CxOk ref05OnX (Glob globsF) := cx_ok (by kernel_rfl) (by kernel_rfl) ⟨ref05IIdentityK, ref05ILowK, ref05IMulK, ref05ICubicK, trivial⟩
theorem ref05OnK : CallOk Tryd.prog (Glob globsF) 46 ref05OnE :=
  fun_ok (cx := ref05OnX) ref05OnC (fn := Tryd.f46) Tryd.func46 (by kernel_rfl) Tryd.ntmps46 Tryd.call46 _ _ _ (by kernel_rfl) (by kernel_rfl) (by kernel_rfl)
    (fun w0 hG => lall_of lall_nil (by kernel_rfl : loopsOf (bodyOf Tryd.f46) = _)) (fun p => Eq.trans (b := ref05OnB p) (by kernel_rfl) (ref05On_eq p).symm)

end Go.Sy
