/- The links: each typed function is what the code computes. Printed by a program. -/

import Derived.Test.YtfappeeggccicaaDoorSyVC1

import Derived.Test.YtfappeeggccicaaDoorSyWT

set_option linter.unusedVariables false

set_option maxRecDepth 100000

namespace Go.Sy

open Go Go.Proofs

noncomputable def curveIZeroE : Entry := mkE [] [.u256] fun _ => curveIZero

noncomputable def curveIZeroX : Cx := mkCx Tryd.prog 2 globsF [] [] []

theorem curveIZeroC : CxOk curveIZeroX (Glob globsF) := cx_ok (by kernel_rfl) (by kernel_rfl) trivial

theorem curveIZeroK : CallOk Tryd.prog (Glob globsF) 73 curveIZeroE :=
  fun_ok (cx := curveIZeroX) curveIZeroC (fn := Tryd.f73) Tryd.func73 (by kernel_rfl) Tryd.ntmps73 Tryd.call73 _ _ _ (by kernel_rfl) (by kernel_rfl) (by kernel_rfl)
    (fun w0 hG => lall_of lall_nil (by kernel_rfl : loopsOf (bodyOf Tryd.f73) = _)) (fun p => Eq.trans (b := curveIZeroB ) (by kernel_rfl) (curveIZero_eq ).symm)

noncomputable def curveIPrimeE : Entry := mkE [] [.u256] fun _ => curveIPrime

noncomputable def curveIPrimeX : Cx := mkCx Tryd.prog 8 globsF [(58, fieldModulusE)] [] []

theorem curveIPrimeC : CxOk curveIPrimeX (Glob globsF) := cx_ok (by kernel_rfl) (by kernel_rfl) ⟨fieldModulusK, trivial⟩

theorem curveIPrimeK : CallOk Tryd.prog (Glob globsF) 74 curveIPrimeE :=
  fun_ok (cx := curveIPrimeX) curveIPrimeC (fn := Tryd.f74) Tryd.func74 (by kernel_rfl) Tryd.ntmps74 Tryd.call74 _ _ _ (by kernel_rfl) (by kernel_rfl) (by kernel_rfl)
    (fun w0 hG => lall_of lall_nil (by kernel_rfl : loopsOf (bodyOf Tryd.f74) = _)) (fun p => Eq.trans (b := curveIPrimeB ) (by kernel_rfl) (curveIPrime_eq ).symm)

noncomputable def curveISquareE : Entry := mkE [.u256] [.u256] fun p => curveISquare p

noncomputable def curveISquareX : Cx := mkCx Tryd.prog 11 globsF [(109, fieldSquareE)] [] []

theorem curveISquareC : CxOk curveISquareX (Glob globsF) := cx_ok (by kernel_rfl) (by kernel_rfl) ⟨fieldSquareK, trivial⟩

theorem curveISquareK : CallOk Tryd.prog (Glob globsF) 75 curveISquareE :=
  fun_ok (cx := curveISquareX) curveISquareC (fn := Tryd.f75) Tryd.func75 (by kernel_rfl) Tryd.ntmps75 Tryd.call75 _ _ _ (by kernel_rfl) (by kernel_rfl) (by kernel_rfl)
    (fun w0 hG => lall_of lall_nil (by kernel_rfl : loopsOf (bodyOf Tryd.f75) = _)) (fun p => Eq.trans (b := curveISquareB p) (by kernel_rfl) (curveISquare_eq p).symm)

noncomputable def curveITimesE : Entry := mkE [.u256, .u256] [.u256] fun p => curveITimes p.1 p.2

noncomputable def curveITimesX : Cx := mkCx Tryd.prog 14 globsF [(61, fieldMulE)] [] []

theorem curveITimesC : CxOk curveITimesX (Glob globsF) := cx_ok (by kernel_rfl) (by kernel_rfl) ⟨fieldMulK, trivial⟩

theorem curveITimesK : CallOk Tryd.prog (Glob globsF) 106 curveITimesE :=
  fun_ok (cx := curveITimesX) curveITimesC (fn := Tryd.f106) Tryd.func106 (by kernel_rfl) Tryd.ntmps106 Tryd.call106 _ _ _ (by kernel_rfl) (by kernel_rfl) (by kernel_rfl)
    (fun w0 hG => lall_of lall_nil (by kernel_rfl : loopsOf (bodyOf Tryd.f106) = _)) (fun p => Eq.trans (b := curveITimesB p.1 p.2) (by kernel_rfl) (curveITimes_eq p.1 p.2).symm)

noncomputable def curveIPlusE : Entry := mkE [.u256, .u256] [.u256] fun p => curveIPlus p.1 p.2

noncomputable def curveIPlusX : Cx := mkCx Tryd.prog 14 globsF [(62, fieldAddE)] [] []

theorem curveIPlusC : CxOk curveIPlusX (Glob globsF) := cx_ok (by kernel_rfl) (by kernel_rfl) ⟨fieldAddK, trivial⟩

theorem curveIPlusK : CallOk Tryd.prog (Glob globsF) 110 curveIPlusE :=
  fun_ok (cx := curveIPlusX) curveIPlusC (fn := Tryd.f110) Tryd.func110 (by kernel_rfl) Tryd.ntmps110 Tryd.call110 _ _ _ (by kernel_rfl) (by kernel_rfl) (by kernel_rfl)
    (fun w0 hG => lall_of lall_nil (by kernel_rfl : loopsOf (bodyOf Tryd.f110) = _)) (fun p => Eq.trans (b := curveIPlusB p.1 p.2) (by kernel_rfl) (curveIPlus_eq p.1 p.2).symm)

noncomputable def curveIRightE : Entry := mkE [.u256] [.u256] fun p => curveIRight p

noncomputable def curveIRightX : Cx := mkCx Tryd.prog 9 globsF [(75, curveISquareE), (106, curveITimesE), (110, curveIPlusE)] [] []

theorem curveIRightC : CxOk curveIRightX (Glob globsF) := cx_ok (by kernel_rfl) (by kernel_rfl) ⟨curveISquareK, curveITimesK, curveIPlusK, trivial⟩

theorem curveIRightK : CallOk Tryd.prog (Glob globsF) 76 curveIRightE :=
  fun_ok (cx := curveIRightX) curveIRightC (fn := Tryd.f76) Tryd.func76 (by kernel_rfl) Tryd.ntmps76 Tryd.call76 _ _ _ (by kernel_rfl) (by kernel_rfl) (by kernel_rfl)
    (fun w0 hG => lall_of lall_nil (by kernel_rfl : loopsOf (bodyOf Tryd.f76) = _)) (fun p => Eq.trans (b := curveIRightB p) (by kernel_rfl) (curveIRight_eq p).symm)

noncomputable def curveOnE : Entry := mkE [.st [.u256, .u256, .bool]] [.bool] fun p => curveOn p

noncomputable def curveOnX : Cx := mkCx Tryd.prog 36 globsF [(59, u256CmpE), (73, curveIZeroE), (74, curveIPrimeE), (75, curveISquareE), (76, curveIRightE)] [] []

theorem curveOnC : CxOk curveOnX (Glob globsF) := cx_ok (by kernel_rfl) (by kernel_rfl) ⟨u256CmpK, curveIZeroK, curveIPrimeK, curveISquareK, curveIRightK, trivial⟩

theorem curveOnK : CallOk Tryd.prog (Glob globsF) 45 curveOnE :=
  fun_ok (cx := curveOnX) curveOnC (fn := Tryd.f45) Tryd.func45 (by kernel_rfl) Tryd.ntmps45 Tryd.call45 _ _ _ (by kernel_rfl) (by kernel_rfl) (by kernel_rfl)
    (fun w0 hG => lall_of lall_nil (by kernel_rfl : loopsOf (bodyOf Tryd.f45) = _)) (fun p => Eq.trans (b := curveOnB p) (by kernel_rfl) (curveOn_eq p).symm)

noncomputable def curveIMinusE : Entry := mkE [.u256, .u256] [.u256] fun p => curveIMinus p.1 p.2

noncomputable def curveIMinusX : Cx := mkCx Tryd.prog 14 globsF [(131, fieldSubE)] [] []

theorem curveIMinusC : CxOk curveIMinusX (Glob globsF) := cx_ok (by kernel_rfl) (by kernel_rfl) ⟨fieldSubK, trivial⟩

theorem curveIMinusK : CallOk Tryd.prog (Glob globsF) 101 curveIMinusE :=
  fun_ok (cx := curveIMinusX) curveIMinusC (fn := Tryd.f101) Tryd.func101 (by kernel_rfl) Tryd.ntmps101 Tryd.call101 _ _ _ (by kernel_rfl) (by kernel_rfl) (by kernel_rfl)
    (fun w0 hG => lall_of lall_nil (by kernel_rfl : loopsOf (bodyOf Tryd.f101) = _)) (fun p => Eq.trans (b := curveIMinusB p.1 p.2) (by kernel_rfl) (curveIMinus_eq p.1 p.2).symm)

noncomputable def curveLiftE : Entry := mkE [.u256, .bool] [.st [.u256, .u256, .bool], .int .i64] fun p => curveLift p.1 p.2

noncomputable def curveLiftX : Cx := mkCx Tryd.prog 29 globsF [(59, u256CmpE), (73, curveIZeroE), (74, curveIPrimeE), (76, curveIRightE), (100, fieldRootE), (101, curveIMinusE)] [] []

theorem curveLiftC : CxOk curveLiftX (Glob globsF) := cx_ok (by kernel_rfl) (by kernel_rfl) ⟨u256CmpK, curveIZeroK, curveIPrimeK, curveIRightK, fieldRootK, curveIMinusK, trivial⟩

theorem curveLiftK : CallOk Tryd.prog (Glob globsF) 67 curveLiftE :=
  fun_ok (cx := curveLiftX) curveLiftC (fn := Tryd.f67) Tryd.func67 (by kernel_rfl) Tryd.ntmps67 Tryd.call67 _ _ _ (by kernel_rfl) (by kernel_rfl) (by kernel_rfl)
    (fun w0 hG => lall_of lall_nil (by kernel_rfl : loopsOf (bodyOf Tryd.f67) = _)) (fun p => Eq.trans (b := curveLiftB p.1 p.2) (by kernel_rfl) (curveLift_eq p.1 p.2).symm)

noncomputable def curveGE : Entry := mkE [] [.st [.u256, .u256, .bool]] fun _ => curveG

noncomputable def curveGX : Cx := mkCx Tryd.prog 20 globs0x1 [] [] []

theorem curveGC : CxOk curveGX (Glob globs0x1) := cx_ok (by kernel_rfl) (by kernel_rfl) trivial

theorem curveGK : CallOk Tryd.prog (Glob globs0x1) 105 curveGE :=
  fun_ok (cx := curveGX) curveGC (fn := Tryd.f105) Tryd.func105 (by kernel_rfl) Tryd.ntmps105 Tryd.call105 _ _ _ (by kernel_rfl) (by kernel_rfl) (by kernel_rfl)
    (fun w0 hG => lall_of lall_nil (by kernel_rfl : loopsOf (bodyOf Tryd.f105) = _)) (fun p => Eq.trans (b := curveGB ) (by kernel_rfl) (curveG_eq ).symm)

noncomputable def curveIOneE : Entry := mkE [] [.u256] fun _ => curveIOne

noncomputable def curveIOneX : Cx := mkCx Tryd.prog 2 globsF [] [] []

theorem curveIOneC : CxOk curveIOneX (Glob globsF) := cx_ok (by kernel_rfl) (by kernel_rfl) trivial

theorem curveIOneK : CallOk Tryd.prog (Glob globsF) 133 curveIOneE :=
  fun_ok (cx := curveIOneX) curveIOneC (fn := Tryd.f133) Tryd.func133 (by kernel_rfl) Tryd.ntmps133 Tryd.call133 _ _ _ (by kernel_rfl) (by kernel_rfl) (by kernel_rfl)
    (fun w0 hG => lall_of lall_nil (by kernel_rfl : loopsOf (bodyOf Tryd.f133) = _)) (fun p => Eq.trans (b := curveIOneB ) (by kernel_rfl) (curveIOne_eq ).symm)

noncomputable def curveIOfE : Entry := mkE [.st [.u256, .u256, .bool]] [.st [.u256, .u256, .u256]] fun p => curveIOf p

noncomputable def curveIOfX : Cx := mkCx Tryd.prog 12 globsF [(133, curveIOneE)] [] []

theorem curveIOfC : CxOk curveIOfX (Glob globsF) := cx_ok (by kernel_rfl) (by kernel_rfl) ⟨curveIOneK, trivial⟩

theorem curveIOfK : CallOk Tryd.prog (Glob globsF) 103 curveIOfE :=
  fun_ok (cx := curveIOfX) curveIOfC (fn := Tryd.f103) Tryd.func103 (by kernel_rfl) Tryd.ntmps103 Tryd.call103 _ _ _ (by kernel_rfl) (by kernel_rfl) (by kernel_rfl)
    (fun w0 hG => lall_of lall_nil (by kernel_rfl : loopsOf (bodyOf Tryd.f103) = _)) (fun p => Eq.trans (b := curveIOfB p) (by kernel_rfl) (curveIOf_eq p).symm)

noncomputable def curveJacobianDoubleE : Entry := mkE [.st [.u256, .u256, .u256]] [.st [.u256, .u256, .u256]] fun p => curveJacobianDouble p

noncomputable def curveJacobianDoubleX : Cx := mkCx Tryd.prog 66 globsF [(73, curveIZeroE), (75, curveISquareE), (101, curveIMinusE), (106, curveITimesE), (110, curveIPlusE)] [] []

theorem curveJacobianDoubleC : CxOk curveJacobianDoubleX (Glob globsF) := cx_ok (by kernel_rfl) (by kernel_rfl) ⟨curveIZeroK, curveISquareK, curveIMinusK, curveITimesK, curveIPlusK, trivial⟩

theorem curveJacobianDoubleK : CallOk Tryd.prog (Glob globsF) 132 curveJacobianDoubleE :=
  fun_ok (cx := curveJacobianDoubleX) curveJacobianDoubleC (fn := Tryd.f132) Tryd.func132 (by kernel_rfl) Tryd.ntmps132 Tryd.call132 _ _ _ (by kernel_rfl) (by kernel_rfl) (by kernel_rfl)
    (fun w0 hG => lall_of (lall_free (b := loopAt Tryd.f132 0) (by kernel_rfl) (lall_nil)) (by kernel_rfl : loopsOf (bodyOf Tryd.f132) = _)) (fun p => Eq.trans (b := curveJacobianDoubleB p) (by kernel_rfl) (curveJacobianDouble_eq p).symm)

noncomputable def curveJacobianAddE : Entry := mkE [.st [.u256, .u256, .u256], .st [.u256, .u256, .u256]] [.st [.u256, .u256, .u256]] fun p => curveJacobianAdd p.1 p.2

noncomputable def curveJacobianAddX : Cx := mkCx Tryd.prog 104 globsF [(73, curveIZeroE), (75, curveISquareE), (101, curveIMinusE), (106, curveITimesE), (132, curveJacobianDoubleE)] [] []

theorem curveJacobianAddC : CxOk curveJacobianAddX (Glob globsF) := cx_ok (by kernel_rfl) (by kernel_rfl) ⟨curveIZeroK, curveISquareK, curveIMinusK, curveITimesK, curveJacobianDoubleK, trivial⟩

theorem curveJacobianAddK : CallOk Tryd.prog (Glob globsF) 102 curveJacobianAddE :=
  fun_ok (cx := curveJacobianAddX) curveJacobianAddC (fn := Tryd.f102) Tryd.func102 (by kernel_rfl) Tryd.ntmps102 Tryd.call102 _ _ _ (by kernel_rfl) (by kernel_rfl) (by kernel_rfl)
    (fun w0 hG => lall_of lall_nil (by kernel_rfl : loopsOf (bodyOf Tryd.f102) = _)) (fun p => Eq.trans (b := curveJacobianAddB p.1 p.2) (by kernel_rfl) (curveJacobianAdd_eq p.1 p.2).symm)

noncomputable def curveJacobianRowE : Entry := mkE [.st [.u256, .u256, .u256]] [.arr .jac 16] fun p => curveJacobianRow p

noncomputable def curveJacobianRowX : Cx := mkCx Tryd.prog 18 globsF [(102, curveJacobianAddE)] [] []

theorem curveJacobianRowC : CxOk curveJacobianRowX (Glob globsF) := cx_ok (by kernel_rfl) (by kernel_rfl) ⟨curveJacobianAddK, trivial⟩

theorem curveJacobianRowK : CallOk Tryd.prog (Glob globsF) 134 curveJacobianRowE :=
  fun_ok (cx := curveJacobianRowX) curveJacobianRowC (fn := Tryd.f134) Tryd.func134 (by kernel_rfl) Tryd.ntmps134 Tryd.call134 _ _ _ (by kernel_rfl) (by kernel_rfl) (by kernel_rfl)
    (fun w0 hG => lall_of (lall_free (b := loopAt Tryd.f134 0) (by kernel_rfl) (lall_nil)) (by kernel_rfl : loopsOf (bodyOf Tryd.f134) = _)) (fun p => Eq.trans (b := curveJacobianRowB p) (by kernel_rfl) (curveJacobianRow_eq p).symm)

noncomputable def curveIDigitE : Entry := mkE [.u256, .int .i64] [.int .i64] fun p => curveIDigit p.1 p.2

noncomputable def curveIDigitX : Cx := mkCx Tryd.prog 15 globsF [] [] []

theorem curveIDigitC : CxOk curveIDigitX (Glob globsF) := cx_ok (by kernel_rfl) (by kernel_rfl) trivial

theorem curveIDigitK : CallOk Tryd.prog (Glob globsF) 135 curveIDigitE :=
  fun_ok (cx := curveIDigitX) curveIDigitC (fn := Tryd.f135) Tryd.func135 (by kernel_rfl) Tryd.ntmps135 Tryd.call135 _ _ _ (by kernel_rfl) (by kernel_rfl) (by kernel_rfl)
    (fun w0 hG => lall_of lall_nil (by kernel_rfl : loopsOf (bodyOf Tryd.f135) = _)) (fun p => Eq.trans (b := curveIDigitB p.1 p.2) (by kernel_rfl) (curveIDigit_eq p.1 p.2).symm)

noncomputable def curveJacobianMultipleE : Entry := mkE [.st [.u256, .u256, .u256], .u256] [.st [.u256, .u256, .u256]] fun p => curveJacobianMultiple p.1 p.2

def curveJacobianMultipleL0Y : Lay := ⟨[(false, 3, .ptr 1003 []), (false, 4, .ptr 1004 []), (false, 5, .ptr 1005 []), (false, 6, .ptr 1006 [])], [(false, 7, .int .i64), (true, 1003, .u256), (true, 1004, .st [.u256, .u256, .u256]), (true, 1005, .arr .jac 16), (true, 1006, .st [.u256, .u256, .u256])], [⟨[(1003, 1003), (1004, 1004), (1005, 1005), (1006, 1006)], []⟩]⟩

def curveJacobianMultipleL0Z : List (Ex × Lay) := [(.exit 0, ⟨[(false, 4, .ptr 1004 []), (false, 6, .ptr 1006 [])], [(true, 1004, .st [.u256, .u256, .u256]), (true, 1006, .st [.u256, .u256, .u256])], [⟨[(1004, 1004), (1006, 1006)], []⟩]⟩)]

noncomputable def curveJacobianMultipleL0E : LEntry := mkL curveJacobianMultipleL0Y curveJacobianMultipleL0Z fun p => curveJacobianMultipleL0 p.1 p.2.1 p.2.2.1 p.2.2.2.1 p.2.2.2.2

noncomputable def curveJacobianMultipleX : Cx := mkCx Tryd.prog 32 globsF [(102, curveJacobianAddE), (118, u256LenE), (132, curveJacobianDoubleE), (134, curveJacobianRowE), (135, curveIDigitE)] [(4, curveJacobianMultipleL0E)] []

theorem curveJacobianMultipleC : CxOk curveJacobianMultipleX (Glob globsF) := cx_ok (by kernel_rfl) (by kernel_rfl) ⟨curveJacobianAddK, u256LenK, curveJacobianDoubleK, curveJacobianRowK, curveIDigitK, trivial⟩

theorem curveJacobianMultipleL0K (w0 : Ini) (hG : Glob globsF w0) : LoopOk curveJacobianMultipleX w0 (loopAt Tryd.f104 0) curveJacobianMultipleL0E :=
  loop_okH curveJacobianMultipleC hG (loopAt Tryd.f104 0) (lall_of (lall_free (b := loopAt Tryd.f104 1) (by kernel_rfl) (lall_nil)) (by kernel_rfl : loopsOf (loopAt Tryd.f104 0) = _))
    curveJacobianMultipleL0Y curveJacobianMultipleL0Z (by kernel_rfl) (fun p => curveJacobianMultipleL0R p.1 p.2.1 p.2.2.1 p.2.2.2.1 p.2.2.2.2) (fun p => 1000) (fun p => by kernel_rfl) _ (fun p => curveJacobianMultipleL0_eq p.1 p.2.1 p.2.2.1 p.2.2.2.1 p.2.2.2.2)

theorem curveJacobianMultipleK : CallOk Tryd.prog (Glob globsF) 104 curveJacobianMultipleE :=
  fun_ok (cx := curveJacobianMultipleX) curveJacobianMultipleC (fn := Tryd.f104) Tryd.func104 (by kernel_rfl) Tryd.ntmps104 Tryd.call104 _ _ _ (by kernel_rfl) (by kernel_rfl) (by kernel_rfl)
    (fun w0 hG => lall_of (lall_cut (b := loopAt Tryd.f104 0) (curveJacobianMultipleL0K w0 hG) (by kernel_rfl) (lall_free (b := loopAt Tryd.f104 1) (by kernel_rfl) (lall_nil))) (by kernel_rfl : loopsOf (bodyOf Tryd.f104) = _)) (fun p => Eq.trans (b := curveJacobianMultipleB p.1 p.2) (by kernel_rfl) (curveJacobianMultiple_eq p.1 p.2).symm)

noncomputable def curveIMultipleGE : Entry := mkE [.u256] [.st [.u256, .u256, .u256]] fun p => curveIMultipleG p

noncomputable def curveIMultipleGX : Cx := mkCx Tryd.prog 7 globs0x1 [(103, curveIOfE), (104, curveJacobianMultipleE), (105, curveGE)] [] []

theorem curveIMultipleGC : CxOk curveIMultipleGX (Glob globs0x1) := cx_ok (by kernel_rfl) (by kernel_rfl) ⟨(curveIOfK.up globsF_globs0x1), (curveJacobianMultipleK.up globsF_globs0x1), curveGK, trivial⟩

theorem curveIMultipleGK : CallOk Tryd.prog (Glob globs0x1) 69 curveIMultipleGE :=
  fun_ok (cx := curveIMultipleGX) curveIMultipleGC (fn := Tryd.f69) Tryd.func69 (by kernel_rfl) Tryd.ntmps69 Tryd.call69 _ _ _ (by kernel_rfl) (by kernel_rfl) (by kernel_rfl)
    (fun w0 hG => lall_of lall_nil (by kernel_rfl : loopsOf (bodyOf Tryd.f69) = _)) (fun p => Eq.trans (b := curveIMultipleGB p) (by kernel_rfl) (curveIMultipleG_eq p).symm)

noncomputable def curveJacobianPointE : Entry := mkE [.st [.u256, .u256, .u256]] [.st [.u256, .u256, .bool]] fun p => curveJacobianPoint p

noncomputable def curveJacobianPointX : Cx := mkCx Tryd.prog 30 globsF [(64, fieldInverseE), (73, curveIZeroE), (75, curveISquareE), (106, curveITimesE)] [] []

theorem curveJacobianPointC : CxOk curveJacobianPointX (Glob globsF) := cx_ok (by kernel_rfl) (by kernel_rfl) ⟨fieldInverseK, curveIZeroK, curveISquareK, curveITimesK, trivial⟩

theorem curveJacobianPointK : CallOk Tryd.prog (Glob globsF) 70 curveJacobianPointE :=
  fun_ok (cx := curveJacobianPointX) curveJacobianPointC (fn := Tryd.f70) Tryd.func70 (by kernel_rfl) Tryd.ntmps70 Tryd.call70 _ _ _ (by kernel_rfl) (by kernel_rfl) (by kernel_rfl)
    (fun w0 hG => lall_of lall_nil (by kernel_rfl : loopsOf (bodyOf Tryd.f70) = _)) (fun p => Eq.trans (b := curveJacobianPointB p) (by kernel_rfl) (curveJacobianPoint_eq p).symm)

noncomputable def curveMulGE : Entry := mkE [.u256] [.st [.u256, .u256, .bool]] fun p => curveMulG p

noncomputable def curveMulGX : Cx := mkCx Tryd.prog 6 globs0x1 [(69, curveIMultipleGE), (70, curveJacobianPointE)] [] []

theorem curveMulGC : CxOk curveMulGX (Glob globs0x1) := cx_ok (by kernel_rfl) (by kernel_rfl) ⟨curveIMultipleGK, (curveJacobianPointK.up globsF_globs0x1), trivial⟩

theorem curveMulGK : CallOk Tryd.prog (Glob globs0x1) 37 curveMulGE :=
  fun_ok (cx := curveMulGX) curveMulGC (fn := Tryd.f37) Tryd.func37 (by kernel_rfl) Tryd.ntmps37 Tryd.call37 _ _ _ (by kernel_rfl) (by kernel_rfl) (by kernel_rfl)
    (fun w0 hG => lall_of lall_nil (by kernel_rfl : loopsOf (bodyOf Tryd.f37) = _)) (fun p => Eq.trans (b := curveMulGB p) (by kernel_rfl) (curveMulG_eq p).symm)

noncomputable def curveMulAddE : Entry := mkE [.u256, .u256, .st [.u256, .u256, .bool]] [.st [.u256, .u256, .bool], .int .i64] fun p => curveMulAdd p.1 p.2.1 p.2.2

noncomputable def curveMulAddX : Cx := mkCx Tryd.prog 20 globs0x1 [(45, curveOnE), (69, curveIMultipleGE), (70, curveJacobianPointE), (102, curveJacobianAddE), (103, curveIOfE), (104, curveJacobianMultipleE)] [] []

theorem curveMulAddC : CxOk curveMulAddX (Glob globs0x1) := cx_ok (by kernel_rfl) (by kernel_rfl) ⟨(curveOnK.up globsF_globs0x1), curveIMultipleGK, (curveJacobianPointK.up globsF_globs0x1), (curveJacobianAddK.up globsF_globs0x1), (curveIOfK.up globsF_globs0x1), (curveJacobianMultipleK.up globsF_globs0x1), trivial⟩

theorem curveMulAddK : CallOk Tryd.prog (Glob globs0x1) 68 curveMulAddE :=
  fun_ok (cx := curveMulAddX) curveMulAddC (fn := Tryd.f68) Tryd.func68 (by kernel_rfl) Tryd.ntmps68 Tryd.call68 _ _ _ (by kernel_rfl) (by kernel_rfl) (by kernel_rfl)
    (fun w0 hG => lall_of lall_nil (by kernel_rfl : loopsOf (bodyOf Tryd.f68) = _)) (fun p => Eq.trans (b := curveMulAddB p.1 p.2.1 p.2.2) (by kernel_rfl) (curveMulAdd_eq p.1 p.2.1 p.2.2).symm)

end Go.Sy
