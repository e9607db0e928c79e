/- The links: each typed function is what the code computes. Printed by a program. -/
import Derived.Test.YthhijclndgipaaaDoorSyVC1
import Derived.Test.YthhijclndgipaaaDoorSyWT
set_option linter.unusedVariables false
set_option maxRecDepth 100000
namespace Go.Sy
open Go Go.Proofs

noncomputable def curveIZeroE : Entry := mkE [] [.u256] fun _ => curveIZero

noncomputable def curveIZeroX : Cx := mkCx Tryd.prog 2 globsF [] [] []
theorem curveIZeroC : CxOk curveIZeroX (Glob globsF) := cx_ok (by kernel_rfl) (by kernel_rfl) trivial
theorem curveIZeroK : CallOk Tryd.prog (Glob globsF) 56 curveIZeroE :=
  fun_ok (cx := curveIZeroX) curveIZeroC (fn := Tryd.f56) Tryd.func56 (by kernel_rfl) Tryd.ntmps56 Tryd.call56 _ _ _ (by kernel_rfl) (by kernel_rfl) (by kernel_rfl)
    (fun w0 hG => lall_of lall_nil (by kernel_rfl : loopsOf (bodyOf Tryd.f56) = _)) (fun p => Eq.trans (b := curveIZeroB ) (by kernel_rfl) (curveIZero_eq ).symm)

noncomputable def curveIPrimeE : Entry := mkE [] [.u256] fun _ => curveIPrime

noncomputable def curveIPrimeX : Cx := mkCx Tryd.prog 8 globsF [(26, fieldModulusE)] [] []
theorem curveIPrimeC : CxOk curveIPrimeX (Glob globsF) := cx_ok (by kernel_rfl) (by kernel_rfl) ⟨fieldModulusK, trivial⟩
theorem curveIPrimeK : CallOk Tryd.prog (Glob globsF) 52 curveIPrimeE :=
  fun_ok (cx := curveIPrimeX) curveIPrimeC (fn := Tryd.f52) Tryd.func52 (by kernel_rfl) Tryd.ntmps52 Tryd.call52 _ _ _ (by kernel_rfl) (by kernel_rfl) (by kernel_rfl)
    (fun w0 hG => lall_of lall_nil (by kernel_rfl : loopsOf (bodyOf Tryd.f52) = _)) (fun p => Eq.trans (b := curveIPrimeB ) (by kernel_rfl) (curveIPrime_eq ).symm)

noncomputable def curveISquareE : Entry := mkE [.u256] [.u256] fun p => curveISquare p

noncomputable def curveISquareX : Cx := mkCx Tryd.prog 11 globsF [(102, fieldSquareE)] [] []
theorem curveISquareC : CxOk curveISquareX (Glob globsF) := cx_ok (by kernel_rfl) (by kernel_rfl) ⟨fieldSquareK, trivial⟩
theorem curveISquareK : CallOk Tryd.prog (Glob globsF) 78 curveISquareE :=
  fun_ok (cx := curveISquareX) curveISquareC (fn := Tryd.f78) Tryd.func78 (by kernel_rfl) Tryd.ntmps78 Tryd.call78 _ _ _ (by kernel_rfl) (by kernel_rfl) (by kernel_rfl)
    (fun w0 hG => lall_of lall_nil (by kernel_rfl : loopsOf (bodyOf Tryd.f78) = _)) (fun p => Eq.trans (b := curveISquareB p) (by kernel_rfl) (curveISquare_eq p).symm)

noncomputable def curveITimesE : Entry := mkE [.u256, .u256] [.u256] fun p => curveITimes p.1 p.2

noncomputable def curveITimesX : Cx := mkCx Tryd.prog 14 globsF [(43, fieldMulE)] [] []
theorem curveITimesC : CxOk curveITimesX (Glob globsF) := cx_ok (by kernel_rfl) (by kernel_rfl) ⟨fieldMulK, trivial⟩
theorem curveITimesK : CallOk Tryd.prog (Glob globsF) 79 curveITimesE :=
  fun_ok (cx := curveITimesX) curveITimesC (fn := Tryd.f79) Tryd.func79 (by kernel_rfl) Tryd.ntmps79 Tryd.call79 _ _ _ (by kernel_rfl) (by kernel_rfl) (by kernel_rfl)
    (fun w0 hG => lall_of lall_nil (by kernel_rfl : loopsOf (bodyOf Tryd.f79) = _)) (fun p => Eq.trans (b := curveITimesB p.1 p.2) (by kernel_rfl) (curveITimes_eq p.1 p.2).symm)

noncomputable def curveIPlusE : Entry := mkE [.u256, .u256] [.u256] fun p => curveIPlus p.1 p.2

noncomputable def curveIPlusX : Cx := mkCx Tryd.prog 14 globsF [(44, fieldAddE)] [] []
theorem curveIPlusC : CxOk curveIPlusX (Glob globsF) := cx_ok (by kernel_rfl) (by kernel_rfl) ⟨fieldAddK, trivial⟩
theorem curveIPlusK : CallOk Tryd.prog (Glob globsF) 83 curveIPlusE :=
  fun_ok (cx := curveIPlusX) curveIPlusC (fn := Tryd.f83) Tryd.func83 (by kernel_rfl) Tryd.ntmps83 Tryd.call83 _ _ _ (by kernel_rfl) (by kernel_rfl) (by kernel_rfl)
    (fun w0 hG => lall_of lall_nil (by kernel_rfl : loopsOf (bodyOf Tryd.f83) = _)) (fun p => Eq.trans (b := curveIPlusB p.1 p.2) (by kernel_rfl) (curveIPlus_eq p.1 p.2).symm)

noncomputable def curveIRightE : Entry := mkE [.u256] [.u256] fun p => curveIRight p

noncomputable def curveIRightX : Cx := mkCx Tryd.prog 9 globsF [(78, curveISquareE), (79, curveITimesE), (83, curveIPlusE)] [] []
theorem curveIRightC : CxOk curveIRightX (Glob globsF) := cx_ok (by kernel_rfl) (by kernel_rfl) ⟨curveISquareK, curveITimesK, curveIPlusK, trivial⟩
theorem curveIRightK : CallOk Tryd.prog (Glob globsF) 54 curveIRightE :=
  fun_ok (cx := curveIRightX) curveIRightC (fn := Tryd.f54) Tryd.func54 (by kernel_rfl) Tryd.ntmps54 Tryd.call54 _ _ _ (by kernel_rfl) (by kernel_rfl) (by kernel_rfl)
    (fun w0 hG => lall_of lall_nil (by kernel_rfl : loopsOf (bodyOf Tryd.f54) = _)) (fun p => Eq.trans (b := curveIRightB p) (by kernel_rfl) (curveIRight_eq p).symm)

noncomputable def curveOnE : Entry := mkE [.st [.u256, .u256, .bool]] [.bool] fun p => curveOn p

noncomputable def curveOnX : Cx := mkCx Tryd.prog 36 globsF [(41, u256CmpE), (52, curveIPrimeE), (54, curveIRightE), (56, curveIZeroE), (78, curveISquareE)] [] []
theorem curveOnC : CxOk curveOnX (Glob globsF) := cx_ok (by kernel_rfl) (by kernel_rfl) ⟨u256CmpK, curveIPrimeK, curveIRightK, curveIZeroK, curveISquareK, trivial⟩
theorem curveOnK : CallOk Tryd.prog (Glob globsF) 57 curveOnE :=
  fun_ok (cx := curveOnX) curveOnC (fn := Tryd.f57) Tryd.func57 (by kernel_rfl) Tryd.ntmps57 Tryd.call57 _ _ _ (by kernel_rfl) (by kernel_rfl) (by kernel_rfl)
    (fun w0 hG => lall_of lall_nil (by kernel_rfl : loopsOf (bodyOf Tryd.f57) = _)) (fun p => Eq.trans (b := curveOnB p) (by kernel_rfl) (curveOn_eq p).symm)

noncomputable def curveIMinusE : Entry := mkE [.u256, .u256] [.u256] fun p => curveIMinus p.1 p.2

noncomputable def curveIMinusX : Cx := mkCx Tryd.prog 14 globsF [(84, fieldSubE)] [] []
theorem curveIMinusC : CxOk curveIMinusX (Glob globsF) := cx_ok (by kernel_rfl) (by kernel_rfl) ⟨fieldSubK, trivial⟩
theorem curveIMinusK : CallOk Tryd.prog (Glob globsF) 55 curveIMinusE :=
  fun_ok (cx := curveIMinusX) curveIMinusC (fn := Tryd.f55) Tryd.func55 (by kernel_rfl) Tryd.ntmps55 Tryd.call55 _ _ _ (by kernel_rfl) (by kernel_rfl) (by kernel_rfl)
    (fun w0 hG => lall_of lall_nil (by kernel_rfl : loopsOf (bodyOf Tryd.f55) = _)) (fun p => Eq.trans (b := curveIMinusB p.1 p.2) (by kernel_rfl) (curveIMinus_eq p.1 p.2).symm)

noncomputable def curveLiftE : Entry := mkE [.u256, .bool] [.st [.u256, .u256, .bool], .int .i64] fun p => curveLift p.1 p.2

noncomputable def curveLiftX : Cx := mkCx Tryd.prog 29 globsF [(41, u256CmpE), (52, curveIPrimeE), (53, fieldRootE), (54, curveIRightE), (55, curveIMinusE), (56, curveIZeroE)] [] []
theorem curveLiftC : CxOk curveLiftX (Glob globsF) := cx_ok (by kernel_rfl) (by kernel_rfl) ⟨u256CmpK, curveIPrimeK, fieldRootK, curveIRightK, curveIMinusK, curveIZeroK, trivial⟩
theorem curveLiftK : CallOk Tryd.prog (Glob globsF) 28 curveLiftE :=
  fun_ok (cx := curveLiftX) curveLiftC (fn := Tryd.f28) Tryd.func28 (by kernel_rfl) Tryd.ntmps28 Tryd.call28 _ _ _ (by kernel_rfl) (by kernel_rfl) (by kernel_rfl)
    (fun w0 hG => lall_of lall_nil (by kernel_rfl : loopsOf (bodyOf Tryd.f28) = _)) (fun p => Eq.trans (b := curveLiftB p.1 p.2) (by kernel_rfl) (curveLift_eq p.1 p.2).symm)

noncomputable def curveIOneE : Entry := mkE [] [.u256] fun _ => curveIOne

noncomputable def curveIOneX : Cx := mkCx Tryd.prog 2 globsF [] [] []
theorem curveIOneC : CxOk curveIOneX (Glob globsF) := cx_ok (by kernel_rfl) (by kernel_rfl) trivial
theorem curveIOneK : CallOk Tryd.prog (Glob globsF) 85 curveIOneE :=
  fun_ok (cx := curveIOneX) curveIOneC (fn := Tryd.f85) Tryd.func85 (by kernel_rfl) Tryd.ntmps85 Tryd.call85 _ _ _ (by kernel_rfl) (by kernel_rfl) (by kernel_rfl)
    (fun w0 hG => lall_of lall_nil (by kernel_rfl : loopsOf (bodyOf Tryd.f85) = _)) (fun p => Eq.trans (b := curveIOneB ) (by kernel_rfl) (curveIOne_eq ).symm)

noncomputable def curveIOfE : Entry := mkE [.st [.u256, .u256, .bool]] [.st [.u256, .u256, .u256]] fun p => curveIOf p

noncomputable def curveIOfX : Cx := mkCx Tryd.prog 12 globsF [(85, curveIOneE)] [] []
theorem curveIOfC : CxOk curveIOfX (Glob globsF) := cx_ok (by kernel_rfl) (by kernel_rfl) ⟨curveIOneK, trivial⟩
theorem curveIOfK : CallOk Tryd.prog (Glob globsF) 58 curveIOfE :=
  fun_ok (cx := curveIOfX) curveIOfC (fn := Tryd.f58) Tryd.func58 (by kernel_rfl) Tryd.ntmps58 Tryd.call58 _ _ _ (by kernel_rfl) (by kernel_rfl) (by kernel_rfl)
    (fun w0 hG => lall_of lall_nil (by kernel_rfl : loopsOf (bodyOf Tryd.f58) = _)) (fun p => Eq.trans (b := curveIOfB p) (by kernel_rfl) (curveIOf_eq p).symm)

noncomputable def curveJacobianDoubleE : Entry := mkE [.st [.u256, .u256, .u256]] [.st [.u256, .u256, .u256]] fun p => curveJacobianDouble p

noncomputable def curveJacobianDoubleX : Cx := mkCx Tryd.prog 66 globsF [(55, curveIMinusE), (56, curveIZeroE), (78, curveISquareE), (79, curveITimesE), (83, curveIPlusE)] [] []
theorem curveJacobianDoubleC : CxOk curveJacobianDoubleX (Glob globsF) := cx_ok (by kernel_rfl) (by kernel_rfl) ⟨curveIMinusK, curveIZeroK, curveISquareK, curveITimesK, curveIPlusK, trivial⟩
theorem curveJacobianDoubleK : CallOk Tryd.prog (Glob globsF) 88 curveJacobianDoubleE :=
  fun_ok (cx := curveJacobianDoubleX) curveJacobianDoubleC (fn := Tryd.f88) Tryd.func88 (by kernel_rfl) Tryd.ntmps88 Tryd.call88 _ _ _ (by kernel_rfl) (by kernel_rfl) (by kernel_rfl)
    (fun w0 hG => lall_of (lall_free (b := loopAt Tryd.f88 0) (by kernel_rfl) (lall_nil)) (by kernel_rfl : loopsOf (bodyOf Tryd.f88) = _)) (fun p => Eq.trans (b := curveJacobianDoubleB p) (by kernel_rfl) (curveJacobianDouble_eq p).symm)

noncomputable def curveJacobianAddE : Entry := mkE [.st [.u256, .u256, .u256], .st [.u256, .u256, .u256]] [.st [.u256, .u256, .u256]] fun p => curveJacobianAdd p.1 p.2

noncomputable def curveJacobianAddX : Cx := mkCx Tryd.prog 104 globsF [(55, curveIMinusE), (56, curveIZeroE), (78, curveISquareE), (79, curveITimesE), (88, curveJacobianDoubleE)] [] []
theorem curveJacobianAddC : CxOk curveJacobianAddX (Glob globsF) := cx_ok (by kernel_rfl) (by kernel_rfl) ⟨curveIMinusK, curveIZeroK, curveISquareK, curveITimesK, curveJacobianDoubleK, trivial⟩
theorem curveJacobianAddK : CallOk Tryd.prog (Glob globsF) 60 curveJacobianAddE :=
  fun_ok (cx := curveJacobianAddX) curveJacobianAddC (fn := Tryd.f60) Tryd.func60 (by kernel_rfl) Tryd.ntmps60 Tryd.call60 _ _ _ (by kernel_rfl) (by kernel_rfl) (by kernel_rfl)
    (fun w0 hG => lall_of lall_nil (by kernel_rfl : loopsOf (bodyOf Tryd.f60) = _)) (fun p => Eq.trans (b := curveJacobianAddB p.1 p.2) (by kernel_rfl) (curveJacobianAdd_eq p.1 p.2).symm)

noncomputable def curveJacobianRowE : Entry := mkE [.st [.u256, .u256, .u256]] [.arr .jac 16] fun p => curveJacobianRow p

noncomputable def curveJacobianRowX : Cx := mkCx Tryd.prog 18 globsF [(60, curveJacobianAddE)] [] []
theorem curveJacobianRowC : CxOk curveJacobianRowX (Glob globsF) := cx_ok (by kernel_rfl) (by kernel_rfl) ⟨curveJacobianAddK, trivial⟩
theorem curveJacobianRowK : CallOk Tryd.prog (Glob globsF) 86 curveJacobianRowE :=
  fun_ok (cx := curveJacobianRowX) curveJacobianRowC (fn := Tryd.f86) Tryd.func86 (by kernel_rfl) Tryd.ntmps86 Tryd.call86 _ _ _ (by kernel_rfl) (by kernel_rfl) (by kernel_rfl)
    (fun w0 hG => lall_of (lall_free (b := loopAt Tryd.f86 0) (by kernel_rfl) (lall_nil)) (by kernel_rfl : loopsOf (bodyOf Tryd.f86) = _)) (fun p => Eq.trans (b := curveJacobianRowB p) (by kernel_rfl) (curveJacobianRow_eq p).symm)

noncomputable def curveIDigitE : Entry := mkE [.u256, .int .i64] [.int .i64] fun p => curveIDigit p.1 p.2

noncomputable def curveIDigitX : Cx := mkCx Tryd.prog 15 globsF [] [] []
theorem curveIDigitC : CxOk curveIDigitX (Glob globsF) := cx_ok (by kernel_rfl) (by kernel_rfl) trivial
theorem curveIDigitK : CallOk Tryd.prog (Glob globsF) 89 curveIDigitE :=
  fun_ok (cx := curveIDigitX) curveIDigitC (fn := Tryd.f89) Tryd.func89 (by kernel_rfl) Tryd.ntmps89 Tryd.call89 _ _ _ (by kernel_rfl) (by kernel_rfl) (by kernel_rfl)
    (fun w0 hG => lall_of lall_nil (by kernel_rfl : loopsOf (bodyOf Tryd.f89) = _)) (fun p => Eq.trans (b := curveIDigitB p.1 p.2) (by kernel_rfl) (curveIDigit_eq p.1 p.2).symm)

noncomputable def curveJacobianMultipleE : Entry := mkE [.st [.u256, .u256, .u256], .u256] [.st [.u256, .u256, .u256]] fun p => curveJacobianMultiple p.1 p.2

def curveJacobianMultipleL0Y : Lay := ⟨[(false, 3, .ptr 1003 []), (false, 4, .ptr 1004 []), (false, 5, .ptr 1005 []), (false, 6, .ptr 1006 [])], [(false, 7, .int .i64), (true, 1003, .u256), (true, 1004, .st [.u256, .u256, .u256]), (true, 1005, .arr .jac 16), (true, 1006, .st [.u256, .u256, .u256])], [⟨[(1003, 1003), (1004, 1004), (1005, 1005), (1006, 1006)], []⟩]⟩
def curveJacobianMultipleL0Z : List (Ex × Lay) := [(.exit 0, ⟨[(false, 4, .ptr 1004 []), (false, 6, .ptr 1006 [])], [(true, 1004, .st [.u256, .u256, .u256]), (true, 1006, .st [.u256, .u256, .u256])], [⟨[(1004, 1004), (1006, 1006)], []⟩]⟩)]
noncomputable def curveJacobianMultipleL0E : LEntry := mkL curveJacobianMultipleL0Y curveJacobianMultipleL0Z fun p => curveJacobianMultipleL0 p.1 p.2.1 p.2.2.1 p.2.2.2.1 p.2.2.2.2
noncomputable def curveJacobianMultipleX : Cx := mkCx Tryd.prog 32 globsF [(60, curveJacobianAddE), (86, curveJacobianRowE), (87, u256LenE), (88, curveJacobianDoubleE), (89, curveIDigitE)] [(4, curveJacobianMultipleL0E)] []
theorem curveJacobianMultipleC : CxOk curveJacobianMultipleX (Glob globsF) := cx_ok (by kernel_rfl) (by kernel_rfl) ⟨curveJacobianAddK, curveJacobianRowK, u256LenK, curveJacobianDoubleK, curveIDigitK, trivial⟩
theorem curveJacobianMultipleL0K (w0 : Ini) (hG : Glob globsF w0) : LoopOk curveJacobianMultipleX w0 (loopAt Tryd.f59 0) curveJacobianMultipleL0E :=
  loop_okH curveJacobianMultipleC hG (loopAt Tryd.f59 0) (lall_of (lall_free (b := loopAt Tryd.f59 1) (by kernel_rfl) (lall_nil)) (by kernel_rfl : loopsOf (loopAt Tryd.f59 0) = _))
    curveJacobianMultipleL0Y curveJacobianMultipleL0Z (by kernel_rfl) (fun p => curveJacobianMultipleL0R p.1 p.2.1 p.2.2.1 p.2.2.2.1 p.2.2.2.2) (fun p => 1000) (fun p => by kernel_rfl) _ (fun p => curveJacobianMultipleL0_eq p.1 p.2.1 p.2.2.1 p.2.2.2.1 p.2.2.2.2)
theorem curveJacobianMultipleK : CallOk Tryd.prog (Glob globsF) 59 curveJacobianMultipleE :=
  fun_ok (cx := curveJacobianMultipleX) curveJacobianMultipleC (fn := Tryd.f59) Tryd.func59 (by kernel_rfl) Tryd.ntmps59 Tryd.call59 _ _ _ (by kernel_rfl) (by kernel_rfl) (by kernel_rfl)
    (fun w0 hG => lall_of (lall_cut (b := loopAt Tryd.f59 0) (curveJacobianMultipleL0K w0 hG) (by kernel_rfl) (lall_free (b := loopAt Tryd.f59 1) (by kernel_rfl) (lall_nil))) (by kernel_rfl : loopsOf (bodyOf Tryd.f59) = _)) (fun p => Eq.trans (b := curveJacobianMultipleB p.1 p.2) (by kernel_rfl) (curveJacobianMultiple_eq p.1 p.2).symm)

noncomputable def curveJacobianPointE : Entry := mkE [.st [.u256, .u256, .u256]] [.st [.u256, .u256, .bool]] fun p => curveJacobianPoint p

noncomputable def curveJacobianPointX : Cx := mkCx Tryd.prog 30 globsF [(46, fieldInverseE), (56, curveIZeroE), (78, curveISquareE), (79, curveITimesE)] [] []
theorem curveJacobianPointC : CxOk curveJacobianPointX (Glob globsF) := cx_ok (by kernel_rfl) (by kernel_rfl) ⟨fieldInverseK, curveIZeroK, curveISquareK, curveITimesK, trivial⟩
theorem curveJacobianPointK : CallOk Tryd.prog (Glob globsF) 50 curveJacobianPointE :=
  fun_ok (cx := curveJacobianPointX) curveJacobianPointC (fn := Tryd.f50) Tryd.func50 (by kernel_rfl) Tryd.ntmps50 Tryd.call50 _ _ _ (by kernel_rfl) (by kernel_rfl) (by kernel_rfl)
    (fun w0 hG => lall_of lall_nil (by kernel_rfl : loopsOf (bodyOf Tryd.f50) = _)) (fun p => Eq.trans (b := curveJacobianPointB p) (by kernel_rfl) (curveJacobianPoint_eq p).symm)

noncomputable def curveMulE : Entry := mkE [.u256, .st [.u256, .u256, .bool]] [.st [.u256, .u256, .bool], .int .i64] fun p => curveMul p.1 p.2

noncomputable def curveMulX : Cx := mkCx Tryd.prog 15 globsF [(50, curveJacobianPointE), (57, curveOnE), (58, curveIOfE), (59, curveJacobianMultipleE)] [] []
theorem curveMulC : CxOk curveMulX (Glob globsF) := cx_ok (by kernel_rfl) (by kernel_rfl) ⟨curveJacobianPointK, curveOnK, curveIOfK, curveJacobianMultipleK, trivial⟩
theorem curveMulK : CallOk Tryd.prog (Glob globsF) 29 curveMulE :=
  fun_ok (cx := curveMulX) curveMulC (fn := Tryd.f29) Tryd.func29 (by kernel_rfl) Tryd.ntmps29 Tryd.call29 _ _ _ (by kernel_rfl) (by kernel_rfl) (by kernel_rfl)
    (fun w0 hG => lall_of lall_nil (by kernel_rfl : loopsOf (bodyOf Tryd.f29) = _)) (fun p => Eq.trans (b := curveMulB p.1 p.2) (by kernel_rfl) (curveMul_eq p.1 p.2).symm)

noncomputable def curveGE : Entry := mkE [] [.st [.u256, .u256, .bool]] fun _ => curveG

noncomputable def curveGX : Cx := mkCx Tryd.prog 20 globsG [] [] []
theorem curveGC : CxOk curveGX (Glob globsG) := cx_ok (by kernel_rfl) (by kernel_rfl) trivial
theorem curveGK : CallOk Tryd.prog (Glob globsG) 77 curveGE :=
  fun_ok (cx := curveGX) curveGC (fn := Tryd.f77) Tryd.func77 (by kernel_rfl) Tryd.ntmps77 Tryd.call77 _ _ _ (by kernel_rfl) (by kernel_rfl) (by kernel_rfl)
    (fun w0 hG => lall_of lall_nil (by kernel_rfl : loopsOf (bodyOf Tryd.f77) = _)) (fun p => Eq.trans (b := curveGB ) (by kernel_rfl) (curveG_eq ).symm)

noncomputable def curveIMultipleGE : Entry := mkE [.u256] [.st [.u256, .u256, .u256]] fun p => curveIMultipleG p

noncomputable def curveIMultipleGX : Cx := mkCx Tryd.prog 7 globsG [(58, curveIOfE), (59, curveJacobianMultipleE), (77, curveGE)] [] []
theorem curveIMultipleGC : CxOk curveIMultipleGX (Glob globsG) := cx_ok (by kernel_rfl) (by kernel_rfl) ⟨(curveIOfK.up globsFG), (curveJacobianMultipleK.up globsFG), curveGK, trivial⟩
theorem curveIMultipleGK : CallOk Tryd.prog (Glob globsG) 49 curveIMultipleGE :=
  fun_ok (cx := curveIMultipleGX) curveIMultipleGC (fn := Tryd.f49) Tryd.func49 (by kernel_rfl) Tryd.ntmps49 Tryd.call49 _ _ _ (by kernel_rfl) (by kernel_rfl) (by kernel_rfl)
    (fun w0 hG => lall_of lall_nil (by kernel_rfl : loopsOf (bodyOf Tryd.f49) = _)) (fun p => Eq.trans (b := curveIMultipleGB p) (by kernel_rfl) (curveIMultipleG_eq p).symm)

noncomputable def curveMulGE : Entry := mkE [.u256] [.st [.u256, .u256, .bool]] fun p => curveMulG p

noncomputable def curveMulGX : Cx := mkCx Tryd.prog 6 globsG [(49, curveIMultipleGE), (50, curveJacobianPointE)] [] []
theorem curveMulGC : CxOk curveMulGX (Glob globsG) := cx_ok (by kernel_rfl) (by kernel_rfl) ⟨curveIMultipleGK, (curveJacobianPointK.up globsFG), trivial⟩
theorem curveMulGK : CallOk Tryd.prog (Glob globsG) 21 curveMulGE :=
  fun_ok (cx := curveMulGX) curveMulGC (fn := Tryd.f21) Tryd.func21 (by kernel_rfl) Tryd.ntmps21 Tryd.call21 _ _ _ (by kernel_rfl) (by kernel_rfl) (by kernel_rfl)
    (fun w0 hG => lall_of lall_nil (by kernel_rfl : loopsOf (bodyOf Tryd.f21) = _)) (fun p => Eq.trans (b := curveMulGB p) (by kernel_rfl) (curveMulG_eq p).symm)

noncomputable def curveMulAddE : Entry := mkE [.u256, .u256, .st [.u256, .u256, .bool]] [.st [.u256, .u256, .bool], .int .i64] fun p => curveMulAdd p.1 p.2.1 p.2.2

noncomputable def curveMulAddX : Cx := mkCx Tryd.prog 20 globsG [(49, curveIMultipleGE), (50, curveJacobianPointE), (57, curveOnE), (58, curveIOfE), (59, curveJacobianMultipleE), (60, curveJacobianAddE)] [] []
theorem curveMulAddC : CxOk curveMulAddX (Glob globsG) := cx_ok (by kernel_rfl) (by kernel_rfl) ⟨curveIMultipleGK, (curveJacobianPointK.up globsFG), (curveOnK.up globsFG), (curveIOfK.up globsFG), (curveJacobianMultipleK.up globsFG), (curveJacobianAddK.up globsFG), trivial⟩
theorem curveMulAddK : CallOk Tryd.prog (Glob globsG) 30 curveMulAddE :=
  fun_ok (cx := curveMulAddX) curveMulAddC (fn := Tryd.f30) Tryd.func30 (by kernel_rfl) Tryd.ntmps30 Tryd.call30 _ _ _ (by kernel_rfl) (by kernel_rfl) (by kernel_rfl)
    (fun w0 hG => lall_of lall_nil (by kernel_rfl : loopsOf (bodyOf Tryd.f30) = _)) (fun p => Eq.trans (b := curveMulAddB p.1 p.2.1 p.2.2) (by kernel_rfl) (curveMulAdd_eq p.1 p.2.1 p.2.2).symm)

end Go.Sy
