/- The links: each typed function is what the code computes. Printed by a program. -/
import Derived.Test.YtfappeeggccicaaGreatDoorSyVC1
import Derived.Test.YtfappeeggccicaaGreatDoorSyWT
set_option linter.unusedVariables false
set_option maxRecDepth 100000
noncomputable section
namespace Go.Sy
open Go Go.Proofs
def curveGE : Entry := mkE [] [.st [.u256, .u256, .bool]] fun _ => curveG
def curveGX : Cx := mkCx Tryz.prog 20 globs0x1 [] [] []
theorem curveGC : CxOk curveGX (Glob globs0x1) := cx_ok (by kernel_rfl) (by kernel_rfl) trivial
theorem curveGK : CallOk Tryz.prog (Glob globs0x1) 66 curveGE :=
 fun_ok (cx := curveGX) curveGC (fn := Tryz.f66) Tryz.func66 (by kernel_rfl) Tryz.ntmps66 Tryz.call66 _ _ _ (by kernel_rfl) (by kernel_rfl) (by kernel_rfl)
  (fun w0 hG => lall_of lall_nil (by kernel_rfl : loopsOf (bodyOf Tryz.f66) = _)) (fun p => Eq.trans (b := curveGB ) (by kernel_rfl) (curveG_eq ).symm)
def curveIOneE : Entry := mkE [] [.u256] fun _ => curveIOne
def curveIOneX : Cx := mkCx Tryz.prog 2 globsF [] [] []
theorem curveIOneC : CxOk curveIOneX (Glob globsF) := cx_ok (by kernel_rfl) (by kernel_rfl) trivial
theorem curveIOneK : CallOk Tryz.prog (Glob globsF) 92 curveIOneE :=
 fun_ok (cx := curveIOneX) curveIOneC (fn := Tryz.f92) Tryz.func92 (by kernel_rfl) Tryz.ntmps92 Tryz.call92 _ _ _ (by kernel_rfl) (by kernel_rfl) (by kernel_rfl)
  (fun w0 hG => lall_of lall_nil (by kernel_rfl : loopsOf (bodyOf Tryz.f92) = _)) (fun p => Eq.trans (b := curveIOneB ) (by kernel_rfl) (curveIOne_eq ).symm)
def curveIOfE : Entry := mkE [.st [.u256, .u256, .bool]] [.st [.u256, .u256, .u256]] fun p => curveIOf p
def curveIOfX : Cx := mkCx Tryz.prog 12 globsF [(92, curveIOneE)] [] []
theorem curveIOfC : CxOk curveIOfX (Glob globsF) := cx_ok (by kernel_rfl) (by kernel_rfl) ⟨curveIOneK, trivial⟩
theorem curveIOfK : CallOk Tryz.prog (Glob globsF) 65 curveIOfE :=
 fun_ok (cx := curveIOfX) curveIOfC (fn := Tryz.f65) Tryz.func65 (by kernel_rfl) Tryz.ntmps65 Tryz.call65 _ _ _ (by kernel_rfl) (by kernel_rfl) (by kernel_rfl)
  (fun w0 hG => lall_of lall_nil (by kernel_rfl : loopsOf (bodyOf Tryz.f65) = _)) (fun p => Eq.trans (b := curveIOfB p) (by kernel_rfl) (curveIOf_eq p).symm)
def curveIZeroE : Entry := mkE [] [.u256] fun _ => curveIZero
def curveIZeroX : Cx := mkCx Tryz.prog 2 globsF [] [] []
theorem curveIZeroC : CxOk curveIZeroX (Glob globsF) := cx_ok (by kernel_rfl) (by kernel_rfl) trivial
theorem curveIZeroK : CallOk Tryz.prog (Glob globsF) 68 curveIZeroE :=
 fun_ok (cx := curveIZeroX) curveIZeroC (fn := Tryz.f68) Tryz.func68 (by kernel_rfl) Tryz.ntmps68 Tryz.call68 _ _ _ (by kernel_rfl) (by kernel_rfl) (by kernel_rfl)
  (fun w0 hG => lall_of lall_nil (by kernel_rfl : loopsOf (bodyOf Tryz.f68) = _)) (fun p => Eq.trans (b := curveIZeroB ) (by kernel_rfl) (curveIZero_eq ).symm)
def curveISquareE : Entry := mkE [.u256] [.u256] fun p => curveISquare p
def curveISquareX : Cx := mkCx Tryz.prog 11 globsF [(98, fieldSquareE)] [] []
theorem curveISquareC : CxOk curveISquareX (Glob globsF) := cx_ok (by kernel_rfl) (by kernel_rfl) ⟨fieldSquareK, trivial⟩
theorem curveISquareK : CallOk Tryz.prog (Glob globsF) 69 curveISquareE :=
 fun_ok (cx := curveISquareX) curveISquareC (fn := Tryz.f69) Tryz.func69 (by kernel_rfl) Tryz.ntmps69 Tryz.call69 _ _ _ (by kernel_rfl) (by kernel_rfl) (by kernel_rfl)
  (fun w0 hG => lall_of lall_nil (by kernel_rfl : loopsOf (bodyOf Tryz.f69) = _)) (fun p => Eq.trans (b := curveISquareB p) (by kernel_rfl) (curveISquare_eq p).symm)
def curveITimesE : Entry := mkE [.u256, .u256] [.u256] fun p => curveITimes p.1 p.2
def curveITimesX : Cx := mkCx Tryz.prog 14 globsF [(17, fieldMulE)] [] []
theorem curveITimesC : CxOk curveITimesX (Glob globsF) := cx_ok (by kernel_rfl) (by kernel_rfl) ⟨fieldMulK, trivial⟩
theorem curveITimesK : CallOk Tryz.prog (Glob globsF) 70 curveITimesE :=
 fun_ok (cx := curveITimesX) curveITimesC (fn := Tryz.f70) Tryz.func70 (by kernel_rfl) Tryz.ntmps70 Tryz.call70 _ _ _ (by kernel_rfl) (by kernel_rfl) (by kernel_rfl)
  (fun w0 hG => lall_of lall_nil (by kernel_rfl : loopsOf (bodyOf Tryz.f70) = _)) (fun p => Eq.trans (b := curveITimesB p.1 p.2) (by kernel_rfl) (curveITimes_eq p.1 p.2).symm)
def curveIMinusE : Entry := mkE [.u256, .u256] [.u256] fun p => curveIMinus p.1 p.2
def curveIMinusX : Cx := mkCx Tryz.prog 14 globsF [(131, fieldSubE)] [] []
theorem curveIMinusC : CxOk curveIMinusX (Glob globsF) := cx_ok (by kernel_rfl) (by kernel_rfl) ⟨fieldSubK, trivial⟩
theorem curveIMinusK : CallOk Tryz.prog (Glob globsF) 121 curveIMinusE :=
 fun_ok (cx := curveIMinusX) curveIMinusC (fn := Tryz.f121) Tryz.func121 (by kernel_rfl) Tryz.ntmps121 Tryz.call121 _ _ _ (by kernel_rfl) (by kernel_rfl) (by kernel_rfl)
  (fun w0 hG => lall_of lall_nil (by kernel_rfl : loopsOf (bodyOf Tryz.f121) = _)) (fun p => Eq.trans (b := curveIMinusB p.1 p.2) (by kernel_rfl) (curveIMinus_eq p.1 p.2).symm)
def curveIPlusE : Entry := mkE [.u256, .u256] [.u256] fun p => curveIPlus p.1 p.2
def curveIPlusX : Cx := mkCx Tryz.prog 14 globsF [(18, fieldAddE)] [] []
theorem curveIPlusC : CxOk curveIPlusX (Glob globsF) := cx_ok (by kernel_rfl) (by kernel_rfl) ⟨fieldAddK, trivial⟩
theorem curveIPlusK : CallOk Tryz.prog (Glob globsF) 120 curveIPlusE :=
 fun_ok (cx := curveIPlusX) curveIPlusC (fn := Tryz.f120) Tryz.func120 (by kernel_rfl) Tryz.ntmps120 Tryz.call120 _ _ _ (by kernel_rfl) (by kernel_rfl) (by kernel_rfl)
  (fun w0 hG => lall_of lall_nil (by kernel_rfl : loopsOf (bodyOf Tryz.f120) = _)) (fun p => Eq.trans (b := curveIPlusB p.1 p.2) (by kernel_rfl) (curveIPlus_eq p.1 p.2).symm)
def curveJacobianDoubleE : Entry := mkE [.st [.u256, .u256, .u256]] [.st [.u256, .u256, .u256]] fun p => curveJacobianDouble p
def curveJacobianDoubleX : Cx := mkCx Tryz.prog 66 globsF [(68, curveIZeroE), (69, curveISquareE), (70, curveITimesE), (120, curveIPlusE), (121, curveIMinusE)] [] []
theorem curveJacobianDoubleC : CxOk curveJacobianDoubleX (Glob globsF) := cx_ok (by kernel_rfl) (by kernel_rfl) ⟨curveIZeroK, curveISquareK, curveITimesK, curveIPlusK, curveIMinusK, trivial⟩
theorem curveJacobianDoubleK : CallOk Tryz.prog (Glob globsF) 95 curveJacobianDoubleE :=
 fun_ok (cx := curveJacobianDoubleX) curveJacobianDoubleC (fn := Tryz.f95) Tryz.func95 (by kernel_rfl) Tryz.ntmps95 Tryz.call95 _ _ _ (by kernel_rfl) (by kernel_rfl) (by kernel_rfl)
  (fun w0 hG => lall_of (lall_free (b := loopAt Tryz.f95 0) (by kernel_rfl) (lall_nil)) (by kernel_rfl : loopsOf (bodyOf Tryz.f95) = _)) (fun p => Eq.trans (b := curveJacobianDoubleB p) (by kernel_rfl) (curveJacobianDouble_eq p).symm)
def curveJacobianAddE : Entry := mkE [.st [.u256, .u256, .u256], .st [.u256, .u256, .u256]] [.st [.u256, .u256, .u256]] fun p => curveJacobianAdd p.1 p.2
def curveJacobianAddX : Cx := mkCx Tryz.prog 104 globsF [(68, curveIZeroE), (69, curveISquareE), (70, curveITimesE), (95, curveJacobianDoubleE), (121, curveIMinusE)] [] []
theorem curveJacobianAddC : CxOk curveJacobianAddX (Glob globsF) := cx_ok (by kernel_rfl) (by kernel_rfl) ⟨curveIZeroK, curveISquareK, curveITimesK, curveJacobianDoubleK, curveIMinusK, trivial⟩
theorem curveJacobianAddK : CallOk Tryz.prog (Glob globsF) 96 curveJacobianAddE :=
 fun_ok (cx := curveJacobianAddX) curveJacobianAddC (fn := Tryz.f96) Tryz.func96 (by kernel_rfl) Tryz.ntmps96 Tryz.call96 _ _ _ (by kernel_rfl) (by kernel_rfl) (by kernel_rfl)
  (fun w0 hG => lall_of lall_nil (by kernel_rfl : loopsOf (bodyOf Tryz.f96) = _)) (fun p => Eq.trans (b := curveJacobianAddB p.1 p.2) (by kernel_rfl) (curveJacobianAdd_eq p.1 p.2).symm)
def curveJacobianRowE : Entry := mkE [.st [.u256, .u256, .u256]] [.arr .jac 16] fun p => curveJacobianRow p
def curveJacobianRowX : Cx := mkCx Tryz.prog 18 globsF [(96, curveJacobianAddE)] [] []
theorem curveJacobianRowC : CxOk curveJacobianRowX (Glob globsF) := cx_ok (by kernel_rfl) (by kernel_rfl) ⟨curveJacobianAddK, trivial⟩
theorem curveJacobianRowK : CallOk Tryz.prog (Glob globsF) 93 curveJacobianRowE :=
 fun_ok (cx := curveJacobianRowX) curveJacobianRowC (fn := Tryz.f93) Tryz.func93 (by kernel_rfl) Tryz.ntmps93 Tryz.call93 _ _ _ (by kernel_rfl) (by kernel_rfl) (by kernel_rfl)
  (fun w0 hG => lall_of (lall_free (b := loopAt Tryz.f93 0) (by kernel_rfl) (lall_nil)) (by kernel_rfl : loopsOf (bodyOf Tryz.f93) = _)) (fun p => Eq.trans (b := curveJacobianRowB p) (by kernel_rfl) (curveJacobianRow_eq p).symm)
def curveIDigitE : Entry := mkE [.u256, .int .i64] [.int .i64] fun p => curveIDigit p.1 p.2
def curveIDigitX : Cx := mkCx Tryz.prog 15 globsF [] [] []
theorem curveIDigitC : CxOk curveIDigitX (Glob globsF) := cx_ok (by kernel_rfl) (by kernel_rfl) trivial
theorem curveIDigitK : CallOk Tryz.prog (Glob globsF) 97 curveIDigitE :=
 fun_ok (cx := curveIDigitX) curveIDigitC (fn := Tryz.f97) Tryz.func97 (by kernel_rfl) Tryz.ntmps97 Tryz.call97 _ _ _ (by kernel_rfl) (by kernel_rfl) (by kernel_rfl)
  (fun w0 hG => lall_of lall_nil (by kernel_rfl : loopsOf (bodyOf Tryz.f97) = _)) (fun p => Eq.trans (b := curveIDigitB p.1 p.2) (by kernel_rfl) (curveIDigit_eq p.1 p.2).symm)
def curveJacobianMultipleE : Entry := mkE [.st [.u256, .u256, .u256], .u256] [.st [.u256, .u256, .u256]] fun p => curveJacobianMultiple p.1 p.2
def curveJacobianMultipleL0Y : Lay := ⟨[(false, 3, .ptr 1003 []), (false, 4, .ptr 1004 []), (false, 5, .ptr 1005 []), (false, 6, .ptr 1006 [])], [(false, 7, .int .i64), (true, 1003, .u256), (true, 1004, .st [.u256, .u256, .u256]), (true, 1005, .arr .jac 16), (true, 1006, .st [.u256, .u256, .u256])], [⟨[(1003, 1003), (1004, 1004), (1005, 1005), (1006, 1006)], []⟩]⟩
def curveJacobianMultipleL0Z : List (Ex × Lay) := [(.exit 0, ⟨[(false, 4, .ptr 1004 []), (false, 6, .ptr 1006 [])], [(true, 1004, .st [.u256, .u256, .u256]), (true, 1006, .st [.u256, .u256, .u256])], [⟨[(1004, 1004), (1006, 1006)], []⟩]⟩)]
def curveJacobianMultipleL0E : LEntry := mkL curveJacobianMultipleL0Y curveJacobianMultipleL0Z fun p => curveJacobianMultipleL0 p.1 p.2.1 p.2.2.1 p.2.2.2.1 p.2.2.2.2
def curveJacobianMultipleX : Cx := mkCx Tryz.prog 32 globsF [(93, curveJacobianRowE), (94, u256LenE), (95, curveJacobianDoubleE), (96, curveJacobianAddE), (97, curveIDigitE)] [(4, curveJacobianMultipleL0E)] []
theorem curveJacobianMultipleC : CxOk curveJacobianMultipleX (Glob globsF) := cx_ok (by kernel_rfl) (by kernel_rfl) ⟨curveJacobianRowK, u256LenK, curveJacobianDoubleK, curveJacobianAddK, curveIDigitK, trivial⟩
theorem curveJacobianMultipleL0K (w0 : Ini) (hG : Glob globsF w0) : LoopOk curveJacobianMultipleX w0 (loopAt Tryz.f67 0) curveJacobianMultipleL0E :=
 loop_okH curveJacobianMultipleC hG (loopAt Tryz.f67 0) (lall_of (lall_free (b := loopAt Tryz.f67 1) (by kernel_rfl) (lall_nil)) (by kernel_rfl : loopsOf (loopAt Tryz.f67 0) = _))
  curveJacobianMultipleL0Y curveJacobianMultipleL0Z (by kernel_rfl) (fun p => curveJacobianMultipleL0R p.1 p.2.1 p.2.2.1 p.2.2.2.1 p.2.2.2.2) (fun p => 1000) (fun p => by kernel_rfl) _ (fun p => curveJacobianMultipleL0_eq p.1 p.2.1 p.2.2.1 p.2.2.2.1 p.2.2.2.2)
theorem curveJacobianMultipleK : CallOk Tryz.prog (Glob globsF) 67 curveJacobianMultipleE :=
 fun_ok (cx := curveJacobianMultipleX) curveJacobianMultipleC (fn := Tryz.f67) Tryz.func67 (by kernel_rfl) Tryz.ntmps67 Tryz.call67 _ _ _ (by kernel_rfl) (by kernel_rfl) (by kernel_rfl)
  (fun w0 hG => lall_of (lall_cut (b := loopAt Tryz.f67 0) (curveJacobianMultipleL0K w0 hG) (by kernel_rfl) (lall_free (b := loopAt Tryz.f67 1) (by kernel_rfl) (lall_nil))) (by kernel_rfl : loopsOf (bodyOf Tryz.f67) = _)) (fun p => Eq.trans (b := curveJacobianMultipleB p.1 p.2) (by kernel_rfl) (curveJacobianMultiple_eq p.1 p.2).symm)
def curveIMultipleGE : Entry := mkE [.u256] [.st [.u256, .u256, .u256]] fun p => curveIMultipleG p
def curveIMultipleGX : Cx := mkCx Tryz.prog 7 globs0x1 [(65, curveIOfE), (66, curveGE), (67, curveJacobianMultipleE)] [] []
theorem curveIMultipleGC : CxOk curveIMultipleGX (Glob globs0x1) := cx_ok (by kernel_rfl) (by kernel_rfl) ⟨(curveIOfK.up globsF_globs0x1), curveGK, (curveJacobianMultipleK.up globsF_globs0x1), trivial⟩
theorem curveIMultipleGK : CallOk Tryz.prog (Glob globs0x1) 37 curveIMultipleGE :=
 fun_ok (cx := curveIMultipleGX) curveIMultipleGC (fn := Tryz.f37) Tryz.func37 (by kernel_rfl) Tryz.ntmps37 Tryz.call37 _ _ _ (by kernel_rfl) (by kernel_rfl) (by kernel_rfl)
  (fun w0 hG => lall_of lall_nil (by kernel_rfl : loopsOf (bodyOf Tryz.f37) = _)) (fun p => Eq.trans (b := curveIMultipleGB p) (by kernel_rfl) (curveIMultipleG_eq p).symm)
def curveJacobianPointE : Entry := mkE [.st [.u256, .u256, .u256]] [.st [.u256, .u256, .bool]] fun p => curveJacobianPoint p
def curveJacobianPointX : Cx := mkCx Tryz.prog 30 globsF [(20, fieldInverseE), (68, curveIZeroE), (69, curveISquareE), (70, curveITimesE)] [] []
theorem curveJacobianPointC : CxOk curveJacobianPointX (Glob globsF) := cx_ok (by kernel_rfl) (by kernel_rfl) ⟨fieldInverseK, curveIZeroK, curveISquareK, curveITimesK, trivial⟩
theorem curveJacobianPointK : CallOk Tryz.prog (Glob globsF) 38 curveJacobianPointE :=
 fun_ok (cx := curveJacobianPointX) curveJacobianPointC (fn := Tryz.f38) Tryz.func38 (by kernel_rfl) Tryz.ntmps38 Tryz.call38 _ _ _ (by kernel_rfl) (by kernel_rfl) (by kernel_rfl)
  (fun w0 hG => lall_of lall_nil (by kernel_rfl : loopsOf (bodyOf Tryz.f38) = _)) (fun p => Eq.trans (b := curveJacobianPointB p) (by kernel_rfl) (curveJacobianPoint_eq p).symm)
def curveMulGE : Entry := mkE [.u256] [.st [.u256, .u256, .bool]] fun p => curveMulG p
def curveMulGX : Cx := mkCx Tryz.prog 6 globs0x1 [(37, curveIMultipleGE), (38, curveJacobianPointE)] [] []
theorem curveMulGC : CxOk curveMulGX (Glob globs0x1) := cx_ok (by kernel_rfl) (by kernel_rfl) ⟨curveIMultipleGK, (curveJacobianPointK.up globsF_globs0x1), trivial⟩
theorem curveMulGK : CallOk Tryz.prog (Glob globs0x1) 16 curveMulGE :=
 fun_ok (cx := curveMulGX) curveMulGC (fn := Tryz.f16) Tryz.func16 (by kernel_rfl) Tryz.ntmps16 Tryz.call16 _ _ _ (by kernel_rfl) (by kernel_rfl) (by kernel_rfl)
  (fun w0 hG => lall_of lall_nil (by kernel_rfl : loopsOf (bodyOf Tryz.f16) = _)) (fun p => Eq.trans (b := curveMulGB p) (by kernel_rfl) (curveMulG_eq p).symm)
def ref05GE : Entry := mkE [] [.st [.u256, .u256, .bool]] fun _ => ref05G
def ref05GX : Cx := mkCx Tryz.prog 8 globsF [] [] []
theorem ref05GC : CxOk ref05GX (Glob globsF) := cx_ok (by kernel_rfl) (by kernel_rfl) trivial
theorem ref05GK : CallOk Tryz.prog (Glob globsF) 84 ref05GE :=
 fun_ok (cx := ref05GX) ref05GC (fn := Tryz.f84) Tryz.func84 (by kernel_rfl) Tryz.ntmps84 Tryz.call84 _ _ _ (by kernel_rfl) (by kernel_rfl) (by kernel_rfl)
  (fun w0 hG => lall_of lall_nil (by kernel_rfl : loopsOf (bodyOf Tryz.f84) = _)) (fun p => Eq.trans (b := ref05GB ) (by kernel_rfl) (ref05G_eq ).symm)
def ref05IThreeE : Entry := mkE [.st [.u256, .u256, .bool]] [.st [.u256, .u256, .u256]] fun p => ref05IThree p
def ref05IThreeX : Cx := mkCx Tryz.prog 12 globsF [(114, ref01FromE)] [] []
theorem ref05IThreeC : CxOk ref05IThreeX (Glob globsF) := cx_ok (by kernel_rfl) (by kernel_rfl) ⟨ref01FromK, trivial⟩
theorem ref05IThreeK : CallOk Tryz.prog (Glob globsF) 107 ref05IThreeE :=
 fun_ok (cx := ref05IThreeX) ref05IThreeC (fn := Tryz.f107) Tryz.func107 (by kernel_rfl) Tryz.ntmps107 Tryz.call107 _ _ _ (by kernel_rfl) (by kernel_rfl) (by kernel_rfl)
  (fun w0 hG => lall_of lall_nil (by kernel_rfl : loopsOf (bodyOf Tryz.f107) = _)) (fun p => Eq.trans (b := ref05IThreeB p) (by kernel_rfl) (ref05IThree_eq p).symm)
def ref05IMulE : Entry := mkE [.u256, .u256] [.u256] fun p => ref05IMul p.1 p.2
def ref05IMulX : Cx := mkCx Tryz.prog 14 globsF [(85, ref04MulE)] [] []
theorem ref05IMulC : CxOk ref05IMulX (Glob globsF) := cx_ok (by kernel_rfl) (by kernel_rfl) ⟨ref04MulK, trivial⟩
theorem ref05IMulK : CallOk Tryz.prog (Glob globsF) 106 ref05IMulE :=
 fun_ok (cx := ref05IMulX) ref05IMulC (fn := Tryz.f106) Tryz.func106 (by kernel_rfl) Tryz.ntmps106 Tryz.call106 _ _ _ (by kernel_rfl) (by kernel_rfl) (by kernel_rfl)
  (fun w0 hG => lall_of lall_nil (by kernel_rfl : loopsOf (bodyOf Tryz.f106) = _)) (fun p => Eq.trans (b := ref05IMulB p.1 p.2) (by kernel_rfl) (ref05IMul_eq p.1 p.2).symm)
def ref05ITimesE : Entry := mkE [.int .u64, .u256] [.u256] fun p => ref05ITimes p.1 p.2
def ref05ITimesX : Cx := mkCx Tryz.prog 9 globsF [(106, ref05IMulE), (114, ref01FromE)] [] []
theorem ref05ITimesC : CxOk ref05ITimesX (Glob globsF) := cx_ok (by kernel_rfl) (by kernel_rfl) ⟨ref05IMulK, ref01FromK, trivial⟩
theorem ref05ITimesK : CallOk Tryz.prog (Glob globsF) 128 ref05ITimesE :=
 fun_ok (cx := ref05ITimesX) ref05ITimesC (fn := Tryz.f128) Tryz.func128 (by kernel_rfl) Tryz.ntmps128 Tryz.call128 _ _ _ (by kernel_rfl) (by kernel_rfl) (by kernel_rfl)
  (fun w0 hG => lall_of lall_nil (by kernel_rfl : loopsOf (bodyOf Tryz.f128) = _)) (fun p => Eq.trans (b := ref05ITimesB p.1 p.2) (by kernel_rfl) (ref05ITimes_eq p.1 p.2).symm)
def ref05ISubE : Entry := mkE [.u256, .u256] [.u256] fun p => ref05ISub p.1 p.2
def ref05ISubX : Cx := mkCx Tryz.prog 14 globsF [(136, ref04SubE)] [] []
theorem ref05ISubC : CxOk ref05ISubX (Glob globsF) := cx_ok (by kernel_rfl) (by kernel_rfl) ⟨ref04SubK, trivial⟩
theorem ref05ISubK : CallOk Tryz.prog (Glob globsF) 129 ref05ISubE :=
 fun_ok (cx := ref05ISubX) ref05ISubC (fn := Tryz.f129) Tryz.func129 (by kernel_rfl) Tryz.ntmps129 Tryz.call129 _ _ _ (by kernel_rfl) (by kernel_rfl) (by kernel_rfl)
  (fun w0 hG => lall_of lall_nil (by kernel_rfl : loopsOf (bodyOf Tryz.f129) = _)) (fun p => Eq.trans (b := ref05ISubB p.1 p.2) (by kernel_rfl) (ref05ISub_eq p.1 p.2).symm)
def ref05ITwiceE : Entry := mkE [.st [.u256, .u256, .u256]] [.st [.u256, .u256, .u256]] fun p => ref05ITwice p
def ref05ITwiceX : Cx := mkCx Tryz.prog 51 globsF [(106, ref05IMulE), (128, ref05ITimesE), (129, ref05ISubE)] [] []
theorem ref05ITwiceC : CxOk ref05ITwiceX (Glob globsF) := cx_ok (by kernel_rfl) (by kernel_rfl) ⟨ref05IMulK, ref05ITimesK, ref05ISubK, trivial⟩
theorem ref05ITwiceK : CallOk Tryz.prog (Glob globsF) 108 ref05ITwiceE :=
 fun_ok (cx := ref05ITwiceX) ref05ITwiceC (fn := Tryz.f108) Tryz.func108 (by kernel_rfl) Tryz.ntmps108 Tryz.call108 _ _ _ (by kernel_rfl) (by kernel_rfl) (by kernel_rfl)
  (fun w0 hG => lall_of lall_nil (by kernel_rfl : loopsOf (bodyOf Tryz.f108) = _)) (fun p => Eq.trans (b := ref05ITwiceB p) (by kernel_rfl) (ref05ITwice_eq p).symm)
def ref05IBothE : Entry := mkE [.st [.u256, .u256, .u256], .st [.u256, .u256, .u256]] [.st [.u256, .u256, .u256]] fun p => ref05IBoth p.1 p.2
def ref05IBothX : Cx := mkCx Tryz.prog 116 globsF [(106, ref05IMulE), (108, ref05ITwiceE), (128, ref05ITimesE), (129, ref05ISubE)] [] []
theorem ref05IBothC : CxOk ref05IBothX (Glob globsF) := cx_ok (by kernel_rfl) (by kernel_rfl) ⟨ref05IMulK, ref05ITwiceK, ref05ITimesK, ref05ISubK, trivial⟩
theorem ref05IBothK : CallOk Tryz.prog (Glob globsF) 110 ref05IBothE :=
 fun_ok (cx := ref05IBothX) ref05IBothC (fn := Tryz.f110) Tryz.func110 (by kernel_rfl) Tryz.ntmps110 Tryz.call110 _ _ _ (by kernel_rfl) (by kernel_rfl) (by kernel_rfl)
  (fun w0 hG => lall_of lall_nil (by kernel_rfl : loopsOf (bodyOf Tryz.f110) = _)) (fun p => Eq.trans (b := ref05IBothB p.1 p.2) (by kernel_rfl) (ref05IBoth_eq p.1 p.2).symm)
def ref05IMultipleE : Entry := mkE [.u256, .st [.u256, .u256, .bool]] [.st [.u256, .u256, .u256]] fun p => ref05IMultiple p.1 p.2
def ref05IMultipleL0Y : Lay := ⟨[(false, 2, .ptr 1002 []), (false, 4, .ptr 1004 []), (false, 5, .ptr 1005 []), (false, 6, .ptr 1006 [])], [(false, 7, .int .i64), (true, 1002, .u256), (true, 1004, .st [.u256, .u256, .u256]), (true, 1005, .st [.u256, .u256, .u256]), (true, 1006, .st [.u256, .u256, .u256])], [⟨[(1002, 1002), (1004, 1004), (1005, 1005), (1006, 1006)], []⟩]⟩
def ref05IMultipleL0Z : List (Ex × Lay) := [(.exit 0, ⟨[(false, 4, .ptr 1004 []), (false, 6, .ptr 1006 [])], [(true, 1004, .st [.u256, .u256, .u256]), (true, 1006, .st [.u256, .u256, .u256])], [⟨[(1004, 1004), (1006, 1006)], []⟩]⟩)]
def ref05IMultipleL0E : LEntry := mkL ref05IMultipleL0Y ref05IMultipleL0Z fun p => ref05IMultipleL0 p.1 p.2.1 p.2.2.1 p.2.2.2.1 p.2.2.2.2
def ref05IMultipleX : Cx := mkCx Tryz.prog 29 globsF [(107, ref05IThreeE), (108, ref05ITwiceE), (109, ref01BitE), (110, ref05IBothE)] [(4, ref05IMultipleL0E)] []
theorem ref05IMultipleC : CxOk ref05IMultipleX (Glob globsF) := cx_ok (by kernel_rfl) (by kernel_rfl) ⟨ref05IThreeK, ref05ITwiceK, ref01BitK, ref05IBothK, trivial⟩
theorem ref05IMultipleL0K (w0 : Ini) (hG : Glob globsF w0) : LoopOk ref05IMultipleX w0 (loopAt Tryz.f83 0) ref05IMultipleL0E :=
 loop_okH ref05IMultipleC hG (loopAt Tryz.f83 0) (lall_of lall_nil (by kernel_rfl : loopsOf (loopAt Tryz.f83 0) = _))
  ref05IMultipleL0Y ref05IMultipleL0Z (by kernel_rfl) (fun p => ref05IMultipleL0R p.1 p.2.1 p.2.2.1 p.2.2.2.1 p.2.2.2.2) (fun p => 1000) (fun p => by kernel_rfl) _ (fun p => ref05IMultipleL0_eq p.1 p.2.1 p.2.2.1 p.2.2.2.1 p.2.2.2.2)
theorem ref05IMultipleK : CallOk Tryz.prog (Glob globsF) 83 ref05IMultipleE :=
 fun_ok (cx := ref05IMultipleX) ref05IMultipleC (fn := Tryz.f83) Tryz.func83 (by kernel_rfl) Tryz.ntmps83 Tryz.call83 _ _ _ (by kernel_rfl) (by kernel_rfl) (by kernel_rfl)
  (fun w0 hG => lall_of (lall_cut (b := loopAt Tryz.f83 0) (ref05IMultipleL0K w0 hG) (by kernel_rfl) (lall_nil)) (by kernel_rfl : loopsOf (bodyOf Tryz.f83) = _)) (fun p => Eq.trans (b := ref05IMultipleB p.1 p.2) (by kernel_rfl) (ref05IMultiple_eq p.1 p.2).symm)
def ref05IIdentityE : Entry := mkE [] [.st [.u256, .u256, .bool]] fun _ => ref05IIdentity
def ref05IIdentityX : Cx := mkCx Tryz.prog 2 globsF [] [] []
theorem ref05IIdentityC : CxOk ref05IIdentityX (Glob globsF) := cx_ok (by kernel_rfl) (by kernel_rfl) trivial
theorem ref05IIdentityK : CallOk Tryz.prog (Glob globsF) 105 ref05IIdentityE :=
 fun_ok (cx := ref05IIdentityX) ref05IIdentityC (fn := Tryz.f105) Tryz.func105 (by kernel_rfl) Tryz.ntmps105 Tryz.call105 _ _ _ (by kernel_rfl) (by kernel_rfl) (by kernel_rfl)
  (fun w0 hG => lall_of lall_nil (by kernel_rfl : loopsOf (bodyOf Tryz.f105) = _)) (fun p => Eq.trans (b := ref05IIdentityB ) (by kernel_rfl) (ref05IIdentity_eq ).symm)
def ref05IPointE : Entry := mkE [.st [.u256, .u256, .u256]] [.st [.u256, .u256, .bool]] fun p => ref05IPoint p
def ref05IPointX : Cx := mkCx Tryz.prog 35 globsF [(87, ref04InverseE), (105, ref05IIdentityE), (106, ref05IMulE)] [] []
theorem ref05IPointC : CxOk ref05IPointX (Glob globsF) := cx_ok (by kernel_rfl) (by kernel_rfl) ⟨ref04InverseK, ref05IIdentityK, ref05IMulK, trivial⟩
theorem ref05IPointK : CallOk Tryz.prog (Glob globsF) 82 ref05IPointE :=
 fun_ok (cx := ref05IPointX) ref05IPointC (fn := Tryz.f82) Tryz.func82 (by kernel_rfl) Tryz.ntmps82 Tryz.call82 _ _ _ (by kernel_rfl) (by kernel_rfl) (by kernel_rfl)
  (fun w0 hG => lall_of lall_nil (by kernel_rfl : loopsOf (bodyOf Tryz.f82) = _)) (fun p => Eq.trans (b := ref05IPointB p) (by kernel_rfl) (ref05IPoint_eq p).symm)
def ref05MulGE : Entry := mkE [.u256] [.st [.u256, .u256, .bool]] fun p => ref05MulG p
def ref05MulGX : Cx := mkCx Tryz.prog 7 globsF [(82, ref05IPointE), (83, ref05IMultipleE), (84, ref05GE)] [] []
theorem ref05MulGC : CxOk ref05MulGX (Glob globsF) := cx_ok (by kernel_rfl) (by kernel_rfl) ⟨ref05IPointK, ref05IMultipleK, ref05GK, trivial⟩
theorem ref05MulGK : CallOk Tryz.prog (Glob globsF) 52 ref05MulGE :=
 fun_ok (cx := ref05MulGX) ref05MulGC (fn := Tryz.f52) Tryz.func52 (by kernel_rfl) Tryz.ntmps52 Tryz.call52 _ _ _ (by kernel_rfl) (by kernel_rfl) (by kernel_rfl)
  (fun w0 hG => lall_of lall_nil (by kernel_rfl : loopsOf (bodyOf Tryz.f52) = _)) (fun p => Eq.trans (b := ref05MulGB p) (by kernel_rfl) (ref05MulG_eq p).symm)
end Go.Sy
