/- The links: each typed function is what the code computes. Printed by a program. -/
import Derived.Test.YtmjdciphkjapkaaDoorSyVC2
import Derived.Test.YtmjdciphkjapkaaDoorSyWC1
set_option linter.unusedVariables false
set_option maxRecDepth 100000
namespace Go.Sy
open Go Go.Proofs

noncomputable def curveJacobianRowE : Entry := mkE [.st [.u256, .u256, .u256]] [.arr .jac 16] fun p => curveJacobianRow p

noncomputable def curveJacobianRowX : Cx := mkCx Tryd.prog 18 globsF [(68, curveJacobianAddE)] [] []
theorem curveJacobianRowC : CxOk curveJacobianRowX (Glob globsF) := cx_ok (by kernel_rfl) (by kernel_rfl) ⟨curveJacobianAddK, trivial⟩
theorem curveJacobianRowK : CallOk Tryd.prog (Glob globsF) 114 curveJacobianRowE :=
  fun_ok (cx := curveJacobianRowX) curveJacobianRowC (fn := Tryd.f114) Tryd.func114 (by kernel_rfl) Tryd.ntmps114 Tryd.call114 _ _ _ (by kernel_rfl) (by kernel_rfl) (by kernel_rfl)
    (fun w0 hG => lall_of (lall_free (b := loopAt Tryd.f114 0) (by kernel_rfl) (lall_nil)) (by kernel_rfl : loopsOf (bodyOf Tryd.f114) = _)) (fun p => Eq.trans (b := curveJacobianRowB p) (by kernel_rfl) (curveJacobianRow_eq p).symm)

noncomputable def curveIDigitE : Entry := mkE [.u256, .int .i64] [.int .i64] fun p => curveIDigit p.1 p.2

noncomputable def curveIDigitX : Cx := mkCx Tryd.prog 15 globsF [] [] []
theorem curveIDigitC : CxOk curveIDigitX (Glob globsF) := cx_ok (by kernel_rfl) (by kernel_rfl) trivial
theorem curveIDigitK : CallOk Tryd.prog (Glob globsF) 115 curveIDigitE :=
  fun_ok (cx := curveIDigitX) curveIDigitC (fn := Tryd.f115) Tryd.func115 (by kernel_rfl) Tryd.ntmps115 Tryd.call115 _ _ _ (by kernel_rfl) (by kernel_rfl) (by kernel_rfl)
    (fun w0 hG => lall_of lall_nil (by kernel_rfl : loopsOf (bodyOf Tryd.f115) = _)) (fun p => Eq.trans (b := curveIDigitB p.1 p.2) (by kernel_rfl) (curveIDigit_eq p.1 p.2).symm)

noncomputable def curveJacobianMultipleE : Entry := mkE [.st [.u256, .u256, .u256], .u256] [.st [.u256, .u256, .u256]] fun p => curveJacobianMultiple p.1 p.2

def curveJacobianMultipleL0Y : Lay := ⟨[(false, 3, .ptr 1003 []), (false, 4, .ptr 1004 []), (false, 5, .ptr 1005 []), (false, 6, .ptr 1006 [])], [(false, 7, .int .i64), (true, 1003, .u256), (true, 1004, .st [.u256, .u256, .u256]), (true, 1005, .arr .jac 16), (true, 1006, .st [.u256, .u256, .u256])], [⟨[(1003, 1003), (1004, 1004), (1005, 1005), (1006, 1006)], []⟩]⟩
def curveJacobianMultipleL0Z : List (Ex × Lay) := [(.exit 0, ⟨[(false, 4, .ptr 1004 []), (false, 6, .ptr 1006 [])], [(true, 1004, .st [.u256, .u256, .u256]), (true, 1006, .st [.u256, .u256, .u256])], [⟨[(1004, 1004), (1006, 1006)], []⟩]⟩)]
noncomputable def curveJacobianMultipleL0E : LEntry := mkL curveJacobianMultipleL0Y curveJacobianMultipleL0Z fun p => curveJacobianMultipleL0 p.1 p.2.1 p.2.2.1 p.2.2.2.1 p.2.2.2.2
noncomputable def curveJacobianMultipleX : Cx := mkCx Tryd.prog 32 globsF [(50, u256LenE), (68, curveJacobianAddE), (75, curveJacobianDoubleE), (114, curveJacobianRowE), (115, curveIDigitE)] [(4, curveJacobianMultipleL0E)] []
theorem curveJacobianMultipleC : CxOk curveJacobianMultipleX (Glob globsF) := cx_ok (by kernel_rfl) (by kernel_rfl) ⟨u256LenK, curveJacobianAddK, curveJacobianDoubleK, curveJacobianRowK, curveIDigitK, trivial⟩
theorem curveJacobianMultipleL0K (w0 : Ini) (hG : Glob globsF w0) : LoopOk curveJacobianMultipleX w0 (loopAt Tryd.f79 0) curveJacobianMultipleL0E :=
  loop_okH curveJacobianMultipleC hG (loopAt Tryd.f79 0) (lall_of (lall_free (b := loopAt Tryd.f79 1) (by kernel_rfl) (lall_nil)) (by kernel_rfl : loopsOf (loopAt Tryd.f79 0) = _))
    curveJacobianMultipleL0Y curveJacobianMultipleL0Z (by kernel_rfl) (fun p => curveJacobianMultipleL0R p.1 p.2.1 p.2.2.1 p.2.2.2.1 p.2.2.2.2) (fun p => 1000) (fun p => by kernel_rfl) _ (fun p => curveJacobianMultipleL0_eq p.1 p.2.1 p.2.2.1 p.2.2.2.1 p.2.2.2.2)
theorem curveJacobianMultipleK : CallOk Tryd.prog (Glob globsF) 79 curveJacobianMultipleE :=
  fun_ok (cx := curveJacobianMultipleX) curveJacobianMultipleC (fn := Tryd.f79) Tryd.func79 (by kernel_rfl) Tryd.ntmps79 Tryd.call79 _ _ _ (by kernel_rfl) (by kernel_rfl) (by kernel_rfl)
    (fun w0 hG => lall_of (lall_cut (b := loopAt Tryd.f79 0) (curveJacobianMultipleL0K w0 hG) (by kernel_rfl) (lall_free (b := loopAt Tryd.f79 1) (by kernel_rfl) (lall_nil))) (by kernel_rfl : loopsOf (bodyOf Tryd.f79) = _)) (fun p => Eq.trans (b := curveJacobianMultipleB p.1 p.2) (by kernel_rfl) (curveJacobianMultiple_eq p.1 p.2).symm)

noncomputable def curveMulE : Entry := mkE [.u256, .st [.u256, .u256, .bool]] [.st [.u256, .u256, .bool], .int .i64] fun p => curveMul p.1 p.2

noncomputable def curveMulX : Cx := mkCx Tryd.prog 15 globsF [(37, curveOnE), (69, curveIOfE), (70, curveJacobianPointE), (79, curveJacobianMultipleE)] [] []
theorem curveMulC : CxOk curveMulX (Glob globsF) := cx_ok (by kernel_rfl) (by kernel_rfl) ⟨curveOnK, curveIOfK, curveJacobianPointK, curveJacobianMultipleK, trivial⟩
theorem curveMulK : CallOk Tryd.prog (Glob globsF) 46 curveMulE :=
  fun_ok (cx := curveMulX) curveMulC (fn := Tryd.f46) Tryd.func46 (by kernel_rfl) Tryd.ntmps46 Tryd.call46 _ _ _ (by kernel_rfl) (by kernel_rfl) (by kernel_rfl)
    (fun w0 hG => lall_of lall_nil (by kernel_rfl : loopsOf (bodyOf Tryd.f46) = _)) (fun p => Eq.trans (b := curveMulB p.1 p.2) (by kernel_rfl) (curveMul_eq p.1 p.2).symm)

noncomputable def ref05IThreeE : Entry := mkE [.st [.u256, .u256, .bool]] [.st [.u256, .u256, .u256]] fun p => ref05IThree p

noncomputable def ref05IThreeX : Cx := mkCx Tryd.prog 12 globsF [(100, ref01FromE)] [] []
theorem ref05IThreeC : CxOk ref05IThreeX (Glob globsF) := cx_ok (by kernel_rfl) (by kernel_rfl) ⟨ref01FromK, trivial⟩
theorem ref05IThreeK : CallOk Tryd.prog (Glob globsF) 117 ref05IThreeE :=
  fun_ok (cx := ref05IThreeX) ref05IThreeC (fn := Tryd.f117) Tryd.func117 (by kernel_rfl) Tryd.ntmps117 Tryd.call117 _ _ _ (by kernel_rfl) (by kernel_rfl) (by kernel_rfl)
    (fun w0 hG => lall_of lall_nil (by kernel_rfl : loopsOf (bodyOf Tryd.f117) = _)) (fun p => Eq.trans (b := ref05IThreeB p) (by kernel_rfl) (ref05IThree_eq p).symm)

noncomputable def ref05ITwiceE : Entry := mkE [.st [.u256, .u256, .u256]] [.st [.u256, .u256, .u256]] fun p => ref05ITwice p

noncomputable def ref05ITwiceX : Cx := mkCx Tryd.prog 51 globsF [(77, ref05IMulE), (107, ref05ISubE), (111, ref05ITimesE)] [] []
theorem ref05ITwiceC : CxOk ref05ITwiceX (Glob globsF) := cx_ok (by kernel_rfl) (by kernel_rfl) ⟨ref05IMulK, ref05ISubK, ref05ITimesK, trivial⟩
theorem ref05ITwiceK : CallOk Tryd.prog (Glob globsF) 116 ref05ITwiceE :=
  fun_ok (cx := ref05ITwiceX) ref05ITwiceC (fn := Tryd.f116) Tryd.func116 (by kernel_rfl) Tryd.ntmps116 Tryd.call116 _ _ _ (by kernel_rfl) (by kernel_rfl) (by kernel_rfl)
    (fun w0 hG => lall_of lall_nil (by kernel_rfl : loopsOf (bodyOf Tryd.f116) = _)) (fun p => Eq.trans (b := ref05ITwiceB p) (by kernel_rfl) (ref05ITwice_eq p).symm)

noncomputable def ref05IBothE : Entry := mkE [.st [.u256, .u256, .u256], .st [.u256, .u256, .u256]] [.st [.u256, .u256, .u256]] fun p => ref05IBoth p.1 p.2

noncomputable def ref05IBothX : Cx := mkCx Tryd.prog 116 globsF [(77, ref05IMulE), (107, ref05ISubE), (111, ref05ITimesE), (116, ref05ITwiceE)] [] []
theorem ref05IBothC : CxOk ref05IBothX (Glob globsF) := cx_ok (by kernel_rfl) (by kernel_rfl) ⟨ref05IMulK, ref05ISubK, ref05ITimesK, ref05ITwiceK, trivial⟩
theorem ref05IBothK : CallOk Tryd.prog (Glob globsF) 80 ref05IBothE :=
  fun_ok (cx := ref05IBothX) ref05IBothC (fn := Tryd.f80) Tryd.func80 (by kernel_rfl) Tryd.ntmps80 Tryd.call80 _ _ _ (by kernel_rfl) (by kernel_rfl) (by kernel_rfl)
    (fun w0 hG => lall_of lall_nil (by kernel_rfl : loopsOf (bodyOf Tryd.f80) = _)) (fun p => Eq.trans (b := ref05IBothB p.1 p.2) (by kernel_rfl) (ref05IBoth_eq p.1 p.2).symm)

noncomputable def ref05IMultipleE : Entry := mkE [.u256, .st [.u256, .u256, .bool]] [.st [.u256, .u256, .u256]] fun p => ref05IMultiple p.1 p.2

def ref05IMultipleL0Y : Lay := ⟨[(false, 2, .ptr 1002 []), (false, 4, .ptr 1004 []), (false, 5, .ptr 1005 []), (false, 6, .ptr 1006 [])], [(false, 7, .int .i64), (true, 1002, .u256), (true, 1004, .st [.u256, .u256, .u256]), (true, 1005, .st [.u256, .u256, .u256]), (true, 1006, .st [.u256, .u256, .u256])], [⟨[(1002, 1002), (1004, 1004), (1005, 1005), (1006, 1006)], []⟩]⟩
def ref05IMultipleL0Z : List (Ex × Lay) := [(.exit 0, ⟨[(false, 4, .ptr 1004 []), (false, 6, .ptr 1006 [])], [(true, 1004, .st [.u256, .u256, .u256]), (true, 1006, .st [.u256, .u256, .u256])], [⟨[(1004, 1004), (1006, 1006)], []⟩]⟩)]
noncomputable def ref05IMultipleL0E : LEntry := mkL ref05IMultipleL0Y ref05IMultipleL0Z fun p => ref05IMultipleL0 p.1 p.2.1 p.2.2.1 p.2.2.2.1 p.2.2.2.2
noncomputable def ref05IMultipleX : Cx := mkCx Tryd.prog 29 globsF [(80, ref05IBothE), (116, ref05ITwiceE), (117, ref05IThreeE), (118, ref01BitE)] [(4, ref05IMultipleL0E)] []
theorem ref05IMultipleC : CxOk ref05IMultipleX (Glob globsF) := cx_ok (by kernel_rfl) (by kernel_rfl) ⟨ref05IBothK, ref05ITwiceK, ref05IThreeK, ref01BitK, trivial⟩
theorem ref05IMultipleL0K (w0 : Ini) (hG : Glob globsF w0) : LoopOk ref05IMultipleX w0 (loopAt Tryd.f81 0) ref05IMultipleL0E :=
  loop_okH ref05IMultipleC hG (loopAt Tryd.f81 0) (lall_of lall_nil (by kernel_rfl : loopsOf (loopAt Tryd.f81 0) = _))
    ref05IMultipleL0Y ref05IMultipleL0Z (by kernel_rfl) (fun p => ref05IMultipleL0R p.1 p.2.1 p.2.2.1 p.2.2.2.1 p.2.2.2.2) (fun p => 1000) (fun p => by kernel_rfl) _ (fun p => ref05IMultipleL0_eq p.1 p.2.1 p.2.2.1 p.2.2.2.1 p.2.2.2.2)
theorem ref05IMultipleK : CallOk Tryd.prog (Glob globsF) 81 ref05IMultipleE :=
  fun_ok (cx := ref05IMultipleX) ref05IMultipleC (fn := Tryd.f81) Tryd.func81 (by kernel_rfl) Tryd.ntmps81 Tryd.call81 _ _ _ (by kernel_rfl) (by kernel_rfl) (by kernel_rfl)
    (fun w0 hG => lall_of (lall_cut (b := loopAt Tryd.f81 0) (ref05IMultipleL0K w0 hG) (by kernel_rfl) (lall_nil)) (by kernel_rfl : loopsOf (bodyOf Tryd.f81) = _)) (fun p => Eq.trans (b := ref05IMultipleB p.1 p.2) (by kernel_rfl) (ref05IMultiple_eq p.1 p.2).symm)

noncomputable def ref05IPointE : Entry := mkE [.st [.u256, .u256, .u256]] [.st [.u256, .u256, .bool]] fun p => ref05IPoint p

noncomputable def ref05IPointX : Cx := mkCx Tryd.prog 35 globsF [(71, ref05IIdentityE), (77, ref05IMulE), (119, ref04InverseE)] [] []
theorem ref05IPointC : CxOk ref05IPointX (Glob globsF) := cx_ok (by kernel_rfl) (by kernel_rfl) ⟨ref05IIdentityK, ref05IMulK, ref04InverseK, trivial⟩
theorem ref05IPointK : CallOk Tryd.prog (Glob globsF) 82 ref05IPointE :=
  fun_ok (cx := ref05IPointX) ref05IPointC (fn := Tryd.f82) Tryd.func82 (by kernel_rfl) Tryd.ntmps82 Tryd.call82 _ _ _ (by kernel_rfl) (by kernel_rfl) (by kernel_rfl)
    (fun w0 hG => lall_of lall_nil (by kernel_rfl : loopsOf (bodyOf Tryd.f82) = _)) (fun p => Eq.trans (b := ref05IPointB p) (by kernel_rfl) (ref05IPoint_eq p).symm)

noncomputable def ref05MulE : Entry := mkE [.u256, .st [.u256, .u256, .bool]] [.st [.u256, .u256, .bool], .int .i64] fun p => ref05Mul p.1 p.2

noncomputable def ref05MulX : Cx := mkCx Tryd.prog 18 globsF [(38, ref05OnE), (81, ref05IMultipleE), (82, ref05IPointE)] [] []
theorem ref05MulC : CxOk ref05MulX (Glob globsF) := cx_ok (by kernel_rfl) (by kernel_rfl) ⟨ref05OnK, ref05IMultipleK, ref05IPointK, trivial⟩
theorem ref05MulK : CallOk Tryd.prog (Glob globsF) 47 ref05MulE :=
  fun_ok (cx := ref05MulX) ref05MulC (fn := Tryd.f47) Tryd.func47 (by kernel_rfl) Tryd.ntmps47 Tryd.call47 _ _ _ (by kernel_rfl) (by kernel_rfl) (by kernel_rfl)
    (fun w0 hG => lall_of lall_nil (by kernel_rfl : loopsOf (bodyOf Tryd.f47) = _)) (fun p => Eq.trans (b := ref05MulB p.1 p.2) (by kernel_rfl) (ref05Mul_eq p.1 p.2).symm)

noncomputable def curveIMultipleGE : Entry := mkE [.u256] [.st [.u256, .u256, .u256]] fun p => curveIMultipleG p

noncomputable def curveIMultipleGX : Cx := mkCx Tryd.prog 7 globsG [(39, curveGE), (69, curveIOfE), (79, curveJacobianMultipleE)] [] []
theorem curveIMultipleGC : CxOk curveIMultipleGX (Glob globsG) := cx_ok (by kernel_rfl) (by kernel_rfl) ⟨curveGK, (curveIOfK.up globsFG), (curveJacobianMultipleK.up globsFG), trivial⟩
theorem curveIMultipleGK : CallOk Tryd.prog (Glob globsG) 78 curveIMultipleGE :=
  fun_ok (cx := curveIMultipleGX) curveIMultipleGC (fn := Tryd.f78) Tryd.func78 (by kernel_rfl) Tryd.ntmps78 Tryd.call78 _ _ _ (by kernel_rfl) (by kernel_rfl) (by kernel_rfl)
    (fun w0 hG => lall_of lall_nil (by kernel_rfl : loopsOf (bodyOf Tryd.f78) = _)) (fun p => Eq.trans (b := curveIMultipleGB p) (by kernel_rfl) (curveIMultipleG_eq p).symm)

noncomputable def curveMulGE : Entry := mkE [.u256] [.st [.u256, .u256, .bool]] fun p => curveMulG p

noncomputable def curveMulGX : Cx := mkCx Tryd.prog 6 globsG [(70, curveJacobianPointE), (78, curveIMultipleGE)] [] []
theorem curveMulGC : CxOk curveMulGX (Glob globsG) := cx_ok (by kernel_rfl) (by kernel_rfl) ⟨(curveJacobianPointK.up globsFG), curveIMultipleGK, trivial⟩
theorem curveMulGK : CallOk Tryd.prog (Glob globsG) 48 curveMulGE :=
  fun_ok (cx := curveMulGX) curveMulGC (fn := Tryd.f48) Tryd.func48 (by kernel_rfl) Tryd.ntmps48 Tryd.call48 _ _ _ (by kernel_rfl) (by kernel_rfl) (by kernel_rfl)
    (fun w0 hG => lall_of lall_nil (by kernel_rfl : loopsOf (bodyOf Tryd.f48) = _)) (fun p => Eq.trans (b := curveMulGB p) (by kernel_rfl) (curveMulG_eq p).symm)

noncomputable def ref05MulGE : Entry := mkE [.u256] [.st [.u256, .u256, .bool]] fun p => ref05MulG p

noncomputable def ref05MulGX : Cx := mkCx Tryd.prog 7 globsF [(40, ref05GE), (81, ref05IMultipleE), (82, ref05IPointE)] [] []
theorem ref05MulGC : CxOk ref05MulGX (Glob globsF) := cx_ok (by kernel_rfl) (by kernel_rfl) ⟨ref05GK, ref05IMultipleK, ref05IPointK, trivial⟩
theorem ref05MulGK : CallOk Tryd.prog (Glob globsF) 49 ref05MulGE :=
  fun_ok (cx := ref05MulGX) ref05MulGC (fn := Tryd.f49) Tryd.func49 (by kernel_rfl) Tryd.ntmps49 Tryd.call49 _ _ _ (by kernel_rfl) (by kernel_rfl) (by kernel_rfl)
    (fun w0 hG => lall_of lall_nil (by kernel_rfl : loopsOf (bodyOf Tryd.f49) = _)) (fun p => Eq.trans (b := ref05MulGB p) (by kernel_rfl) (ref05MulG_eq p).symm)

noncomputable def law05CurveMulsE : Entry := mkE [.u256, .st [.u256, .u256, .bool]] [.bool] fun p => law05CurveMuls p.1 p.2

noncomputable def law05CurveMulsX : Cx := mkCx Tryd.prog 37 globsG [(20, law05INumE), (46, curveMulE), (47, ref05MulE), (48, curveMulGE), (49, ref05MulGE)] [] []
theorem law05CurveMulsC : CxOk law05CurveMulsX (Glob globsG) := cx_ok (by kernel_rfl) (by kernel_rfl) ⟨(law05INumK.up globsFG), (curveMulK.up globsFG), (ref05MulK.up globsFG), curveMulGK, (ref05MulGK.up globsFG), trivial⟩
theorem law05CurveMulsK : CallOk Tryd.prog (Glob globsG) 10 law05CurveMulsE :=
  fun_ok (cx := law05CurveMulsX) law05CurveMulsC (fn := Tryd.f10) Tryd.func10 (by kernel_rfl) Tryd.ntmps10 Tryd.call10 _ _ _ (by kernel_rfl) (by kernel_rfl) (by kernel_rfl)
    (fun w0 hG => lall_of lall_nil (by kernel_rfl : loopsOf (bodyOf Tryd.f10) = _)) (fun p => Eq.trans (b := law05CurveMulsB p.1 p.2) (by kernel_rfl) (law05CurveMuls_eq p.1 p.2).symm)

noncomputable def curveMulAddE : Entry := mkE [.u256, .u256, .st [.u256, .u256, .bool]] [.st [.u256, .u256, .bool], .int .i64] fun p => curveMulAdd p.1 p.2.1 p.2.2

noncomputable def curveMulAddX : Cx := mkCx Tryd.prog 20 globsG [(37, curveOnE), (68, curveJacobianAddE), (69, curveIOfE), (70, curveJacobianPointE), (78, curveIMultipleGE), (79, curveJacobianMultipleE)] [] []
theorem curveMulAddC : CxOk curveMulAddX (Glob globsG) := cx_ok (by kernel_rfl) (by kernel_rfl) ⟨(curveOnK.up globsFG), (curveJacobianAddK.up globsFG), (curveIOfK.up globsFG), (curveJacobianPointK.up globsFG), curveIMultipleGK, (curveJacobianMultipleK.up globsFG), trivial⟩
theorem curveMulAddK : CallOk Tryd.prog (Glob globsG) 41 curveMulAddE :=
  fun_ok (cx := curveMulAddX) curveMulAddC (fn := Tryd.f41) Tryd.func41 (by kernel_rfl) Tryd.ntmps41 Tryd.call41 _ _ _ (by kernel_rfl) (by kernel_rfl) (by kernel_rfl)
    (fun w0 hG => lall_of lall_nil (by kernel_rfl : loopsOf (bodyOf Tryd.f41) = _)) (fun p => Eq.trans (b := curveMulAddB p.1 p.2.1 p.2.2) (by kernel_rfl) (curveMulAdd_eq p.1 p.2.1 p.2.2).symm)

noncomputable def ref05MulAddE : Entry := mkE [.u256, .u256, .st [.u256, .u256, .bool]] [.st [.u256, .u256, .bool], .int .i64] fun p => ref05MulAdd p.1 p.2.1 p.2.2

noncomputable def ref05MulAddX : Cx := mkCx Tryd.prog 24 globsF [(38, ref05OnE), (40, ref05GE), (80, ref05IBothE), (81, ref05IMultipleE), (82, ref05IPointE)] [] []
theorem ref05MulAddC : CxOk ref05MulAddX (Glob globsF) := cx_ok (by kernel_rfl) (by kernel_rfl) ⟨ref05OnK, ref05GK, ref05IBothK, ref05IMultipleK, ref05IPointK, trivial⟩
theorem ref05MulAddK : CallOk Tryd.prog (Glob globsF) 42 ref05MulAddE :=
  fun_ok (cx := ref05MulAddX) ref05MulAddC (fn := Tryd.f42) Tryd.func42 (by kernel_rfl) Tryd.ntmps42 Tryd.call42 _ _ _ (by kernel_rfl) (by kernel_rfl) (by kernel_rfl)
    (fun w0 hG => lall_of lall_nil (by kernel_rfl : loopsOf (bodyOf Tryd.f42) = _)) (fun p => Eq.trans (b := ref05MulAddB p.1 p.2.1 p.2.2) (by kernel_rfl) (ref05MulAdd_eq p.1 p.2.1 p.2.2).symm)

noncomputable def law05CurveMulAddsE : Entry := mkE [.u256, .u256, .st [.u256, .u256, .bool]] [.bool] fun p => law05CurveMulAdds p.1 p.2.1 p.2.2

noncomputable def law05CurveMulAddsX : Cx := mkCx Tryd.prog 34 globsG [(20, law05INumE), (41, curveMulAddE), (42, ref05MulAddE)] [] []
theorem law05CurveMulAddsC : CxOk law05CurveMulAddsX (Glob globsG) := cx_ok (by kernel_rfl) (by kernel_rfl) ⟨(law05INumK.up globsFG), curveMulAddK, (ref05MulAddK.up globsFG), trivial⟩
theorem law05CurveMulAddsK : CallOk Tryd.prog (Glob globsG) 8 law05CurveMulAddsE :=
  fun_ok (cx := law05CurveMulAddsX) law05CurveMulAddsC (fn := Tryd.f8) Tryd.func8 (by kernel_rfl) Tryd.ntmps8 Tryd.call8 _ _ _ (by kernel_rfl) (by kernel_rfl) (by kernel_rfl)
    (fun w0 hG => lall_of lall_nil (by kernel_rfl : loopsOf (bodyOf Tryd.f8) = _)) (fun p => Eq.trans (b := law05CurveMulAddsB p.1 p.2.1 p.2.2) (by kernel_rfl) (law05CurveMulAdds_eq p.1 p.2.1 p.2.2).symm)

end Go.Sy
