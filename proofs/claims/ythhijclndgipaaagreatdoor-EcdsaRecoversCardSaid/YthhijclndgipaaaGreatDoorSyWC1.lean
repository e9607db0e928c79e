/- The links: each typed function is what the code computes. Printed by a program. -/
import Derived.Test.YthhijclndgipaaaGreatDoorSyVC1
import Derived.Test.YthhijclndgipaaaGreatDoorSyWT
set_option linter.unusedVariables false
set_option maxRecDepth 100000
namespace Go.Sy
open Go Go.Proofs

noncomputable def curveIZeroE : Entry := mkE [] [.u256] fun _ => curveIZero

noncomputable def curveIZeroX : Cx := mkCx Tryz.prog 2 globsF [] [] []
theorem curveIZeroC : CxOk curveIZeroX (Glob globsF) := cx_ok (by kernel_rfl) (by kernel_rfl) trivial
theorem curveIZeroK : CallOk Tryz.prog (Glob globsF) 68 curveIZeroE :=
  fun_ok (cx := curveIZeroX) curveIZeroC (fn := Tryz.f68) Tryz.func68 (by kernel_rfl) Tryz.ntmps68 Tryz.call68 _ _ _ (by kernel_rfl) (by kernel_rfl) (by kernel_rfl)
    (fun w0 hG => lall_of lall_nil (by kernel_rfl : loopsOf (bodyOf Tryz.f68) = _)) (fun p => Eq.trans (b := curveIZeroB ) (by kernel_rfl) (curveIZero_eq ).symm)

noncomputable def curveIPrimeE : Entry := mkE [] [.u256] fun _ => curveIPrime

noncomputable def curveIPrimeX : Cx := mkCx Tryz.prog 8 globsF [(51, fieldModulusE)] [] []
theorem curveIPrimeC : CxOk curveIPrimeX (Glob globsF) := cx_ok (by kernel_rfl) (by kernel_rfl) ⟨fieldModulusK, trivial⟩
theorem curveIPrimeK : CallOk Tryz.prog (Glob globsF) 69 curveIPrimeE :=
  fun_ok (cx := curveIPrimeX) curveIPrimeC (fn := Tryz.f69) Tryz.func69 (by kernel_rfl) Tryz.ntmps69 Tryz.call69 _ _ _ (by kernel_rfl) (by kernel_rfl) (by kernel_rfl)
    (fun w0 hG => lall_of lall_nil (by kernel_rfl : loopsOf (bodyOf Tryz.f69) = _)) (fun p => Eq.trans (b := curveIPrimeB ) (by kernel_rfl) (curveIPrime_eq ).symm)

noncomputable def curveISquareE : Entry := mkE [.u256] [.u256] fun p => curveISquare p

noncomputable def curveISquareX : Cx := mkCx Tryz.prog 11 globsF [(108, fieldSquareE)] [] []
theorem curveISquareC : CxOk curveISquareX (Glob globsF) := cx_ok (by kernel_rfl) (by kernel_rfl) ⟨fieldSquareK, trivial⟩
theorem curveISquareK : CallOk Tryz.prog (Glob globsF) 70 curveISquareE :=
  fun_ok (cx := curveISquareX) curveISquareC (fn := Tryz.f70) Tryz.func70 (by kernel_rfl) Tryz.ntmps70 Tryz.call70 _ _ _ (by kernel_rfl) (by kernel_rfl) (by kernel_rfl)
    (fun w0 hG => lall_of lall_nil (by kernel_rfl : loopsOf (bodyOf Tryz.f70) = _)) (fun p => Eq.trans (b := curveISquareB p) (by kernel_rfl) (curveISquare_eq p).symm)

noncomputable def curveITimesE : Entry := mkE [.u256, .u256] [.u256] fun p => curveITimes p.1 p.2

noncomputable def curveITimesX : Cx := mkCx Tryz.prog 14 globsF [(20, fieldMulE)] [] []
theorem curveITimesC : CxOk curveITimesX (Glob globsF) := cx_ok (by kernel_rfl) (by kernel_rfl) ⟨fieldMulK, trivial⟩
theorem curveITimesK : CallOk Tryz.prog (Glob globsF) 98 curveITimesE :=
  fun_ok (cx := curveITimesX) curveITimesC (fn := Tryz.f98) Tryz.func98 (by kernel_rfl) Tryz.ntmps98 Tryz.call98 _ _ _ (by kernel_rfl) (by kernel_rfl) (by kernel_rfl)
    (fun w0 hG => lall_of lall_nil (by kernel_rfl : loopsOf (bodyOf Tryz.f98) = _)) (fun p => Eq.trans (b := curveITimesB p.1 p.2) (by kernel_rfl) (curveITimes_eq p.1 p.2).symm)

noncomputable def curveIPlusE : Entry := mkE [.u256, .u256] [.u256] fun p => curveIPlus p.1 p.2

noncomputable def curveIPlusX : Cx := mkCx Tryz.prog 14 globsF [(21, fieldAddE)] [] []
theorem curveIPlusC : CxOk curveIPlusX (Glob globsF) := cx_ok (by kernel_rfl) (by kernel_rfl) ⟨fieldAddK, trivial⟩
theorem curveIPlusK : CallOk Tryz.prog (Glob globsF) 109 curveIPlusE :=
  fun_ok (cx := curveIPlusX) curveIPlusC (fn := Tryz.f109) Tryz.func109 (by kernel_rfl) Tryz.ntmps109 Tryz.call109 _ _ _ (by kernel_rfl) (by kernel_rfl) (by kernel_rfl)
    (fun w0 hG => lall_of lall_nil (by kernel_rfl : loopsOf (bodyOf Tryz.f109) = _)) (fun p => Eq.trans (b := curveIPlusB p.1 p.2) (by kernel_rfl) (curveIPlus_eq p.1 p.2).symm)

noncomputable def curveIRightE : Entry := mkE [.u256] [.u256] fun p => curveIRight p

noncomputable def curveIRightX : Cx := mkCx Tryz.prog 9 globsF [(70, curveISquareE), (98, curveITimesE), (109, curveIPlusE)] [] []
theorem curveIRightC : CxOk curveIRightX (Glob globsF) := cx_ok (by kernel_rfl) (by kernel_rfl) ⟨curveISquareK, curveITimesK, curveIPlusK, trivial⟩
theorem curveIRightK : CallOk Tryz.prog (Glob globsF) 71 curveIRightE :=
  fun_ok (cx := curveIRightX) curveIRightC (fn := Tryz.f71) Tryz.func71 (by kernel_rfl) Tryz.ntmps71 Tryz.call71 _ _ _ (by kernel_rfl) (by kernel_rfl) (by kernel_rfl)
    (fun w0 hG => lall_of lall_nil (by kernel_rfl : loopsOf (bodyOf Tryz.f71) = _)) (fun p => Eq.trans (b := curveIRightB p) (by kernel_rfl) (curveIRight_eq p).symm)

noncomputable def curveOnE : Entry := mkE [.st [.u256, .u256, .bool]] [.bool] fun p => curveOn p

noncomputable def curveOnX : Cx := mkCx Tryz.prog 36 globsF [(18, u256CmpE), (68, curveIZeroE), (69, curveIPrimeE), (70, curveISquareE), (71, curveIRightE)] [] []
theorem curveOnC : CxOk curveOnX (Glob globsF) := cx_ok (by kernel_rfl) (by kernel_rfl) ⟨u256CmpK, curveIZeroK, curveIPrimeK, curveISquareK, curveIRightK, trivial⟩
theorem curveOnK : CallOk Tryz.prog (Glob globsF) 31 curveOnE :=
  fun_ok (cx := curveOnX) curveOnC (fn := Tryz.f31) Tryz.func31 (by kernel_rfl) Tryz.ntmps31 Tryz.call31 _ _ _ (by kernel_rfl) (by kernel_rfl) (by kernel_rfl)
    (fun w0 hG => lall_of lall_nil (by kernel_rfl : loopsOf (bodyOf Tryz.f31) = _)) (fun p => Eq.trans (b := curveOnB p) (by kernel_rfl) (curveOn_eq p).symm)

noncomputable def curveIMinusE : Entry := mkE [.u256, .u256] [.u256] fun p => curveIMinus p.1 p.2

noncomputable def curveIMinusX : Cx := mkCx Tryz.prog 14 globsF [(127, fieldSubE)] [] []
theorem curveIMinusC : CxOk curveIMinusX (Glob globsF) := cx_ok (by kernel_rfl) (by kernel_rfl) ⟨fieldSubK, trivial⟩
theorem curveIMinusK : CallOk Tryz.prog (Glob globsF) 90 curveIMinusE :=
  fun_ok (cx := curveIMinusX) curveIMinusC (fn := Tryz.f90) Tryz.func90 (by kernel_rfl) Tryz.ntmps90 Tryz.call90 _ _ _ (by kernel_rfl) (by kernel_rfl) (by kernel_rfl)
    (fun w0 hG => lall_of lall_nil (by kernel_rfl : loopsOf (bodyOf Tryz.f90) = _)) (fun p => Eq.trans (b := curveIMinusB p.1 p.2) (by kernel_rfl) (curveIMinus_eq p.1 p.2).symm)

noncomputable def curveLiftE : Entry := mkE [.u256, .bool] [.st [.u256, .u256, .bool], .int .i64] fun p => curveLift p.1 p.2

noncomputable def curveLiftX : Cx := mkCx Tryz.prog 29 globsF [(18, u256CmpE), (68, curveIZeroE), (69, curveIPrimeE), (71, curveIRightE), (89, fieldRootE), (90, curveIMinusE)] [] []
theorem curveLiftC : CxOk curveLiftX (Glob globsF) := cx_ok (by kernel_rfl) (by kernel_rfl) ⟨u256CmpK, curveIZeroK, curveIPrimeK, curveIRightK, fieldRootK, curveIMinusK, trivial⟩
theorem curveLiftK : CallOk Tryz.prog (Glob globsF) 42 curveLiftE :=
  fun_ok (cx := curveLiftX) curveLiftC (fn := Tryz.f42) Tryz.func42 (by kernel_rfl) Tryz.ntmps42 Tryz.call42 _ _ _ (by kernel_rfl) (by kernel_rfl) (by kernel_rfl)
    (fun w0 hG => lall_of lall_nil (by kernel_rfl : loopsOf (bodyOf Tryz.f42) = _)) (fun p => Eq.trans (b := curveLiftB p.1 p.2) (by kernel_rfl) (curveLift_eq p.1 p.2).symm)

noncomputable def ref05IIdentityE : Entry := mkE [] [.st [.u256, .u256, .bool]] fun _ => ref05IIdentity

noncomputable def ref05IIdentityX : Cx := mkCx Tryz.prog 2 globsF [] [] []
theorem ref05IIdentityC : CxOk ref05IIdentityX (Glob globsF) := cx_ok (by kernel_rfl) (by kernel_rfl) trivial
theorem ref05IIdentityK : CallOk Tryz.prog (Glob globsF) 76 ref05IIdentityE :=
  fun_ok (cx := ref05IIdentityX) ref05IIdentityC (fn := Tryz.f76) Tryz.func76 (by kernel_rfl) Tryz.ntmps76 Tryz.call76 _ _ _ (by kernel_rfl) (by kernel_rfl) (by kernel_rfl)
    (fun w0 hG => lall_of lall_nil (by kernel_rfl : loopsOf (bodyOf Tryz.f76) = _)) (fun p => Eq.trans (b := ref05IIdentityB ) (by kernel_rfl) (ref05IIdentity_eq ).symm)

noncomputable def ref05ILowE : Entry := mkE [.u256] [.bool] fun p => ref05ILow p

noncomputable def ref05ILowX : Cx := mkCx Tryz.prog 13 globsF [(61, ref01CmpE), (67, ref04ModulusE)] [] []
theorem ref05ILowC : CxOk ref05ILowX (Glob globsF) := cx_ok (by kernel_rfl) (by kernel_rfl) ⟨ref01CmpK, ref04ModulusK, trivial⟩
theorem ref05ILowK : CallOk Tryz.prog (Glob globsF) 77 ref05ILowE :=
  fun_ok (cx := ref05ILowX) ref05ILowC (fn := Tryz.f77) Tryz.func77 (by kernel_rfl) Tryz.ntmps77 Tryz.call77 _ _ _ (by kernel_rfl) (by kernel_rfl) (by kernel_rfl)
    (fun w0 hG => lall_of lall_nil (by kernel_rfl : loopsOf (bodyOf Tryz.f77) = _)) (fun p => Eq.trans (b := ref05ILowB p) (by kernel_rfl) (ref05ILow_eq p).symm)

noncomputable def ref05IMulE : Entry := mkE [.u256, .u256] [.u256] fun p => ref05IMul p.1 p.2

noncomputable def ref05IMulX : Cx := mkCx Tryz.prog 14 globsF [(86, ref04MulE)] [] []
theorem ref05IMulC : CxOk ref05IMulX (Glob globsF) := cx_ok (by kernel_rfl) (by kernel_rfl) ⟨ref04MulK, trivial⟩
theorem ref05IMulK : CallOk Tryz.prog (Glob globsF) 78 ref05IMulE :=
  fun_ok (cx := ref05IMulX) ref05IMulC (fn := Tryz.f78) Tryz.func78 (by kernel_rfl) Tryz.ntmps78 Tryz.call78 _ _ _ (by kernel_rfl) (by kernel_rfl) (by kernel_rfl)
    (fun w0 hG => lall_of lall_nil (by kernel_rfl : loopsOf (bodyOf Tryz.f78) = _)) (fun p => Eq.trans (b := ref05IMulB p.1 p.2) (by kernel_rfl) (ref05IMul_eq p.1 p.2).symm)

noncomputable def ref05IAddE : Entry := mkE [.u256, .u256] [.u256] fun p => ref05IAdd p.1 p.2

noncomputable def ref05IAddX : Cx := mkCx Tryz.prog 14 globsF [(105, ref04AddE)] [] []
theorem ref05IAddC : CxOk ref05IAddX (Glob globsF) := cx_ok (by kernel_rfl) (by kernel_rfl) ⟨ref04AddK, trivial⟩
theorem ref05IAddK : CallOk Tryz.prog (Glob globsF) 115 ref05IAddE :=
  fun_ok (cx := ref05IAddX) ref05IAddC (fn := Tryz.f115) Tryz.func115 (by kernel_rfl) Tryz.ntmps115 Tryz.call115 _ _ _ (by kernel_rfl) (by kernel_rfl) (by kernel_rfl)
    (fun w0 hG => lall_of lall_nil (by kernel_rfl : loopsOf (bodyOf Tryz.f115) = _)) (fun p => Eq.trans (b := ref05IAddB p.1 p.2) (by kernel_rfl) (ref05IAdd_eq p.1 p.2).symm)

noncomputable def ref05ICubicE : Entry := mkE [.u256] [.u256] fun p => ref05ICubic p

noncomputable def ref05ICubicX : Cx := mkCx Tryz.prog 12 globsF [(78, ref05IMulE), (115, ref05IAddE), (116, ref01FromE)] [] []
theorem ref05ICubicC : CxOk ref05ICubicX (Glob globsF) := cx_ok (by kernel_rfl) (by kernel_rfl) ⟨ref05IMulK, ref05IAddK, ref01FromK, trivial⟩
theorem ref05ICubicK : CallOk Tryz.prog (Glob globsF) 79 ref05ICubicE :=
  fun_ok (cx := ref05ICubicX) ref05ICubicC (fn := Tryz.f79) Tryz.func79 (by kernel_rfl) Tryz.ntmps79 Tryz.call79 _ _ _ (by kernel_rfl) (by kernel_rfl) (by kernel_rfl)
    (fun w0 hG => lall_of lall_nil (by kernel_rfl : loopsOf (bodyOf Tryz.f79) = _)) (fun p => Eq.trans (b := ref05ICubicB p) (by kernel_rfl) (ref05ICubic_eq p).symm)

noncomputable def ref05OnE : Entry := mkE [.st [.u256, .u256, .bool]] [.bool] fun p => ref05On p

noncomputable def ref05OnX : Cx := mkCx Tryz.prog 27 globsF [(76, ref05IIdentityE), (77, ref05ILowE), (78, ref05IMulE), (79, ref05ICubicE)] [] []
theorem ref05OnC : CxOk ref05OnX (Glob globsF) := cx_ok (by kernel_rfl) (by kernel_rfl) ⟨ref05IIdentityK, ref05ILowK, ref05IMulK, ref05ICubicK, trivial⟩
theorem ref05OnK : CallOk Tryz.prog (Glob globsF) 35 ref05OnE :=
  fun_ok (cx := ref05OnX) ref05OnC (fn := Tryz.f35) Tryz.func35 (by kernel_rfl) Tryz.ntmps35 Tryz.call35 _ _ _ (by kernel_rfl) (by kernel_rfl) (by kernel_rfl)
    (fun w0 hG => lall_of lall_nil (by kernel_rfl : loopsOf (bodyOf Tryz.f35) = _)) (fun p => Eq.trans (b := ref05OnB p) (by kernel_rfl) (ref05On_eq p).symm)

noncomputable def ref05ISubE : Entry := mkE [.u256, .u256] [.u256] fun p => ref05ISub p.1 p.2

noncomputable def ref05ISubX : Cx := mkCx Tryz.prog 14 globsF [(139, ref04SubE)] [] []
theorem ref05ISubC : CxOk ref05ISubX (Glob globsF) := cx_ok (by kernel_rfl) (by kernel_rfl) ⟨ref04SubK, trivial⟩
theorem ref05ISubK : CallOk Tryz.prog (Glob globsF) 119 ref05ISubE :=
  fun_ok (cx := ref05ISubX) ref05ISubC (fn := Tryz.f119) Tryz.func119 (by kernel_rfl) Tryz.ntmps119 Tryz.call119 _ _ _ (by kernel_rfl) (by kernel_rfl) (by kernel_rfl)
    (fun w0 hG => lall_of lall_nil (by kernel_rfl : loopsOf (bodyOf Tryz.f119) = _)) (fun p => Eq.trans (b := ref05ISubB p.1 p.2) (by kernel_rfl) (ref05ISub_eq p.1 p.2).symm)

noncomputable def ref05INegE : Entry := mkE [.st [.u256, .u256, .bool]] [.st [.u256, .u256, .bool]] fun p => ref05INeg p

noncomputable def ref05INegX : Cx := mkCx Tryz.prog 15 globsF [(119, ref05ISubE)] [] []
theorem ref05INegC : CxOk ref05INegX (Glob globsF) := cx_ok (by kernel_rfl) (by kernel_rfl) ⟨ref05ISubK, trivial⟩
theorem ref05INegK : CallOk Tryz.prog (Glob globsF) 92 ref05INegE :=
  fun_ok (cx := ref05INegX) ref05INegC (fn := Tryz.f92) Tryz.func92 (by kernel_rfl) Tryz.ntmps92 Tryz.call92 _ _ _ (by kernel_rfl) (by kernel_rfl) (by kernel_rfl)
    (fun w0 hG => lall_of lall_nil (by kernel_rfl : loopsOf (bodyOf Tryz.f92) = _)) (fun p => Eq.trans (b := ref05INegB p) (by kernel_rfl) (ref05INeg_eq p).symm)

noncomputable def ref05LiftE : Entry := mkE [.u256, .bool] [.st [.u256, .u256, .bool], .int .i64] fun p => ref05Lift p.1 p.2

noncomputable def ref05LiftX : Cx := mkCx Tryz.prog 29 globsF [(77, ref05ILowE), (79, ref05ICubicE), (91, ref04RootE), (92, ref05INegE)] [] []
theorem ref05LiftC : CxOk ref05LiftX (Glob globsF) := cx_ok (by kernel_rfl) (by kernel_rfl) ⟨ref05ILowK, ref05ICubicK, ref04RootK, ref05INegK, trivial⟩
theorem ref05LiftK : CallOk Tryz.prog (Glob globsF) 43 ref05LiftE :=
  fun_ok (cx := ref05LiftX) ref05LiftC (fn := Tryz.f43) Tryz.func43 (by kernel_rfl) Tryz.ntmps43 Tryz.call43 _ _ _ (by kernel_rfl) (by kernel_rfl) (by kernel_rfl)
    (fun w0 hG => lall_of lall_nil (by kernel_rfl : loopsOf (bodyOf Tryz.f43) = _)) (fun p => Eq.trans (b := ref05LiftB p.1 p.2) (by kernel_rfl) (ref05Lift_eq p.1 p.2).symm)

noncomputable def curveGE : Entry := mkE [] [.st [.u256, .u256, .bool]] fun _ => curveG

noncomputable def curveGX : Cx := mkCx Tryz.prog 20 globsG [] [] []
theorem curveGC : CxOk curveGX (Glob globsG) := cx_ok (by kernel_rfl) (by kernel_rfl) trivial
theorem curveGK : CallOk Tryz.prog (Glob globsG) 97 curveGE :=
  fun_ok (cx := curveGX) curveGC (fn := Tryz.f97) Tryz.func97 (by kernel_rfl) Tryz.ntmps97 Tryz.call97 _ _ _ (by kernel_rfl) (by kernel_rfl) (by kernel_rfl)
    (fun w0 hG => lall_of lall_nil (by kernel_rfl : loopsOf (bodyOf Tryz.f97) = _)) (fun p => Eq.trans (b := curveGB ) (by kernel_rfl) (curveG_eq ).symm)

noncomputable def curveIOneE : Entry := mkE [] [.u256] fun _ => curveIOne

noncomputable def curveIOneX : Cx := mkCx Tryz.prog 2 globsF [] [] []
theorem curveIOneC : CxOk curveIOneX (Glob globsF) := cx_ok (by kernel_rfl) (by kernel_rfl) trivial
theorem curveIOneK : CallOk Tryz.prog (Glob globsF) 111 curveIOneE :=
  fun_ok (cx := curveIOneX) curveIOneC (fn := Tryz.f111) Tryz.func111 (by kernel_rfl) Tryz.ntmps111 Tryz.call111 _ _ _ (by kernel_rfl) (by kernel_rfl) (by kernel_rfl)
    (fun w0 hG => lall_of lall_nil (by kernel_rfl : loopsOf (bodyOf Tryz.f111) = _)) (fun p => Eq.trans (b := curveIOneB ) (by kernel_rfl) (curveIOne_eq ).symm)

noncomputable def curveIOfE : Entry := mkE [.st [.u256, .u256, .bool]] [.st [.u256, .u256, .u256]] fun p => curveIOf p

noncomputable def curveIOfX : Cx := mkCx Tryz.prog 12 globsF [(111, curveIOneE)] [] []
theorem curveIOfC : CxOk curveIOfX (Glob globsF) := cx_ok (by kernel_rfl) (by kernel_rfl) ⟨curveIOneK, trivial⟩
theorem curveIOfK : CallOk Tryz.prog (Glob globsF) 73 curveIOfE :=
  fun_ok (cx := curveIOfX) curveIOfC (fn := Tryz.f73) Tryz.func73 (by kernel_rfl) Tryz.ntmps73 Tryz.call73 _ _ _ (by kernel_rfl) (by kernel_rfl) (by kernel_rfl)
    (fun w0 hG => lall_of lall_nil (by kernel_rfl : loopsOf (bodyOf Tryz.f73) = _)) (fun p => Eq.trans (b := curveIOfB p) (by kernel_rfl) (curveIOf_eq p).symm)

noncomputable def curveJacobianDoubleE : Entry := mkE [.st [.u256, .u256, .u256]] [.st [.u256, .u256, .u256]] fun p => curveJacobianDouble p

noncomputable def curveJacobianDoubleX : Cx := mkCx Tryz.prog 66 globsF [(68, curveIZeroE), (70, curveISquareE), (90, curveIMinusE), (98, curveITimesE), (109, curveIPlusE)] [] []
theorem curveJacobianDoubleC : CxOk curveJacobianDoubleX (Glob globsF) := cx_ok (by kernel_rfl) (by kernel_rfl) ⟨curveIZeroK, curveISquareK, curveIMinusK, curveITimesK, curveIPlusK, trivial⟩
theorem curveJacobianDoubleK : CallOk Tryz.prog (Glob globsF) 110 curveJacobianDoubleE :=
  fun_ok (cx := curveJacobianDoubleX) curveJacobianDoubleC (fn := Tryz.f110) Tryz.func110 (by kernel_rfl) Tryz.ntmps110 Tryz.call110 _ _ _ (by kernel_rfl) (by kernel_rfl) (by kernel_rfl)
    (fun w0 hG => lall_of (lall_free (b := loopAt Tryz.f110 0) (by kernel_rfl) (lall_nil)) (by kernel_rfl : loopsOf (bodyOf Tryz.f110) = _)) (fun p => Eq.trans (b := curveJacobianDoubleB p) (by kernel_rfl) (curveJacobianDouble_eq p).symm)

noncomputable def curveJacobianAddE : Entry := mkE [.st [.u256, .u256, .u256], .st [.u256, .u256, .u256]] [.st [.u256, .u256, .u256]] fun p => curveJacobianAdd p.1 p.2

noncomputable def curveJacobianAddX : Cx := mkCx Tryz.prog 104 globsF [(68, curveIZeroE), (70, curveISquareE), (90, curveIMinusE), (98, curveITimesE), (110, curveJacobianDoubleE)] [] []
theorem curveJacobianAddC : CxOk curveJacobianAddX (Glob globsF) := cx_ok (by kernel_rfl) (by kernel_rfl) ⟨curveIZeroK, curveISquareK, curveIMinusK, curveITimesK, curveJacobianDoubleK, trivial⟩
theorem curveJacobianAddK : CallOk Tryz.prog (Glob globsF) 72 curveJacobianAddE :=
  fun_ok (cx := curveJacobianAddX) curveJacobianAddC (fn := Tryz.f72) Tryz.func72 (by kernel_rfl) Tryz.ntmps72 Tryz.call72 _ _ _ (by kernel_rfl) (by kernel_rfl) (by kernel_rfl)
    (fun w0 hG => lall_of lall_nil (by kernel_rfl : loopsOf (bodyOf Tryz.f72) = _)) (fun p => Eq.trans (b := curveJacobianAddB p.1 p.2) (by kernel_rfl) (curveJacobianAdd_eq p.1 p.2).symm)

noncomputable def curveJacobianRowE : Entry := mkE [.st [.u256, .u256, .u256]] [.arr .jac 16] fun p => curveJacobianRow p

noncomputable def curveJacobianRowX : Cx := mkCx Tryz.prog 18 globsF [(72, curveJacobianAddE)] [] []
theorem curveJacobianRowC : CxOk curveJacobianRowX (Glob globsF) := cx_ok (by kernel_rfl) (by kernel_rfl) ⟨curveJacobianAddK, trivial⟩
theorem curveJacobianRowK : CallOk Tryz.prog (Glob globsF) 112 curveJacobianRowE :=
  fun_ok (cx := curveJacobianRowX) curveJacobianRowC (fn := Tryz.f112) Tryz.func112 (by kernel_rfl) Tryz.ntmps112 Tryz.call112 _ _ _ (by kernel_rfl) (by kernel_rfl) (by kernel_rfl)
    (fun w0 hG => lall_of (lall_free (b := loopAt Tryz.f112 0) (by kernel_rfl) (lall_nil)) (by kernel_rfl : loopsOf (bodyOf Tryz.f112) = _)) (fun p => Eq.trans (b := curveJacobianRowB p) (by kernel_rfl) (curveJacobianRow_eq p).symm)

noncomputable def curveIDigitE : Entry := mkE [.u256, .int .i64] [.int .i64] fun p => curveIDigit p.1 p.2

noncomputable def curveIDigitX : Cx := mkCx Tryz.prog 15 globsF [] [] []
theorem curveIDigitC : CxOk curveIDigitX (Glob globsF) := cx_ok (by kernel_rfl) (by kernel_rfl) trivial
theorem curveIDigitK : CallOk Tryz.prog (Glob globsF) 114 curveIDigitE :=
  fun_ok (cx := curveIDigitX) curveIDigitC (fn := Tryz.f114) Tryz.func114 (by kernel_rfl) Tryz.ntmps114 Tryz.call114 _ _ _ (by kernel_rfl) (by kernel_rfl) (by kernel_rfl)
    (fun w0 hG => lall_of lall_nil (by kernel_rfl : loopsOf (bodyOf Tryz.f114) = _)) (fun p => Eq.trans (b := curveIDigitB p.1 p.2) (by kernel_rfl) (curveIDigit_eq p.1 p.2).symm)

noncomputable def curveJacobianMultipleE : Entry := mkE [.st [.u256, .u256, .u256], .u256] [.st [.u256, .u256, .u256]] fun p => curveJacobianMultiple p.1 p.2

def curveJacobianMultipleL0Y : Lay := ⟨[(false, 3, .ptr 1003 []), (false, 4, .ptr 1004 []), (false, 5, .ptr 1005 []), (false, 6, .ptr 1006 [])], [(false, 7, .int .i64), (true, 1003, .u256), (true, 1004, .st [.u256, .u256, .u256]), (true, 1005, .arr .jac 16), (true, 1006, .st [.u256, .u256, .u256])], [⟨[(1003, 1003), (1004, 1004), (1005, 1005), (1006, 1006)], []⟩]⟩
def curveJacobianMultipleL0Z : List (Ex × Lay) := [(.exit 0, ⟨[(false, 4, .ptr 1004 []), (false, 6, .ptr 1006 [])], [(true, 1004, .st [.u256, .u256, .u256]), (true, 1006, .st [.u256, .u256, .u256])], [⟨[(1004, 1004), (1006, 1006)], []⟩]⟩)]
noncomputable def curveJacobianMultipleL0E : LEntry := mkL curveJacobianMultipleL0Y curveJacobianMultipleL0Z fun p => curveJacobianMultipleL0 p.1 p.2.1 p.2.2.1 p.2.2.2.1 p.2.2.2.2
noncomputable def curveJacobianMultipleX : Cx := mkCx Tryz.prog 32 globsF [(72, curveJacobianAddE), (110, curveJacobianDoubleE), (112, curveJacobianRowE), (113, u256LenE), (114, curveIDigitE)] [(4, curveJacobianMultipleL0E)] []
theorem curveJacobianMultipleC : CxOk curveJacobianMultipleX (Glob globsF) := cx_ok (by kernel_rfl) (by kernel_rfl) ⟨curveJacobianAddK, curveJacobianDoubleK, curveJacobianRowK, u256LenK, curveIDigitK, trivial⟩
theorem curveJacobianMultipleL0K (w0 : Ini) (hG : Glob globsF w0) : LoopOk curveJacobianMultipleX w0 (loopAt Tryz.f74 0) curveJacobianMultipleL0E :=
  loop_okH curveJacobianMultipleC hG (loopAt Tryz.f74 0) (lall_of (lall_free (b := loopAt Tryz.f74 1) (by kernel_rfl) (lall_nil)) (by kernel_rfl : loopsOf (loopAt Tryz.f74 0) = _))
    curveJacobianMultipleL0Y curveJacobianMultipleL0Z (by kernel_rfl) (fun p => curveJacobianMultipleL0R p.1 p.2.1 p.2.2.1 p.2.2.2.1 p.2.2.2.2) (fun p => 1000) (fun p => by kernel_rfl) _ (fun p => curveJacobianMultipleL0_eq p.1 p.2.1 p.2.2.1 p.2.2.2.1 p.2.2.2.2)
theorem curveJacobianMultipleK : CallOk Tryz.prog (Glob globsF) 74 curveJacobianMultipleE :=
  fun_ok (cx := curveJacobianMultipleX) curveJacobianMultipleC (fn := Tryz.f74) Tryz.func74 (by kernel_rfl) Tryz.ntmps74 Tryz.call74 _ _ _ (by kernel_rfl) (by kernel_rfl) (by kernel_rfl)
    (fun w0 hG => lall_of (lall_cut (b := loopAt Tryz.f74 0) (curveJacobianMultipleL0K w0 hG) (by kernel_rfl) (lall_free (b := loopAt Tryz.f74 1) (by kernel_rfl) (lall_nil))) (by kernel_rfl : loopsOf (bodyOf Tryz.f74) = _)) (fun p => Eq.trans (b := curveJacobianMultipleB p.1 p.2) (by kernel_rfl) (curveJacobianMultiple_eq p.1 p.2).symm)

noncomputable def curveIMultipleGE : Entry := mkE [.u256] [.st [.u256, .u256, .u256]] fun p => curveIMultipleG p

noncomputable def curveIMultipleGX : Cx := mkCx Tryz.prog 7 globsG [(73, curveIOfE), (74, curveJacobianMultipleE), (97, curveGE)] [] []
theorem curveIMultipleGC : CxOk curveIMultipleGX (Glob globsG) := cx_ok (by kernel_rfl) (by kernel_rfl) ⟨(curveIOfK.up globsFG), (curveJacobianMultipleK.up globsFG), curveGK, trivial⟩
theorem curveIMultipleGK : CallOk Tryz.prog (Glob globsG) 48 curveIMultipleGE :=
  fun_ok (cx := curveIMultipleGX) curveIMultipleGC (fn := Tryz.f48) Tryz.func48 (by kernel_rfl) Tryz.ntmps48 Tryz.call48 _ _ _ (by kernel_rfl) (by kernel_rfl) (by kernel_rfl)
    (fun w0 hG => lall_of lall_nil (by kernel_rfl : loopsOf (bodyOf Tryz.f48) = _)) (fun p => Eq.trans (b := curveIMultipleGB p) (by kernel_rfl) (curveIMultipleG_eq p).symm)

noncomputable def curveJacobianPointE : Entry := mkE [.st [.u256, .u256, .u256]] [.st [.u256, .u256, .bool]] fun p => curveJacobianPoint p

noncomputable def curveJacobianPointX : Cx := mkCx Tryz.prog 30 globsF [(23, fieldInverseE), (68, curveIZeroE), (70, curveISquareE), (98, curveITimesE)] [] []
theorem curveJacobianPointC : CxOk curveJacobianPointX (Glob globsF) := cx_ok (by kernel_rfl) (by kernel_rfl) ⟨fieldInverseK, curveIZeroK, curveISquareK, curveITimesK, trivial⟩
theorem curveJacobianPointK : CallOk Tryz.prog (Glob globsF) 49 curveJacobianPointE :=
  fun_ok (cx := curveJacobianPointX) curveJacobianPointC (fn := Tryz.f49) Tryz.func49 (by kernel_rfl) Tryz.ntmps49 Tryz.call49 _ _ _ (by kernel_rfl) (by kernel_rfl) (by kernel_rfl)
    (fun w0 hG => lall_of lall_nil (by kernel_rfl : loopsOf (bodyOf Tryz.f49) = _)) (fun p => Eq.trans (b := curveJacobianPointB p) (by kernel_rfl) (curveJacobianPoint_eq p).symm)

noncomputable def curveMulGE : Entry := mkE [.u256] [.st [.u256, .u256, .bool]] fun p => curveMulG p

noncomputable def curveMulGX : Cx := mkCx Tryz.prog 6 globsG [(48, curveIMultipleGE), (49, curveJacobianPointE)] [] []
theorem curveMulGC : CxOk curveMulGX (Glob globsG) := cx_ok (by kernel_rfl) (by kernel_rfl) ⟨curveIMultipleGK, (curveJacobianPointK.up globsFG), trivial⟩
theorem curveMulGK : CallOk Tryz.prog (Glob globsG) 17 curveMulGE :=
  fun_ok (cx := curveMulGX) curveMulGC (fn := Tryz.f17) Tryz.func17 (by kernel_rfl) Tryz.ntmps17 Tryz.call17 _ _ _ (by kernel_rfl) (by kernel_rfl) (by kernel_rfl)
    (fun w0 hG => lall_of lall_nil (by kernel_rfl : loopsOf (bodyOf Tryz.f17) = _)) (fun p => Eq.trans (b := curveMulGB p) (by kernel_rfl) (curveMulG_eq p).symm)

noncomputable def curveMulAddE : Entry := mkE [.u256, .u256, .st [.u256, .u256, .bool]] [.st [.u256, .u256, .bool], .int .i64] fun p => curveMulAdd p.1 p.2.1 p.2.2

noncomputable def curveMulAddX : Cx := mkCx Tryz.prog 20 globsG [(31, curveOnE), (48, curveIMultipleGE), (49, curveJacobianPointE), (72, curveJacobianAddE), (73, curveIOfE), (74, curveJacobianMultipleE)] [] []
theorem curveMulAddC : CxOk curveMulAddX (Glob globsG) := cx_ok (by kernel_rfl) (by kernel_rfl) ⟨(curveOnK.up globsFG), curveIMultipleGK, (curveJacobianPointK.up globsFG), (curveJacobianAddK.up globsFG), (curveIOfK.up globsFG), (curveJacobianMultipleK.up globsFG), trivial⟩
theorem curveMulAddK : CallOk Tryz.prog (Glob globsG) 33 curveMulAddE :=
  fun_ok (cx := curveMulAddX) curveMulAddC (fn := Tryz.f33) Tryz.func33 (by kernel_rfl) Tryz.ntmps33 Tryz.call33 _ _ _ (by kernel_rfl) (by kernel_rfl) (by kernel_rfl)
    (fun w0 hG => lall_of lall_nil (by kernel_rfl : loopsOf (bodyOf Tryz.f33) = _)) (fun p => Eq.trans (b := curveMulAddB p.1 p.2.1 p.2.2) (by kernel_rfl) (curveMulAdd_eq p.1 p.2.1 p.2.2).symm)

noncomputable def ref05GE : Entry := mkE [] [.st [.u256, .u256, .bool]] fun _ => ref05G

noncomputable def ref05GX : Cx := mkCx Tryz.prog 8 globsF [] [] []
theorem ref05GC : CxOk ref05GX (Glob globsF) := cx_ok (by kernel_rfl) (by kernel_rfl) trivial
theorem ref05GK : CallOk Tryz.prog (Glob globsF) 84 ref05GE :=
  fun_ok (cx := ref05GX) ref05GC (fn := Tryz.f84) Tryz.func84 (by kernel_rfl) Tryz.ntmps84 Tryz.call84 _ _ _ (by kernel_rfl) (by kernel_rfl) (by kernel_rfl)
    (fun w0 hG => lall_of lall_nil (by kernel_rfl : loopsOf (bodyOf Tryz.f84) = _)) (fun p => Eq.trans (b := ref05GB ) (by kernel_rfl) (ref05G_eq ).symm)

noncomputable def ref05IThreeE : Entry := mkE [.st [.u256, .u256, .bool]] [.st [.u256, .u256, .u256]] fun p => ref05IThree p

noncomputable def ref05IThreeX : Cx := mkCx Tryz.prog 12 globsF [(116, ref01FromE)] [] []
theorem ref05IThreeC : CxOk ref05IThreeX (Glob globsF) := cx_ok (by kernel_rfl) (by kernel_rfl) ⟨ref01FromK, trivial⟩
theorem ref05IThreeK : CallOk Tryz.prog (Glob globsF) 122 ref05IThreeE :=
  fun_ok (cx := ref05IThreeX) ref05IThreeC (fn := Tryz.f122) Tryz.func122 (by kernel_rfl) Tryz.ntmps122 Tryz.call122 _ _ _ (by kernel_rfl) (by kernel_rfl) (by kernel_rfl)
    (fun w0 hG => lall_of lall_nil (by kernel_rfl : loopsOf (bodyOf Tryz.f122) = _)) (fun p => Eq.trans (b := ref05IThreeB p) (by kernel_rfl) (ref05IThree_eq p).symm)

noncomputable def ref05ITimesE : Entry := mkE [.int .u64, .u256] [.u256] fun p => ref05ITimes p.1 p.2

noncomputable def ref05ITimesX : Cx := mkCx Tryz.prog 9 globsF [(78, ref05IMulE), (116, ref01FromE)] [] []
theorem ref05ITimesC : CxOk ref05ITimesX (Glob globsF) := cx_ok (by kernel_rfl) (by kernel_rfl) ⟨ref05IMulK, ref01FromK, trivial⟩
theorem ref05ITimesK : CallOk Tryz.prog (Glob globsF) 121 ref05ITimesE :=
  fun_ok (cx := ref05ITimesX) ref05ITimesC (fn := Tryz.f121) Tryz.func121 (by kernel_rfl) Tryz.ntmps121 Tryz.call121 _ _ _ (by kernel_rfl) (by kernel_rfl) (by kernel_rfl)
    (fun w0 hG => lall_of lall_nil (by kernel_rfl : loopsOf (bodyOf Tryz.f121) = _)) (fun p => Eq.trans (b := ref05ITimesB p.1 p.2) (by kernel_rfl) (ref05ITimes_eq p.1 p.2).symm)

noncomputable def ref05ITwiceE : Entry := mkE [.st [.u256, .u256, .u256]] [.st [.u256, .u256, .u256]] fun p => ref05ITwice p

noncomputable def ref05ITwiceX : Cx := mkCx Tryz.prog 51 globsF [(78, ref05IMulE), (119, ref05ISubE), (121, ref05ITimesE)] [] []
theorem ref05ITwiceC : CxOk ref05ITwiceX (Glob globsF) := cx_ok (by kernel_rfl) (by kernel_rfl) ⟨ref05IMulK, ref05ISubK, ref05ITimesK, trivial⟩
theorem ref05ITwiceK : CallOk Tryz.prog (Glob globsF) 120 ref05ITwiceE :=
  fun_ok (cx := ref05ITwiceX) ref05ITwiceC (fn := Tryz.f120) Tryz.func120 (by kernel_rfl) Tryz.ntmps120 Tryz.call120 _ _ _ (by kernel_rfl) (by kernel_rfl) (by kernel_rfl)
    (fun w0 hG => lall_of lall_nil (by kernel_rfl : loopsOf (bodyOf Tryz.f120) = _)) (fun p => Eq.trans (b := ref05ITwiceB p) (by kernel_rfl) (ref05ITwice_eq p).symm)

noncomputable def ref05IBothE : Entry := mkE [.st [.u256, .u256, .u256], .st [.u256, .u256, .u256]] [.st [.u256, .u256, .u256]] fun p => ref05IBoth p.1 p.2

noncomputable def ref05IBothX : Cx := mkCx Tryz.prog 116 globsF [(78, ref05IMulE), (119, ref05ISubE), (120, ref05ITwiceE), (121, ref05ITimesE)] [] []
theorem ref05IBothC : CxOk ref05IBothX (Glob globsF) := cx_ok (by kernel_rfl) (by kernel_rfl) ⟨ref05IMulK, ref05ISubK, ref05ITwiceK, ref05ITimesK, trivial⟩
theorem ref05IBothK : CallOk Tryz.prog (Glob globsF) 82 ref05IBothE :=
  fun_ok (cx := ref05IBothX) ref05IBothC (fn := Tryz.f82) Tryz.func82 (by kernel_rfl) Tryz.ntmps82 Tryz.call82 _ _ _ (by kernel_rfl) (by kernel_rfl) (by kernel_rfl)
    (fun w0 hG => lall_of lall_nil (by kernel_rfl : loopsOf (bodyOf Tryz.f82) = _)) (fun p => Eq.trans (b := ref05IBothB p.1 p.2) (by kernel_rfl) (ref05IBoth_eq p.1 p.2).symm)

noncomputable def ref05IMultipleE : Entry := mkE [.u256, .st [.u256, .u256, .bool]] [.st [.u256, .u256, .u256]] fun p => ref05IMultiple p.1 p.2

def ref05IMultipleL0Y : Lay := ⟨[(false, 2, .ptr 1002 []), (false, 4, .ptr 1004 []), (false, 5, .ptr 1005 []), (false, 6, .ptr 1006 [])], [(false, 7, .int .i64), (true, 1002, .u256), (true, 1004, .st [.u256, .u256, .u256]), (true, 1005, .st [.u256, .u256, .u256]), (true, 1006, .st [.u256, .u256, .u256])], [⟨[(1002, 1002), (1004, 1004), (1005, 1005), (1006, 1006)], []⟩]⟩
def ref05IMultipleL0Z : List (Ex × Lay) := [(.exit 0, ⟨[(false, 4, .ptr 1004 []), (false, 6, .ptr 1006 [])], [(true, 1004, .st [.u256, .u256, .u256]), (true, 1006, .st [.u256, .u256, .u256])], [⟨[(1004, 1004), (1006, 1006)], []⟩]⟩)]
noncomputable def ref05IMultipleL0E : LEntry := mkL ref05IMultipleL0Y ref05IMultipleL0Z fun p => ref05IMultipleL0 p.1 p.2.1 p.2.2.1 p.2.2.2.1 p.2.2.2.2
noncomputable def ref05IMultipleX : Cx := mkCx Tryz.prog 29 globsF [(82, ref05IBothE), (120, ref05ITwiceE), (122, ref05IThreeE), (123, ref01BitE)] [(4, ref05IMultipleL0E)] []
theorem ref05IMultipleC : CxOk ref05IMultipleX (Glob globsF) := cx_ok (by kernel_rfl) (by kernel_rfl) ⟨ref05IBothK, ref05ITwiceK, ref05IThreeK, ref01BitK, trivial⟩
theorem ref05IMultipleL0K (w0 : Ini) (hG : Glob globsF w0) : LoopOk ref05IMultipleX w0 (loopAt Tryz.f83 0) ref05IMultipleL0E :=
  loop_okH ref05IMultipleC hG (loopAt Tryz.f83 0) (lall_of lall_nil (by kernel_rfl : loopsOf (loopAt Tryz.f83 0) = _))
    ref05IMultipleL0Y ref05IMultipleL0Z (by kernel_rfl) (fun p => ref05IMultipleL0R p.1 p.2.1 p.2.2.1 p.2.2.2.1 p.2.2.2.2) (fun p => 1000) (fun p => by kernel_rfl) _ (fun p => ref05IMultipleL0_eq p.1 p.2.1 p.2.2.1 p.2.2.2.1 p.2.2.2.2)
theorem ref05IMultipleK : CallOk Tryz.prog (Glob globsF) 83 ref05IMultipleE :=
  fun_ok (cx := ref05IMultipleX) ref05IMultipleC (fn := Tryz.f83) Tryz.func83 (by kernel_rfl) Tryz.ntmps83 Tryz.call83 _ _ _ (by kernel_rfl) (by kernel_rfl) (by kernel_rfl)
    (fun w0 hG => lall_of (lall_cut (b := loopAt Tryz.f83 0) (ref05IMultipleL0K w0 hG) (by kernel_rfl) (lall_nil)) (by kernel_rfl : loopsOf (bodyOf Tryz.f83) = _)) (fun p => Eq.trans (b := ref05IMultipleB p.1 p.2) (by kernel_rfl) (ref05IMultiple_eq p.1 p.2).symm)

noncomputable def ref05IPointE : Entry := mkE [.st [.u256, .u256, .u256]] [.st [.u256, .u256, .bool]] fun p => ref05IPoint p

noncomputable def ref05IPointX : Cx := mkCx Tryz.prog 35 globsF [(76, ref05IIdentityE), (78, ref05IMulE), (80, ref04InverseE)] [] []
theorem ref05IPointC : CxOk ref05IPointX (Glob globsF) := cx_ok (by kernel_rfl) (by kernel_rfl) ⟨ref05IIdentityK, ref05IMulK, ref04InverseK, trivial⟩
theorem ref05IPointK : CallOk Tryz.prog (Glob globsF) 85 ref05IPointE :=
  fun_ok (cx := ref05IPointX) ref05IPointC (fn := Tryz.f85) Tryz.func85 (by kernel_rfl) Tryz.ntmps85 Tryz.call85 _ _ _ (by kernel_rfl) (by kernel_rfl) (by kernel_rfl)
    (fun w0 hG => lall_of lall_nil (by kernel_rfl : loopsOf (bodyOf Tryz.f85) = _)) (fun p => Eq.trans (b := ref05IPointB p) (by kernel_rfl) (ref05IPoint_eq p).symm)

noncomputable def ref05MulGE : Entry := mkE [.u256] [.st [.u256, .u256, .bool]] fun p => ref05MulG p

noncomputable def ref05MulGX : Cx := mkCx Tryz.prog 7 globsF [(83, ref05IMultipleE), (84, ref05GE), (85, ref05IPointE)] [] []
theorem ref05MulGC : CxOk ref05MulGX (Glob globsF) := cx_ok (by kernel_rfl) (by kernel_rfl) ⟨ref05IMultipleK, ref05GK, ref05IPointK, trivial⟩
theorem ref05MulGK : CallOk Tryz.prog (Glob globsF) 60 ref05MulGE :=
  fun_ok (cx := ref05MulGX) ref05MulGC (fn := Tryz.f60) Tryz.func60 (by kernel_rfl) Tryz.ntmps60 Tryz.call60 _ _ _ (by kernel_rfl) (by kernel_rfl) (by kernel_rfl)
    (fun w0 hG => lall_of lall_nil (by kernel_rfl : loopsOf (bodyOf Tryz.f60) = _)) (fun p => Eq.trans (b := ref05MulGB p) (by kernel_rfl) (ref05MulG_eq p).symm)

noncomputable def ref05MulAddE : Entry := mkE [.u256, .u256, .st [.u256, .u256, .bool]] [.st [.u256, .u256, .bool], .int .i64] fun p => ref05MulAdd p.1 p.2.1 p.2.2

noncomputable def ref05MulAddX : Cx := mkCx Tryz.prog 24 globsF [(35, ref05OnE), (82, ref05IBothE), (83, ref05IMultipleE), (84, ref05GE), (85, ref05IPointE)] [] []
theorem ref05MulAddC : CxOk ref05MulAddX (Glob globsF) := cx_ok (by kernel_rfl) (by kernel_rfl) ⟨ref05OnK, ref05IBothK, ref05IMultipleK, ref05GK, ref05IPointK, trivial⟩
theorem ref05MulAddK : CallOk Tryz.prog (Glob globsF) 39 ref05MulAddE :=
  fun_ok (cx := ref05MulAddX) ref05MulAddC (fn := Tryz.f39) Tryz.func39 (by kernel_rfl) Tryz.ntmps39 Tryz.call39 _ _ _ (by kernel_rfl) (by kernel_rfl) (by kernel_rfl)
    (fun w0 hG => lall_of lall_nil (by kernel_rfl : loopsOf (bodyOf Tryz.f39) = _)) (fun p => Eq.trans (b := ref05MulAddB p.1 p.2.1 p.2.2) (by kernel_rfl) (ref05MulAdd_eq p.1 p.2.1 p.2.2).symm)

end Go.Sy
