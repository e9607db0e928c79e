/- The links: each typed function is what the code computes. Printed by a program. -/
import Derived.Test.YtmjdciphkjapkaaDoorSyVC4
import Derived.Test.YtmjdciphkjapkaaDoorSyWC3
set_option linter.unusedVariables false
set_option maxRecDepth 100000
namespace Go.Sy
open Go Go.Proofs

noncomputable def law05CurveStepsE : Entry := mkE [.u256, .st [.u256, .u256, .bool]] [.bool] fun p => law05CurveSteps p.1 p.2

noncomputable def law05CurveStepsX : Cx := mkCx Tryd.prog 111 globsG [(20, law05INumE), (33, curveDoubleE), (37, curveOnE), (43, law05IBaseE), (44, law05IPlusE), (45, law05IZeroE), (46, curveMulE), (50, u256LenE), (51, u256ShlE), (52, u256OrE), (53, u256FromE)] [] []
theorem law05CurveStepsC : CxOk law05CurveStepsX (Glob globsG) := cx_ok (by kernel_rfl) (by kernel_rfl) ⟨(law05INumK.up globsFG), (curveDoubleK.up globsFG), (curveOnK.up globsFG), law05IBaseK, (law05IPlusK.up globsFG), (law05IZeroK.up globsFG), (curveMulK.up globsFG), (u256LenK.up globsFG), (u256ShlK.up globsFG), (u256OrK.up globsFG), (u256FromK.up globsFG), trivial⟩
theorem law05CurveStepsK : CallOk Tryd.prog (Glob globsG) 11 law05CurveStepsE :=
  fun_ok (cx := law05CurveStepsX) law05CurveStepsC (fn := Tryd.f11) Tryd.func11 (by kernel_rfl) Tryd.ntmps11 Tryd.call11 _ _ _ (by kernel_rfl) (by kernel_rfl) (by kernel_rfl)
    (fun w0 hG => lall_of lall_nil (by kernel_rfl : loopsOf (bodyOf Tryd.f11) = _)) (fun p => Eq.trans (b := law05CurveStepsB p.1 p.2) (by kernel_rfl) (law05CurveSteps_eq p.1 p.2).symm)

end Go.Sy
