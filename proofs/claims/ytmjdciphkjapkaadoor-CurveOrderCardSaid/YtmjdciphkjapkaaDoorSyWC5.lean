/- The links: each typed function is what the code computes. Printed by a program. -/
import Derived.Test.YtmjdciphkjapkaaDoorSyVC5
import Derived.Test.YtmjdciphkjapkaaDoorSyWC4
set_option linter.unusedVariables false
set_option maxRecDepth 100000
namespace Go.Sy
open Go Go.Proofs

noncomputable def law05IOrderE : Entry := mkE [] [.u256] fun _ => law05IOrder

noncomputable def law05IOrderX : Cx := mkCx Tryd.prog 2 globsF [] [] []
theorem law05IOrderC : CxOk law05IOrderX (Glob globsF) := cx_ok (by kernel_rfl) (by kernel_rfl) trivial
theorem law05IOrderK : CallOk Tryd.prog (Glob globsF) 54 law05IOrderE :=
  fun_ok (cx := law05IOrderX) law05IOrderC (fn := Tryd.f54) Tryd.func54 (by kernel_rfl) Tryd.ntmps54 Tryd.call54 _ _ _ (by kernel_rfl) (by kernel_rfl) (by kernel_rfl)
    (fun w0 hG => lall_of lall_nil (by kernel_rfl : loopsOf (bodyOf Tryd.f54) = _)) (fun p => Eq.trans (b := law05IOrderB ) (by kernel_rfl) (law05IOrder_eq ).symm)

noncomputable def law05CurveOrderE : Entry := mkE [.u256, .u256, .st [.u256, .u256, .bool]] [.bool] fun p => law05CurveOrder p.1 p.2.1 p.2.2

noncomputable def law05CurveOrderX : Cx := mkCx Tryd.prog 149 globsG [(20, law05INumE), (37, curveOnE), (39, curveGE), (41, curveMulAddE), (43, law05IBaseE), (44, law05IPlusE), (45, law05IZeroE), (46, curveMulE), (48, curveMulGE), (54, law05IOrderE), (55, u256AddModE)] [] []
theorem law05CurveOrderC : CxOk law05CurveOrderX (Glob globsG) := cx_ok (by kernel_rfl) (by kernel_rfl) ⟨(law05INumK.up globsFG), (curveOnK.up globsFG), curveGK, curveMulAddK, law05IBaseK, (law05IPlusK.up globsFG), (law05IZeroK.up globsFG), (curveMulK.up globsFG), curveMulGK, (law05IOrderK.up globsFG), (u256AddModK.up globsFG), trivial⟩
theorem law05CurveOrderK : CallOk Tryd.prog (Glob globsG) 13 law05CurveOrderE :=
  fun_ok (cx := law05CurveOrderX) law05CurveOrderC (fn := Tryd.f13) Tryd.func13 (by kernel_rfl) Tryd.ntmps13 Tryd.call13 _ _ _ (by kernel_rfl) (by kernel_rfl) (by kernel_rfl)
    (fun w0 hG => lall_of lall_nil (by kernel_rfl : loopsOf (bodyOf Tryd.f13) = _)) (fun p => Eq.trans (b := law05CurveOrderB p.1 p.2.1 p.2.2) (by kernel_rfl) (law05CurveOrder_eq p.1 p.2.1 p.2.2).symm)

end Go.Sy
