/- The links: each typed function is what the code computes. Printed by a program. -/
import Derived.Test.YtmjdciphkjapkaaDoorSyVC3
import Derived.Test.YtmjdciphkjapkaaDoorSyWC2
set_option linter.unusedVariables false
set_option maxRecDepth 100000
namespace Go.Sy
open Go Go.Proofs

def law05ILentI : Lay := ⟨[], [(false, 0, .isl false (.int .u8))], [⟨[], []⟩]⟩
def law05ILentO : Lay := ⟨[], [(false, 0, .osl 1000 (.int .u8)), (true, 1000, .row (.int .u8))], [⟨[(1000, 1011)], []⟩]⟩
noncomputable def law05ILentE : Entry := mkB 1 1 0 [false] law05ILentI law05ILentO (fun p => law05ILent p)

def law05ILentL0Y : Lay := ⟨[], [(false, 3, .osl 1011 (.int .u8)), (false, 4, .osl 1011 (.int .u8)), (false, 5, .int .i64), (true, 1011, .row (.int .u8))], [⟨[(1011, 1011)], []⟩]⟩
def law05ILentL0Z : List (Ex × Lay) := [(.exit 0, ⟨[], [(false, 3, .osl 1011 (.int .u8)), (true, 1011, .row (.int .u8))], [⟨[(1011, 1011)], []⟩]⟩)]
noncomputable def law05ILentL0E : LEntry := mkL law05ILentL0Y law05ILentL0Z fun p => law05ILentL0 p.1 p.2.1 p.2.2.1 p.2.2.2
noncomputable def law05ILentX : Cx := mkCx Tryd.prog 32 globsF [] [(5, law05ILentL0E)] []
theorem law05ILentC : CxOk law05ILentX (Glob globsF) := cx_ok (by kernel_rfl) (by kernel_rfl) trivial
theorem law05ILentL0K (w0 : Ini) (hG : Glob globsF w0) : LoopOk law05ILentX w0 (loopAt Tryd.f26 0) law05ILentL0E :=
  loop_okH law05ILentC hG (loopAt Tryd.f26 0) (lall_of lall_nil (by kernel_rfl : loopsOf (loopAt Tryd.f26 0) = _))
    law05ILentL0Y law05ILentL0Z (by kernel_rfl) (fun p => law05ILentL0R p.1 p.2.1 p.2.2.1 p.2.2.2) (fun p => bigFuel) (fun p => by kernel_rfl) _ (fun p => law05ILentL0_eq p.1 p.2.1 p.2.2.1 p.2.2.2)
theorem law05ILentK : CallOk Tryd.prog (Glob globsF) 26 law05ILentE :=
  fun_okB (cx := law05ILentX) law05ILentC (fn := Tryd.f26) Tryd.func26 (by kernel_rfl) Tryd.ntmps26 Tryd.call26 _ _ _ _ _ _ _ (by kernel_rfl) (by kernel_rfl) (by kernel_rfl)
    (fun w0 hG => lall_of (lall_cut (b := loopAt Tryd.f26 0) (law05ILentL0K w0 hG) (by kernel_rfl) (lall_nil)) (by kernel_rfl : loopsOf (bodyOf Tryd.f26) = _)) (fun p => Eq.trans (b := law05ILentB p) (by kernel_rfl) (law05ILent_eq p).symm)

noncomputable def curveParseE : Entry := mkE [.isl false (.int .u8)] [.st [.u256, .u256, .bool], .int .i64] fun p => curveParse p

noncomputable def curveParseX : Cx := mkCx Tryd.prog 88 globsF [(22, curveLiftE), (37, curveOnE), (58, u256CmpE), (59, curveIPrimeE), (73, u256GetE)] [] []
theorem curveParseC : CxOk curveParseX (Glob globsF) := cx_ok (by kernel_rfl) (by kernel_rfl) ⟨curveLiftK, curveOnK, u256CmpK, curveIPrimeK, u256GetK, trivial⟩
theorem curveParseK : CallOk Tryd.prog (Glob globsF) 27 curveParseE :=
  fun_ok (cx := curveParseX) curveParseC (fn := Tryd.f27) Tryd.func27 (by kernel_rfl) Tryd.ntmps27 Tryd.call27 _ _ _ (by kernel_rfl) (by kernel_rfl) (by kernel_rfl)
    (fun w0 hG => lall_of lall_nil (by kernel_rfl : loopsOf (bodyOf Tryd.f27) = _)) (fun p => Eq.trans (b := curveParseB p) (by kernel_rfl) (curveParse_eq p).symm)

noncomputable def ref05ParseE : Entry := mkE [.isl false (.int .u8)] [.st [.u256, .u256, .bool], .int .i64] fun p => ref05Parse p

noncomputable def ref05ParseX : Cx := mkCx Tryd.prog 86 globsF [(23, ref05LiftE), (38, ref05OnE), (64, ref05ILowE), (74, ref01GetE)] [] []
theorem ref05ParseC : CxOk ref05ParseX (Glob globsF) := cx_ok (by kernel_rfl) (by kernel_rfl) ⟨ref05LiftK, ref05OnK, ref05ILowK, ref01GetK, trivial⟩
theorem ref05ParseK : CallOk Tryd.prog (Glob globsF) 28 ref05ParseE :=
  fun_ok (cx := ref05ParseX) ref05ParseC (fn := Tryd.f28) Tryd.func28 (by kernel_rfl) Tryd.ntmps28 Tryd.call28 _ _ _ (by kernel_rfl) (by kernel_rfl) (by kernel_rfl)
    (fun w0 hG => lall_of lall_nil (by kernel_rfl : loopsOf (bodyOf Tryd.f28) = _)) (fun p => Eq.trans (b := ref05ParseB p) (by kernel_rfl) (ref05Parse_eq p).symm)

def law05IStillI : Lay := ⟨[], [(false, 0, .osl 0 (.int .u8)), (true, 0, .row (.int .u8)), (false, 1, .isl false (.int .u8))], [⟨[(0, 0)], []⟩]⟩
def law05IStillO : Lay := ⟨[], [(false, 0, .bool), (true, 0, .row (.int .u8))], [⟨[(0, 0)], []⟩]⟩
noncomputable def law05IStillE : Entry := mkB 2 1 1 [true, false] law05IStillI law05IStillO (fun p => law05IStill p.1 p.2.1 p.2.2)

def law05IStillL0Y : Lay := ⟨[], [(false, 1, .isl false (.int .u8)), (false, 5, .osl 0 (.int .u8)), (false, 6, .int .i64), (true, 0, .row (.int .u8))], [⟨[(0, 0)], []⟩]⟩
def law05IStillL0Z : List (Ex × Lay) := [(.ret, ⟨[(false, 4, .bool false)], [(true, 0, .row (.int .u8))], [⟨[(0, 0)], []⟩]⟩), (.exit 0, ⟨[], [(true, 0, .row (.int .u8))], [⟨[(0, 0)], []⟩]⟩)]
noncomputable def law05IStillL0E : LEntry := mkL law05IStillL0Y law05IStillL0Z fun p => law05IStillL0 p.1 p.2.1 p.2.2.1 p.2.2.2
noncomputable def law05IStillX : Cx := mkCx Tryd.prog 51 globsF [] [(5, law05IStillL0E)] []
theorem law05IStillC : CxOk law05IStillX (Glob globsF) := cx_ok (by kernel_rfl) (by kernel_rfl) trivial
theorem law05IStillL0K (w0 : Ini) (hG : Glob globsF w0) : LoopOk law05IStillX w0 (loopAt Tryd.f29 0) law05IStillL0E :=
  loop_okH law05IStillC hG (loopAt Tryd.f29 0) (lall_of lall_nil (by kernel_rfl : loopsOf (loopAt Tryd.f29 0) = _))
    law05IStillL0Y law05IStillL0Z (by kernel_rfl) (fun p => law05IStillL0R p.1 p.2.1 p.2.2.1 p.2.2.2) (fun p => bigFuel) (fun p => by kernel_rfl) _ (fun p => law05IStillL0_eq p.1 p.2.1 p.2.2.1 p.2.2.2)
theorem law05IStillK : CallOk Tryd.prog (Glob globsF) 29 law05IStillE :=
  fun_okB (cx := law05IStillX) law05IStillC (fn := Tryd.f29) Tryd.func29 (by kernel_rfl) Tryd.ntmps29 Tryd.call29 _ _ _ _ _ _ _ (by kernel_rfl) (by kernel_rfl) (by kernel_rfl)
    (fun w0 hG => lall_of (lall_cut (b := loopAt Tryd.f29 0) (law05IStillL0K w0 hG) (by kernel_rfl) (lall_nil)) (by kernel_rfl : loopsOf (bodyOf Tryd.f29) = _)) (fun p => Eq.trans (b := law05IStillB p.1 p.2.1 p.2.2) (by kernel_rfl) (law05IStill_eq p.1 p.2.1 p.2.2).symm)

def law05IBackwardI : Lay := ⟨[], [(false, 0, .isl false (.int .u8))], [⟨[], []⟩]⟩
def law05IBackwardO : Lay := ⟨[(false, 0, .own 1000 (.int .u8))], [(true, 1000, .row (.int .u8))], [⟨[(1000, 1020)], []⟩]⟩
noncomputable def law05IBackwardE : Entry := mkB 1 1 0 [false] law05IBackwardI law05IBackwardO (fun p => law05IBackward p)

def law05IBackwardL0Y : Lay := ⟨[(false, 3, .own 1020 (.int .u8))], [(false, 0, .isl false (.int .u8)), (false, 4, .int .i64), (true, 1020, .row (.int .u8))], [⟨[], [(false, 3, [], 1020)]⟩, ⟨[(1020, 1018)], []⟩]⟩
def law05IBackwardL0Z : List (Ex × Lay) := [(.exit 0, ⟨[(false, 3, .own 1020 (.int .u8))], [(true, 1020, .row (.int .u8))], [⟨[(1020, 1020)], []⟩]⟩)]
noncomputable def law05IBackwardL0E : LEntry := mkL law05IBackwardL0Y law05IBackwardL0Z fun p => law05IBackwardL0 p.1 p.2.1 p.2.2
noncomputable def law05IBackwardX : Cx := mkCx Tryd.prog 20 globsF [] [(3, law05IBackwardL0E)] []
theorem law05IBackwardC : CxOk law05IBackwardX (Glob globsF) := cx_ok (by kernel_rfl) (by kernel_rfl) trivial
theorem law05IBackwardL0K (w0 : Ini) (hG : Glob globsF w0) : LoopOk law05IBackwardX w0 (loopAt Tryd.f30 0) law05IBackwardL0E :=
  loop_okH law05IBackwardC hG (loopAt Tryd.f30 0) (lall_of lall_nil (by kernel_rfl : loopsOf (loopAt Tryd.f30 0) = _))
    law05IBackwardL0Y law05IBackwardL0Z (by kernel_rfl) (fun p => law05IBackwardL0R p.1 p.2.1 p.2.2) (fun p => bigFuel) (fun p => by kernel_rfl) _ (fun p => law05IBackwardL0_eq p.1 p.2.1 p.2.2)
theorem law05IBackwardK : CallOk Tryd.prog (Glob globsF) 30 law05IBackwardE :=
  fun_okB (cx := law05IBackwardX) law05IBackwardC (fn := Tryd.f30) Tryd.func30 (by kernel_rfl) Tryd.ntmps30 Tryd.call30 _ _ _ _ _ _ _ (by kernel_rfl) (by kernel_rfl) (by kernel_rfl)
    (fun w0 hG => lall_of (lall_cut (b := loopAt Tryd.f30 0) (law05IBackwardL0K w0 hG) (by kernel_rfl) (lall_nil)) (by kernel_rfl : loopsOf (bodyOf Tryd.f30) = _)) (fun p => Eq.trans (b := law05IBackwardB p) (by kernel_rfl) (law05IBackward_eq p).symm)

noncomputable def law05CurveParsesE : Entry := mkE [.isl false (.int .u8)] [.bool] fun p => law05CurveParses p

noncomputable def law05CurveParsesX : Cx := mkCx Tryd.prog 65 globsF [(20, law05INumE), (26, law05ILentE), (27, curveParseE), (28, ref05ParseE), (29, law05IStillE), (30, law05IBackwardE)] [] []
theorem law05CurveParsesC : CxOk law05CurveParsesX (Glob globsF) := cx_ok (by kernel_rfl) (by kernel_rfl) ⟨law05INumK, law05ILentK, curveParseK, ref05ParseK, law05IStillK, law05IBackwardK, trivial⟩
theorem law05CurveParsesK : CallOk Tryd.prog (Glob globsF) 6 law05CurveParsesE :=
  fun_ok (cx := law05CurveParsesX) law05CurveParsesC (fn := Tryd.f6) Tryd.func6 (by kernel_rfl) Tryd.ntmps6 Tryd.call6 _ _ _ (by kernel_rfl) (by kernel_rfl) (by kernel_rfl)
    (fun w0 hG => lall_of lall_nil (by kernel_rfl : loopsOf (bodyOf Tryd.f6) = _)) (fun p => Eq.trans (b := law05CurveParsesB p) (by kernel_rfl) (law05CurveParses_eq p).symm)

def curveCompressI : Lay := ⟨[], [(false, 0, .st [.u256, .u256, .bool])], [⟨[], []⟩]⟩
def curveCompressO : Lay := ⟨[(false, 0, .own 1000 (.int .u8))], [(false, 1, .int .i64), (true, 1000, .row (.int .u8))], [⟨[], [(false, 0, [], 1000)]⟩, ⟨[(1000, 1021)], []⟩]⟩
noncomputable def curveCompressE : Entry := mkB 1 2 0 [false] curveCompressI curveCompressO (fun p => curveCompress p)

noncomputable def curveCompressX : Cx := mkCx Tryd.prog 22 globsF [(37, curveOnE), (56, u256PutE)] [] []
theorem curveCompressC : CxOk curveCompressX (Glob globsF) := cx_ok (by kernel_rfl) (by kernel_rfl) ⟨curveOnK, u256PutK, trivial⟩
theorem curveCompressK : CallOk Tryd.prog (Glob globsF) 15 curveCompressE :=
  fun_okB (cx := curveCompressX) curveCompressC (fn := Tryd.f15) Tryd.func15 (by kernel_rfl) Tryd.ntmps15 Tryd.call15 _ _ _ _ _ _ _ (by kernel_rfl) (by kernel_rfl) (by kernel_rfl)
    (fun w0 hG => lall_of lall_nil (by kernel_rfl : loopsOf (bodyOf Tryd.f15) = _)) (fun p => Eq.trans (b := curveCompressB p) (by kernel_rfl) (curveCompress_eq p).symm)

def curveExpandI : Lay := ⟨[], [(false, 0, .st [.u256, .u256, .bool])], [⟨[], []⟩]⟩
def curveExpandO : Lay := ⟨[(false, 0, .own 1000 (.int .u8))], [(false, 1, .int .i64), (true, 1000, .row (.int .u8))], [⟨[], [(false, 0, [], 1000)]⟩, ⟨[(1000, 1021)], []⟩]⟩
noncomputable def curveExpandE : Entry := mkB 1 2 0 [false] curveExpandI curveExpandO (fun p => curveExpand p)

noncomputable def curveExpandX : Cx := mkCx Tryd.prog 22 globsF [(37, curveOnE), (56, u256PutE)] [] []
theorem curveExpandC : CxOk curveExpandX (Glob globsF) := cx_ok (by kernel_rfl) (by kernel_rfl) ⟨curveOnK, u256PutK, trivial⟩
theorem curveExpandK : CallOk Tryd.prog (Glob globsF) 16 curveExpandE :=
  fun_okB (cx := curveExpandX) curveExpandC (fn := Tryd.f16) Tryd.func16 (by kernel_rfl) Tryd.ntmps16 Tryd.call16 _ _ _ _ _ _ _ (by kernel_rfl) (by kernel_rfl) (by kernel_rfl)
    (fun w0 hG => lall_of lall_nil (by kernel_rfl : loopsOf (bodyOf Tryd.f16) = _)) (fun p => Eq.trans (b := curveExpandB p) (by kernel_rfl) (curveExpand_eq p).symm)

noncomputable def law05CurveBackE : Entry := mkE [.st [.u256, .u256, .bool]] [.bool] fun p => law05CurveBack p

noncomputable def law05CurveBackX : Cx := mkCx Tryd.prog 141 globsG [(15, curveCompressE), (16, curveExpandE), (20, law05INumE), (22, curveLiftE), (27, curveParseE), (35, curveNegE), (37, curveOnE), (43, law05IBaseE)] [] []
theorem law05CurveBackC : CxOk law05CurveBackX (Glob globsG) := cx_ok (by kernel_rfl) (by kernel_rfl) ⟨(curveCompressK.up globsFG), (curveExpandK.up globsFG), (law05INumK.up globsFG), (curveLiftK.up globsFG), (curveParseK.up globsFG), (curveNegK.up globsFG), (curveOnK.up globsFG), law05IBaseK, trivial⟩
theorem law05CurveBackK : CallOk Tryd.prog (Glob globsG) 14 law05CurveBackE :=
  fun_ok (cx := law05CurveBackX) law05CurveBackC (fn := Tryd.f14) Tryd.func14 (by kernel_rfl) Tryd.ntmps14 Tryd.call14 _ _ _ (by kernel_rfl) (by kernel_rfl) (by kernel_rfl)
    (fun w0 hG => lall_of lall_nil (by kernel_rfl : loopsOf (bodyOf Tryd.f14) = _)) (fun p => Eq.trans (b := law05CurveBackB p) (by kernel_rfl) (law05CurveBack_eq p).symm)

noncomputable def law05ISameE : Entry := mkE [.isl false (.int .u8), .isl false (.int .u8)] [.bool] fun p => law05ISame p.1 p.2

def law05ISameL0Y : Lay := ⟨[], [(false, 0, .isl false (.int .u8)), (false, 1, .isl false (.int .u8)), (false, 5, .int .i64)], [⟨[], []⟩]⟩
def law05ISameL0Z : List (Ex × Lay) := [(.ret, ⟨[(false, 4, .bool false)], [], [⟨[], []⟩]⟩), (.exit 0, ⟨[], [], [⟨[], []⟩]⟩)]
noncomputable def law05ISameL0E : LEntry := mkL law05ISameL0Y law05ISameL0Z fun p => law05ISameL0 p.1 p.2.1 p.2.2
noncomputable def law05ISameX : Cx := mkCx Tryd.prog 26 globsF [] [(4, law05ISameL0E)] []
theorem law05ISameC : CxOk law05ISameX (Glob globsF) := cx_ok (by kernel_rfl) (by kernel_rfl) trivial
theorem law05ISameL0K (w0 : Ini) (hG : Glob globsF w0) : LoopOk law05ISameX w0 (loopAt Tryd.f19 0) law05ISameL0E :=
  loop_okH law05ISameC hG (loopAt Tryd.f19 0) (lall_of lall_nil (by kernel_rfl : loopsOf (loopAt Tryd.f19 0) = _))
    law05ISameL0Y law05ISameL0Z (by kernel_rfl) (fun p => law05ISameL0R p.1 p.2.1 p.2.2) (fun p => bigFuel) (fun p => by kernel_rfl) _ (fun p => law05ISameL0_eq p.1 p.2.1 p.2.2)
theorem law05ISameK : CallOk Tryd.prog (Glob globsF) 19 law05ISameE :=
  fun_ok (cx := law05ISameX) law05ISameC (fn := Tryd.f19) Tryd.func19 (by kernel_rfl) Tryd.ntmps19 Tryd.call19 _ _ _ (by kernel_rfl) (by kernel_rfl) (by kernel_rfl)
    (fun w0 hG => lall_of (lall_cut (b := loopAt Tryd.f19 0) (law05ISameL0K w0 hG) (by kernel_rfl) (lall_nil)) (by kernel_rfl : loopsOf (bodyOf Tryd.f19) = _)) (fun p => Eq.trans (b := law05ISameB p.1 p.2) (by kernel_rfl) (law05ISame_eq p.1 p.2).symm)

noncomputable def law05CurveOneE : Entry := mkE [.isl false (.int .u8)] [.bool] fun p => law05CurveOne p

noncomputable def law05CurveOneX : Cx := mkCx Tryd.prog 58 globsG [(15, curveCompressE), (16, curveExpandE), (19, law05ISameE), (20, law05INumE), (26, law05ILentE), (27, curveParseE), (37, curveOnE), (43, law05IBaseE)] [] []
theorem law05CurveOneC : CxOk law05CurveOneX (Glob globsG) := cx_ok (by kernel_rfl) (by kernel_rfl) ⟨(curveCompressK.up globsFG), (curveExpandK.up globsFG), (law05ISameK.up globsFG), (law05INumK.up globsFG), (law05ILentK.up globsFG), (curveParseK.up globsFG), (curveOnK.up globsFG), law05IBaseK, trivial⟩
theorem law05CurveOneK : CallOk Tryd.prog (Glob globsG) 12 law05CurveOneE :=
  fun_ok (cx := law05CurveOneX) law05CurveOneC (fn := Tryd.f12) Tryd.func12 (by kernel_rfl) Tryd.ntmps12 Tryd.call12 _ _ _ (by kernel_rfl) (by kernel_rfl) (by kernel_rfl)
    (fun w0 hG => lall_of lall_nil (by kernel_rfl : loopsOf (bodyOf Tryd.f12) = _)) (fun p => Eq.trans (b := law05CurveOneB p) (by kernel_rfl) (law05CurveOne_eq p).symm)

end Go.Sy
