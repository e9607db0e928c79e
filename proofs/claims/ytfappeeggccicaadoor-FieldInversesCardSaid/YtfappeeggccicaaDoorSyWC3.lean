/- The links: each typed function is what the code computes. Printed by a program. -/
import Derived.Test.YtfappeeggccicaaDoorSyVC3
import Derived.Test.YtfappeeggccicaaDoorSyWC2
set_option linter.unusedVariables false
set_option maxRecDepth 100000
namespace Go.Sy
open Go Go.Proofs

def curveCompressI : Lay := ⟨[], [(false, 0, .st [.u256, .u256, .bool])], []⟩
def curveCompressO : Lay := ⟨[(false, 0, .own 1000 (.int .u8))], [(false, 1, .int .i64), (true, 1000, .row (.int .u8))], [⟨[], [(false, 0, [], 1000)]⟩, ⟨[(1000, 1021)], []⟩]⟩
noncomputable def curveCompressE : Entry := mkB 1 2 0 [false] curveCompressI curveCompressO (fun p => curveCompress p)

noncomputable def curveCompressX : Cx := mkCx Tryd.prog 22 globsF [(38, u256PutE), (45, curveOnE)] [] []
theorem curveCompressC : CxOk curveCompressX (Glob globsF) := cx_ok (by kernel_rfl) (by kernel_rfl) ⟨u256PutK, curveOnK, trivial⟩
theorem curveCompressK : CallOk Tryd.prog (Glob globsF) 20 curveCompressE :=
  fun_okB (cx := curveCompressX) curveCompressC (fn := Tryd.f20) Tryd.func20 (by kernel_rfl) Tryd.ntmps20 Tryd.call20 _ _ _ _ _ _ _ (by kernel_rfl) (by kernel_rfl) (by kernel_rfl)
    (fun w0 hG => lall_of lall_nil (by kernel_rfl : loopsOf (bodyOf Tryd.f20) = _)) (fun p => Eq.trans (b := curveCompressB p) (by kernel_rfl) (curveCompress_eq p).symm)

def curveExpandI : Lay := ⟨[], [(false, 0, .st [.u256, .u256, .bool])], []⟩
def curveExpandO : Lay := ⟨[(false, 0, .own 1000 (.int .u8))], [(false, 1, .int .i64), (true, 1000, .row (.int .u8))], [⟨[], [(false, 0, [], 1000)]⟩, ⟨[(1000, 1021)], []⟩]⟩
noncomputable def curveExpandE : Entry := mkB 1 2 0 [false] curveExpandI curveExpandO (fun p => curveExpand p)

noncomputable def curveExpandX : Cx := mkCx Tryd.prog 22 globsF [(38, u256PutE), (45, curveOnE)] [] []
theorem curveExpandC : CxOk curveExpandX (Glob globsF) := cx_ok (by kernel_rfl) (by kernel_rfl) ⟨u256PutK, curveOnK, trivial⟩
theorem curveExpandK : CallOk Tryd.prog (Glob globsF) 21 curveExpandE :=
  fun_okB (cx := curveExpandX) curveExpandC (fn := Tryd.f21) Tryd.func21 (by kernel_rfl) Tryd.ntmps21 Tryd.call21 _ _ _ _ _ _ _ (by kernel_rfl) (by kernel_rfl) (by kernel_rfl)
    (fun w0 hG => lall_of lall_nil (by kernel_rfl : loopsOf (bodyOf Tryd.f21) = _)) (fun p => Eq.trans (b := curveExpandB p) (by kernel_rfl) (curveExpand_eq p).symm)

def ref05CompressI : Lay := ⟨[], [(false, 0, .st [.u256, .u256, .bool])], []⟩
def ref05CompressO : Lay := ⟨[(false, 0, .own 1000 (.int .u8))], [(false, 1, .int .i64), (true, 1000, .row (.int .u8))], [⟨[], [(false, 0, [], 1000)]⟩, ⟨[(1000, 1025)], []⟩]⟩
noncomputable def ref05CompressE : Entry := mkB 1 2 0 [false] ref05CompressI ref05CompressO (fun p => ref05Compress p)

noncomputable def ref05CompressX : Cx := mkCx Tryd.prog 27 globsF [(40, ref01PutE), (46, ref05OnE)] [] []
theorem ref05CompressC : CxOk ref05CompressX (Glob globsF) := cx_ok (by kernel_rfl) (by kernel_rfl) ⟨ref01PutK, ref05OnK, trivial⟩
theorem ref05CompressK : CallOk Tryd.prog (Glob globsF) 22 ref05CompressE :=
  fun_okB (cx := ref05CompressX) ref05CompressC (fn := Tryd.f22) Tryd.func22 (by kernel_rfl) Tryd.ntmps22 Tryd.call22 _ _ _ _ _ _ _ (by kernel_rfl) (by kernel_rfl) (by kernel_rfl)
    (fun w0 hG => lall_of lall_nil (by kernel_rfl : loopsOf (bodyOf Tryd.f22) = _)) (fun p => Eq.trans (b := ref05CompressB p) (by kernel_rfl) (ref05Compress_eq p).symm)

def ref05ExpandI : Lay := ⟨[], [(false, 0, .st [.u256, .u256, .bool])], []⟩
def ref05ExpandO : Lay := ⟨[(false, 0, .own 1000 (.int .u8))], [(false, 1, .int .i64), (true, 1000, .row (.int .u8))], [⟨[], [(false, 0, [], 1000)]⟩, ⟨[(1000, 1026)], []⟩]⟩
noncomputable def ref05ExpandE : Entry := mkB 1 2 0 [false] ref05ExpandI ref05ExpandO (fun p => ref05Expand p)

noncomputable def ref05ExpandX : Cx := mkCx Tryd.prog 28 globsF [(40, ref01PutE), (46, ref05OnE)] [] []
theorem ref05ExpandC : CxOk ref05ExpandX (Glob globsF) := cx_ok (by kernel_rfl) (by kernel_rfl) ⟨ref01PutK, ref05OnK, trivial⟩
theorem ref05ExpandK : CallOk Tryd.prog (Glob globsF) 23 ref05ExpandE :=
  fun_okB (cx := ref05ExpandX) ref05ExpandC (fn := Tryd.f23) Tryd.func23 (by kernel_rfl) Tryd.ntmps23 Tryd.call23 _ _ _ _ _ _ _ (by kernel_rfl) (by kernel_rfl) (by kernel_rfl)
    (fun w0 hG => lall_of lall_nil (by kernel_rfl : loopsOf (bodyOf Tryd.f23) = _)) (fun p => Eq.trans (b := ref05ExpandB p) (by kernel_rfl) (ref05Expand_eq p).symm)

end Go.Sy
