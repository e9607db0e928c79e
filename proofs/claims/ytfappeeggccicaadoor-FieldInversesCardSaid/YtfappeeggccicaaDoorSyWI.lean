/- The links: each typed function is what the code computes. Printed by a program. -/
import Derived.Test.YtfappeeggccicaaDoorSyVI
import Derived.Test.YtfappeeggccicaaDoorSyWE3
set_option linter.unusedVariables false
set_option maxRecDepth 100000
namespace Go.Sy
open Go Go.Proofs

def ref04InversesI : Lay := ⟨[], [(false, 0, .int .i64), (false, 1, .isl false .u256)], [⟨[], []⟩]⟩
def ref04InversesO : Lay := ⟨[(false, 0, .own 1000 .u256)], [(false, 1, .int .i64), (true, 1000, .row .u256)], [⟨[], [(false, 0, [], 1000)]⟩, ⟨[(1000, 1041)], []⟩]⟩
noncomputable def ref04InversesE : Entry := mkB 2 2 0 [false, false] ref04InversesI ref04InversesO (fun p => ref04Inverses p.1 p.2)

def ref04InversesL0Y : Lay := ⟨[(false, 7, .own 1041 .u256)], [(false, 0, .int .i64), (false, 1, .isl false .u256), (false, 8, .int .i64), (true, 1041, .row .u256)], [⟨[], [(false, 7, [], 1041)]⟩, ⟨[(1041, 1039)], []⟩]⟩
def ref04InversesL0Z : List (Ex × Lay) := [(.ret, ⟨[(false, 4, .nsl .u256)], [(false, 5, .int .i64)], [⟨[], []⟩]⟩), (.exit 0, ⟨[(false, 7, .own 1041 .u256)], [(true, 1041, .row .u256)], [⟨[(1041, 1041)], []⟩]⟩)]
noncomputable def ref04InversesL0E : LEntry := mkL ref04InversesL0Y ref04InversesL0Z fun p => ref04InversesL0 p.1 p.2.1 p.2.2.1 p.2.2.2
noncomputable def ref04InversesX : Cx := mkCx Tryd.prog 41 globsF [(52, ref04IGoodE), (53, ref04InverseE)] [(8, ref04InversesL0E)] []
theorem ref04InversesC : CxOk ref04InversesX (Glob globsF) := cx_ok (by kernel_rfl) (by kernel_rfl) ⟨ref04IGoodK, ref04InverseK, trivial⟩
theorem ref04InversesL0K (w0 : Ini) (hG : Glob globsF w0) : LoopOk ref04InversesX w0 (loopAt Tryd.f28 0) ref04InversesL0E :=
  loop_okH ref04InversesC hG (loopAt Tryd.f28 0) (lall_of lall_nil (by kernel_rfl : loopsOf (loopAt Tryd.f28 0) = _))
    ref04InversesL0Y ref04InversesL0Z (by kernel_rfl) (fun p => ref04InversesL0R p.1 p.2.1 p.2.2.1 p.2.2.2) (fun p => bigFuel) (fun p => by kernel_rfl) _ (fun p => ref04InversesL0_eq p.1 p.2.1 p.2.2.1 p.2.2.2)
theorem ref04InversesK : CallOk Tryd.prog (Glob globsF) 28 ref04InversesE :=
  fun_okB (cx := ref04InversesX) ref04InversesC (fn := Tryd.f28) Tryd.func28 (by kernel_rfl) Tryd.ntmps28 Tryd.call28 _ _ _ _ _ _ _ (by kernel_rfl) (by kernel_rfl) (by kernel_rfl)
    (fun w0 hG => lall_of (lall_cut (b := loopAt Tryd.f28 0) (ref04InversesL0K w0 hG) (by kernel_rfl) (lall_nil)) (by kernel_rfl : loopsOf (bodyOf Tryd.f28) = _)) (fun p => Eq.trans (b := ref04InversesB p.1 p.2) (by kernel_rfl) (ref04Inverses_eq p.1 p.2).symm)

noncomputable def law04FieldInversesE : Entry := mkE [.int .i64, .isl false .u256] [.bool] fun p => law04FieldInverses p.1 p.2

def law04FieldInversesL0Y : Lay := ⟨[(false, 5, .own 1026 .u256)], [(false, 0, .int .i64), (false, 1, .isl false .u256), (false, 6, .int .i64), (true, 1026, .row .u256)], [⟨[(1026, 1026)], []⟩]⟩
def law04FieldInversesL0Z : List (Ex × Lay) := [(.exit 0, ⟨[(false, 5, .own 1026 .u256)], [(false, 0, .int .i64), (false, 1, .isl false .u256), (true, 1026, .row .u256)], [⟨[(1026, 1026)], []⟩]⟩)]
noncomputable def law04FieldInversesL0E : LEntry := mkL law04FieldInversesL0Y law04FieldInversesL0Z fun p => law04FieldInversesL0 p.1 p.2.1 p.2.2.1 p.2.2.2
def law04FieldInversesL1Y : Lay := ⟨[(false, 5, .own 1026 .u256), (false, 8, .own 1001049 .u256), (false, 10, .own 1001059 .u256), (false, 12, .own 1001065 .u256)], [(false, 0, .int .i64), (false, 1, .isl false .u256), (false, 7, .osl 1026 .u256), (false, 14, .int .i64), (true, 1026, .row .u256), (true, 1001049, .row .u256), (true, 1001059, .row .u256), (true, 1001065, .row .u256)], [⟨[(1026, 1026), (1001049, 1001049), (1001059, 1001059), (1001065, 1001065)], []⟩]⟩
def law04FieldInversesL1Z : List (Ex × Lay) := [(.ret, ⟨[(false, 4, .bool false)], [], [⟨[], []⟩]⟩), (.exit 2, ⟨[(false, 8, .own 1001049 .u256), (false, 10, .own 1001059 .u256), (false, 12, .own 1001065 .u256)], [(false, 0, .int .i64), (false, 1, .isl false .u256), (false, 7, .osl 1026 .u256), (true, 1026, .row .u256), (true, 1001049, .row .u256), (true, 1001059, .row .u256), (true, 1001065, .row .u256)], [⟨[(1026, 1026), (1001049, 1001049), (1001059, 1001059), (1001065, 1001065)], []⟩]⟩)]
noncomputable def law04FieldInversesL1E : LEntry := mkL law04FieldInversesL1Y law04FieldInversesL1Z fun p => law04FieldInversesL1 p.1 p.2.1 p.2.2.1 p.2.2.2.1 p.2.2.2.2.1 p.2.2.2.2.2.1 p.2.2.2.2.2.2.1 p.2.2.2.2.2.2.2
def law04FieldInversesL2Y : Lay := ⟨[(false, 8, .own 1001049 .u256), (false, 10, .own 1001059 .u256), (false, 12, .own 1001065 .u256)], [(false, 0, .int .i64), (false, 1, .isl false .u256), (false, 7, .osl 1026 .u256), (false, 15, .int .i64), (true, 1026, .row .u256), (true, 1001049, .row .u256), (true, 1001059, .row .u256), (true, 1001065, .row .u256)], [⟨[(1026, 1026), (1001049, 1001049), (1001059, 1001059), (1001065, 1001065)], []⟩]⟩
def law04FieldInversesL2Z : List (Ex × Lay) := [(.exit 4, ⟨[(false, 8, .own 1001049 .u256), (false, 10, .own 1001059 .u256), (false, 12, .own 1001065 .u256)], [(false, 0, .int .i64), (false, 1, .isl false .u256), (false, 7, .osl 1026 .u256), (true, 1026, .row .u256), (true, 1001049, .row .u256), (true, 1001059, .row .u256), (true, 1001065, .row .u256)], [⟨[(1026, 1026), (1001049, 1001049), (1001059, 1001059), (1001065, 1001065)], []⟩]⟩)]
noncomputable def law04FieldInversesL2E : LEntry := mkL law04FieldInversesL2Y law04FieldInversesL2Z fun p => law04FieldInversesL2 p.1 p.2.1 p.2.2.1 p.2.2.2.1 p.2.2.2.2.1 p.2.2.2.2.2.1 p.2.2.2.2.2.2.1 p.2.2.2.2.2.2.2
def law04FieldInversesL4Y : Lay := ⟨[], [(false, 0, .int .i64), (false, 7, .osl 1026 .u256), (false, 18, .int .i64), (true, 1026, .row .u256)], [⟨[(1026, 1026)], []⟩]⟩
def law04FieldInversesL4Z : List (Ex × Lay) := [(.exit 8, ⟨[], [(false, 0, .int .i64), (false, 7, .osl 1026 .u256), (true, 1026, .row .u256)], [⟨[(1026, 1026)], []⟩]⟩)]
noncomputable def law04FieldInversesL4E : LEntry := mkL law04FieldInversesL4Y law04FieldInversesL4Z fun p => law04FieldInversesL4 p.1 p.2.1 p.2.2.1 p.2.2.2
noncomputable def law04FieldInversesX : Cx := mkCx Tryd.prog 181 globsF [(27, fieldInversesE), (28, ref04InversesE), (29, law04INumE), (30, law04ISameE)] [(4, law04FieldInversesL0E), (15, law04FieldInversesL1E), (20, law04FieldInversesL2E), (31, law04FieldInversesL4E)] [(25, [0, 1, 7, 8, 10, 12, 16, 17], [])]
theorem law04FieldInversesC : CxOk law04FieldInversesX (Glob globsF) := cx_ok (by kernel_rfl) (by kernel_rfl) ⟨fieldInversesK, ref04InversesK, law04INumK, law04ISameK, trivial⟩
theorem law04FieldInversesL0K (w0 : Ini) (hG : Glob globsF w0) : LoopOk law04FieldInversesX w0 (loopAt Tryd.f6 0) law04FieldInversesL0E :=
  loop_okH law04FieldInversesC hG (loopAt Tryd.f6 0) (lall_of lall_nil (by kernel_rfl : loopsOf (loopAt Tryd.f6 0) = _))
    law04FieldInversesL0Y law04FieldInversesL0Z (by kernel_rfl) (fun p => law04FieldInversesL0R p.1 p.2.1 p.2.2.1 p.2.2.2) (fun p => bigFuel) (fun p => by kernel_rfl) _ (fun p => law04FieldInversesL0_eq p.1 p.2.1 p.2.2.1 p.2.2.2)
theorem law04FieldInversesL1K (w0 : Ini) (hG : Glob globsF w0) : LoopOk law04FieldInversesX w0 (loopAt Tryd.f6 1) law04FieldInversesL1E :=
  loop_okH law04FieldInversesC hG (loopAt Tryd.f6 1) (lall_of lall_nil (by kernel_rfl : loopsOf (loopAt Tryd.f6 1) = _))
    law04FieldInversesL1Y law04FieldInversesL1Z (by kernel_rfl) (fun p => law04FieldInversesL1R p.1 p.2.1 p.2.2.1 p.2.2.2.1 p.2.2.2.2.1 p.2.2.2.2.2.1 p.2.2.2.2.2.2.1 p.2.2.2.2.2.2.2) (fun p => bigFuel) (fun p => by kernel_rfl) _ (fun p => law04FieldInversesL1_eq p.1 p.2.1 p.2.2.1 p.2.2.2.1 p.2.2.2.2.1 p.2.2.2.2.2.1 p.2.2.2.2.2.2.1 p.2.2.2.2.2.2.2)
theorem law04FieldInversesL2K (w0 : Ini) (hG : Glob globsF w0) : LoopOk law04FieldInversesX w0 (loopAt Tryd.f6 2) law04FieldInversesL2E :=
  loop_okH law04FieldInversesC hG (loopAt Tryd.f6 2) (lall_of lall_nil (by kernel_rfl : loopsOf (loopAt Tryd.f6 2) = _))
    law04FieldInversesL2Y law04FieldInversesL2Z (by kernel_rfl) (fun p => law04FieldInversesL2R p.1 p.2.1 p.2.2.1 p.2.2.2.1 p.2.2.2.2.1 p.2.2.2.2.2.1 p.2.2.2.2.2.2.1 p.2.2.2.2.2.2.2) (fun p => bigFuel) (fun p => by kernel_rfl) _ (fun p => law04FieldInversesL2_eq p.1 p.2.1 p.2.2.1 p.2.2.2.1 p.2.2.2.2.1 p.2.2.2.2.2.1 p.2.2.2.2.2.2.1 p.2.2.2.2.2.2.2)
theorem law04FieldInversesL4K (w0 : Ini) (hG : Glob globsF w0) : LoopOk law04FieldInversesX w0 (loopAt Tryd.f6 4) law04FieldInversesL4E :=
  loop_okH law04FieldInversesC hG (loopAt Tryd.f6 4) (lall_of lall_nil (by kernel_rfl : loopsOf (loopAt Tryd.f6 4) = _))
    law04FieldInversesL4Y law04FieldInversesL4Z (by kernel_rfl) (fun p => law04FieldInversesL4R p.1 p.2.1 p.2.2.1 p.2.2.2) (fun p => bigFuel) (fun p => by kernel_rfl) _ (fun p => law04FieldInversesL4_eq p.1 p.2.1 p.2.2.1 p.2.2.2)
theorem law04FieldInversesK : CallOk Tryd.prog (Glob globsF) 6 law04FieldInversesE :=
  fun_ok (cx := law04FieldInversesX) law04FieldInversesC (fn := Tryd.f6) Tryd.func6 (by kernel_rfl) Tryd.ntmps6 Tryd.call6 _ _ _ (by kernel_rfl) (by kernel_rfl) (by kernel_rfl)
    (fun w0 hG => lall_of (lall_cut (b := loopAt Tryd.f6 0) (law04FieldInversesL0K w0 hG) (by kernel_rfl) (lall_cut (b := loopAt Tryd.f6 1) (law04FieldInversesL1K w0 hG) (by kernel_rfl) (lall_cut (b := loopAt Tryd.f6 2) (law04FieldInversesL2K w0 hG) (by kernel_rfl) (lall_free (b := loopAt Tryd.f6 3) (by kernel_rfl) (lall_cut (b := loopAt Tryd.f6 4) (law04FieldInversesL4K w0 hG) (by kernel_rfl) (lall_nil)))))) (by kernel_rfl : loopsOf (bodyOf Tryd.f6) = _)) (fun p => Eq.trans (b := law04FieldInversesB p.1 p.2) (by kernel_rfl) (law04FieldInverses_eq p.1 p.2).symm)

end Go.Sy
