/- The links: each typed function is what the code computes. Printed by a program. -/
import Derived.Test.YtfappeeggccicaaDoorSyVQ
import Derived.Test.YtfappeeggccicaaDoorSyWE3
set_option linter.unusedVariables false
set_option maxRecDepth 100000
noncomputable section
namespace Go.Sy
open Go Go.Proofs
def law06IApartI : Lay := ⟨[(false, 0, .sl 0 [] .bytes 0 2 2)], [(true, 0, .st [.own 1 (.int .u8), .own 2 (.int .u8)]), (true, 1, .row (.int .u8)), (true, 2, .row (.int .u8))], [⟨[(0, 0), (1, 1), (2, 2)], []⟩]⟩
def law06IApartO : Lay := ⟨[], [(false, 0, .bool)], [⟨[], []⟩]⟩
def law06IApartE : Entry := mkB 1 1 3 [true] law06IApartI law06IApartO (fun p => law06IApart p.1 p.2.1 p.2.2)
def law06IApartL1Y : Lay := ⟨[(false, 0, .sl 0 [] .bytes 0 2 2), (false, 3, .int .i64 0)], [(false, 4, .int .i64), (true, 0, .st [.own 1 (.int .u8), .own 2 (.int .u8)]), (true, 1, .row (.int .u8)), (true, 2, .row (.int .u8))], [⟨[(0, 0), (1, 1), (2, 2)], []⟩]⟩
def law06IApartL1Z : List (Ex × Lay) := [(.exit 2, ⟨[(false, 0, .sl 0 [] .bytes 0 2 2), (false, 3, .int .i64 0)], [(true, 0, .st [.own 1 (.int .u8), .own 2 (.int .u8)]), (true, 1, .row (.int .u8)), (true, 2, .row (.int .u8))], [⟨[(0, 0), (1, 1), (2, 2)], []⟩]⟩)]
def law06IApartL1E : LEntry := mkL law06IApartL1Y law06IApartL1Z fun p => law06IApartL1 p.1 p.2.1 p.2.2.1 p.2.2.2
def law06IApartL1v1Y : Lay := ⟨[(false, 0, .sl 0 [] .bytes 0 2 2), (false, 3, .int .i64 1)], [(false, 4, .int .i64), (true, 0, .st [.own 1 (.int .u8), .own 2 (.int .u8)]), (true, 1, .row (.int .u8)), (true, 2, .row (.int .u8))], [⟨[(0, 0), (1, 1), (2, 2)], []⟩]⟩
def law06IApartL1v1Z : List (Ex × Lay) := [(.exit 2, ⟨[(false, 0, .sl 0 [] .bytes 0 2 2), (false, 3, .int .i64 1)], [(true, 0, .st [.own 1 (.int .u8), .own 2 (.int .u8)]), (true, 1, .row (.int .u8)), (true, 2, .row (.int .u8))], [⟨[(0, 0), (1, 1), (2, 2)], []⟩]⟩)]
def law06IApartL1v1E : LEntry := mkL law06IApartL1v1Y law06IApartL1v1Z fun p => law06IApartL1v1 p.1 p.2.1 p.2.2.1 p.2.2.2
def law06IApartL3Y : Lay := ⟨[(false, 0, .sl 0 [] .bytes 0 2 2), (false, 5, .nsl .bytes), (false, 6, .int .i64 0), (false, 7, .own 1000000000000007 (.int .u8))], [(false, 8, .int .i64), (true, 0, .st [.isl false (.int .u8), .own 2 (.int .u8)]), (true, 2, .row (.int .u8)), (true, 1000000000000007, .row (.int .u8))], [⟨[(0, 0), (1000000000000007, 1000000000000007), (2, 2)], []⟩, ⟨[(0, 0), (1000000000000007, 1000000000001056), (2, 2)], []⟩]⟩
def law06IApartL3Z : List (Ex × Lay) := [(.exit 6, ⟨[(false, 0, .sl 0 [] .bytes 0 2 2), (false, 5, .nsl .bytes), (false, 6, .int .i64 0), (false, 7, .own 1000000000000007 (.int .u8))], [(true, 0, .st [.isl false (.int .u8), .own 2 (.int .u8)]), (true, 2, .row (.int .u8)), (true, 1000000000000007, .row (.int .u8))], [⟨[(0, 0), (1000000000000007, 1000000000000007), (2, 2)], []⟩]⟩)]
def law06IApartL3E : LEntry := mkL law06IApartL3Y law06IApartL3Z fun p => law06IApartL3 p.1 p.2.1 p.2.2.1 p.2.2.2
def law06IApartL3v1Y : Lay := ⟨[(false, 0, .sl 0 [] .bytes 0 2 2), (false, 5, .own 1060 .bytes), (false, 6, .int .i64 1), (false, 7, .own 1000000000000007 (.int .u8))], [(false, 8, .int .i64), (true, 0, .st [.isl false (.int .u8), .isl false (.int .u8)]), (true, 1060, .row .bytes), (true, 1000000000000007, .row (.int .u8))], [⟨[(0, 0), (1060, 1060), (1000000000000007, 1000000000000007)], []⟩, ⟨[(0, 0), (1060, 1060), (1000000000000007, 1000000000001056)], []⟩]⟩
def law06IApartL3v1Z : List (Ex × Lay) := [(.exit 6, ⟨[(false, 0, .sl 0 [] .bytes 0 2 2), (false, 5, .own 1060 .bytes), (false, 6, .int .i64 1), (false, 7, .own 1000000000000007 (.int .u8))], [(true, 0, .st [.isl false (.int .u8), .isl false (.int .u8)]), (true, 1060, .row .bytes), (true, 1000000000000007, .row (.int .u8))], [⟨[(0, 0), (1060, 1060), (1000000000000007, 1000000000000007)], []⟩]⟩)]
def law06IApartL3v1E : LEntry := mkL law06IApartL3v1Y law06IApartL3v1Z fun p => law06IApartL3v1 p.1 p.2.1 p.2.2.1 p.2.2.2
def law06IApartL5Y : Lay := ⟨[(false, 0, .sl 0 [] .bytes 0 2 2), (false, 5, .own 1001060 .bytes), (false, 9, .int .i64 0)], [(false, 10, .int .i64), (false, 11, .int .i64), (true, 0, .st [.isl false (.int .u8), .isl false (.int .u8)]), (true, 1001060, .row .bytes)], [⟨[(0, 0), (1001060, 1001060)], []⟩]⟩
def law06IApartL5Z : List (Ex × Lay) := [(.ret, ⟨[(false, 2, .bool false)], [(true, 0, .st [.isl false (.int .u8), .isl false (.int .u8)])], [⟨[(0, 0)], []⟩]⟩), (.exit 10, ⟨[(false, 0, .sl 0 [] .bytes 0 2 2), (false, 5, .own 1001060 .bytes), (false, 9, .int .i64 0)], [(true, 0, .st [.isl false (.int .u8), .isl false (.int .u8)]), (true, 1001060, .row .bytes)], [⟨[(0, 0), (1001060, 1001060)], []⟩]⟩)]
def law06IApartL5E : LEntry := mkL law06IApartL5Y law06IApartL5Z fun p => law06IApartL5 p.1 p.2.1 p.2.2.1 p.2.2.2
def law06IApartL5v1Y : Lay := ⟨[(false, 0, .sl 0 [] .bytes 0 2 2), (false, 5, .own 1001060 .bytes), (false, 9, .int .i64 1)], [(false, 10, .int .i64), (false, 11, .int .i64), (true, 0, .st [.isl false (.int .u8), .isl false (.int .u8)]), (true, 1001060, .row .bytes)], [⟨[(0, 0), (1001060, 1001060)], []⟩]⟩
def law06IApartL5v1Z : List (Ex × Lay) := [(.ret, ⟨[(false, 2, .bool false)], [(true, 0, .st [.isl false (.int .u8), .isl false (.int .u8)])], [⟨[(0, 0)], []⟩]⟩), (.exit 10, ⟨[(false, 0, .sl 0 [] .bytes 0 2 2), (false, 5, .own 1001060 .bytes), (false, 9, .int .i64 1)], [(true, 0, .st [.isl false (.int .u8), .isl false (.int .u8)]), (true, 1001060, .row .bytes)], [⟨[(0, 0), (1001060, 1001060)], []⟩]⟩)]
def law06IApartL5v1E : LEntry := mkL law06IApartL5v1Y law06IApartL5v1Z fun p => law06IApartL5v1 p.1 p.2.1 p.2.2.1 p.2.2.2
def law06IApartX : Cx := mkCx Tryd.prog 129 globsF [] [(5, (orL law06IApartL1E law06IApartL1v1E)), (14, (orL law06IApartL3E law06IApartL3v1E)), (23, (orL law06IApartL5E law06IApartL5v1E))] [(2, [0, 3], []), (10, [0, 5, 6], []), (19, [0, 5, 9], [])] [(17, [.shown 7]), (1000014, [.share 7 1000000000000007])]
theorem law06IApartC : CxOk law06IApartX (Glob globsF) := cx_ok (by kernel_rfl) (by kernel_rfl) trivial
theorem law06IApartL1K (w0 : Ini) (hG : Glob globsF w0) : LoopOk law06IApartX w0 (loopAt Tryd.f18 1) law06IApartL1E :=
 loop_okH law06IApartC hG (loopAt Tryd.f18 1) (lall_of lall_nil (by kernel_rfl : loopsOf (loopAt Tryd.f18 1) = _))
  law06IApartL1Y law06IApartL1Z (by kernel_rfl) (fun p => law06IApartL1R p.1 p.2.1 p.2.2.1 p.2.2.2) (fun p => bigFuel) (fun p => by kernel_rfl) _ (fun p => law06IApartL1_eq p.1 p.2.1 p.2.2.1 p.2.2.2)
theorem law06IApartL1v1K (w0 : Ini) (hG : Glob globsF w0) : LoopOk law06IApartX w0 (loopAt Tryd.f18 1) law06IApartL1v1E :=
 loop_okH law06IApartC hG (loopAt Tryd.f18 1) (lall_of lall_nil (by kernel_rfl : loopsOf (loopAt Tryd.f18 1) = _))
  law06IApartL1v1Y law06IApartL1v1Z (by kernel_rfl) (fun p => law06IApartL1v1R p.1 p.2.1 p.2.2.1 p.2.2.2) (fun p => bigFuel) (fun p => by kernel_rfl) _ (fun p => law06IApartL1v1_eq p.1 p.2.1 p.2.2.1 p.2.2.2)
theorem law06IApartL3K (w0 : Ini) (hG : Glob globsF w0) : LoopOk law06IApartX w0 (loopAt Tryd.f18 3) law06IApartL3E :=
 loop_okH law06IApartC hG (loopAt Tryd.f18 3) (lall_of lall_nil (by kernel_rfl : loopsOf (loopAt Tryd.f18 3) = _))
  law06IApartL3Y law06IApartL3Z (by kernel_rfl) (fun p => law06IApartL3R p.1 p.2.1 p.2.2.1 p.2.2.2) (fun p => 1000) (fun p => by kernel_rfl) _ (fun p => law06IApartL3_eq p.1 p.2.1 p.2.2.1 p.2.2.2)
theorem law06IApartL3v1K (w0 : Ini) (hG : Glob globsF w0) : LoopOk law06IApartX w0 (loopAt Tryd.f18 3) law06IApartL3v1E :=
 loop_okH law06IApartC hG (loopAt Tryd.f18 3) (lall_of lall_nil (by kernel_rfl : loopsOf (loopAt Tryd.f18 3) = _))
  law06IApartL3v1Y law06IApartL3v1Z (by kernel_rfl) (fun p => law06IApartL3v1R p.1 p.2.1 p.2.2.1 p.2.2.2) (fun p => 1000) (fun p => by kernel_rfl) _ (fun p => law06IApartL3v1_eq p.1 p.2.1 p.2.2.1 p.2.2.2)
theorem law06IApartL5K (w0 : Ini) (hG : Glob globsF w0) : LoopOk law06IApartX w0 (loopAt Tryd.f18 5) law06IApartL5E :=
 loop_okH law06IApartC hG (loopAt Tryd.f18 5) (lall_of lall_nil (by kernel_rfl : loopsOf (loopAt Tryd.f18 5) = _))
  law06IApartL5Y law06IApartL5Z (by kernel_rfl) (fun p => law06IApartL5R p.1 p.2.1 p.2.2.1 p.2.2.2) (fun p => bigFuel) (fun p => by kernel_rfl) _ (fun p => law06IApartL5_eq p.1 p.2.1 p.2.2.1 p.2.2.2)
theorem law06IApartL5v1K (w0 : Ini) (hG : Glob globsF w0) : LoopOk law06IApartX w0 (loopAt Tryd.f18 5) law06IApartL5v1E :=
 loop_okH law06IApartC hG (loopAt Tryd.f18 5) (lall_of lall_nil (by kernel_rfl : loopsOf (loopAt Tryd.f18 5) = _))
  law06IApartL5v1Y law06IApartL5v1Z (by kernel_rfl) (fun p => law06IApartL5v1R p.1 p.2.1 p.2.2.1 p.2.2.2) (fun p => bigFuel) (fun p => by kernel_rfl) _ (fun p => law06IApartL5v1_eq p.1 p.2.1 p.2.2.1 p.2.2.2)
theorem law06IApartK : CallOk Tryd.prog (Glob globsF) 18 law06IApartE :=
 fun_okB (cx := law06IApartX) law06IApartC (fn := Tryd.f18) Tryd.func18 (by kernel_rfl) Tryd.ntmps18 Tryd.call18 _ _ _ _ _ _ _ (by kernel_rfl) (by kernel_rfl) (by kernel_rfl)
  (fun w0 hG => lall_of (lall_free (b := loopAt Tryd.f18 0) (by kernel_rfl) (lall_cut (b := loopAt Tryd.f18 1) (loop_or (law06IApartL1K w0 hG) (law06IApartL1v1K w0 hG)) (by kernel_rfl) (lall_free (b := loopAt Tryd.f18 2) (by kernel_rfl) (lall_cut (b := loopAt Tryd.f18 3) (loop_or (law06IApartL3K w0 hG) (law06IApartL3v1K w0 hG)) (by kernel_rfl) (lall_free (b := loopAt Tryd.f18 4) (by kernel_rfl) (lall_cut (b := loopAt Tryd.f18 5) (loop_or (law06IApartL5K w0 hG) (law06IApartL5v1K w0 hG)) (by kernel_rfl) (lall_nil))))))) (by kernel_rfl : loopsOf (bodyOf Tryd.f18) = _)) (fun p => Eq.trans (b := law06IApartB p.1 p.2.1 p.2.2) (by kernel_rfl) (law06IApart_eq p.1 p.2.1 p.2.2).symm)
def law06EcdsaBytesE : Entry := mkE [.isl false (.int .u8)] [.bool] fun p => law06EcdsaBytes p
def law06EcdsaBytesX : Cx := mkCx Tryd.prog 130 globsF [(9, ecdsaPackE), (11, law06ISameE), (14, ecdsaUnpackE), (17, law06ICopiedE), (18, law06IApartE), (19, ecdsaCheckE)] [] []
theorem law06EcdsaBytesC : CxOk law06EcdsaBytesX (Glob globsF) := cx_ok (by kernel_rfl) (by kernel_rfl) ⟨ecdsaPackK, law06ISameK, ecdsaUnpackK, law06ICopiedK, law06IApartK, ecdsaCheckK, trivial⟩
theorem law06EcdsaBytesK : CallOk Tryd.prog (Glob globsF) 4 law06EcdsaBytesE :=
 fun_ok (cx := law06EcdsaBytesX) law06EcdsaBytesC (fn := Tryd.f4) Tryd.func4 (by kernel_rfl) Tryd.ntmps4 Tryd.call4 _ _ _ (by kernel_rfl) (by kernel_rfl) (by kernel_rfl)
  (fun w0 hG => lall_of lall_nil (by kernel_rfl : loopsOf (bodyOf Tryd.f4) = _)) (fun p => Eq.trans (b := law06EcdsaBytesB p) (by kernel_rfl) (law06EcdsaBytes_eq p).symm)
end Go.Sy
