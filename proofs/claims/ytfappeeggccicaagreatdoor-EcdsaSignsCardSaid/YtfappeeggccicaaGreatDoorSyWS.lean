/- The links: each typed function is what the code computes. Printed by a program. -/
import Derived.Test.YtfappeeggccicaaGreatDoorSyVS
import Derived.Test.YtfappeeggccicaaGreatDoorSyWE3
set_option linter.unusedVariables false
set_option maxRecDepth 100000
noncomputable section
namespace Go.Sy
open Go Go.Proofs
def shaNewI : Lay := ⟨[], [], [⟨[], []⟩]⟩
def shaNewO : Lay := ⟨[(false, 0, .ptr 1000 [])], [(true, 1000, .st [.arr (.int .u32) 8, .own 1500 (.int .u8), .int .i64]), (true, 1500, .row (.int .u8))], [⟨[(1000, 1002)], [(true, 1000, [.fld 1 8], 1500)]⟩]⟩
def shaNewE : Entry := mkB 0 1 0 [] shaNewI shaNewO (fun _ => shaNew)
def shaNewX : Cx := mkCx Tryz.prog 3 globsF [] [] []
theorem shaNewC : CxOk shaNewX (Glob globsF) := cx_ok (by kernel_rfl) (by kernel_rfl) trivial
theorem shaNewK : CallOk Tryz.prog (Glob globsF) 62 shaNewE :=
 fun_okB (cx := shaNewX) shaNewC (fn := Tryz.f62) Tryz.func62 (by kernel_rfl) Tryz.ntmps62 Tryz.call62 _ _ _ _ _ _ _ (by kernel_rfl) (by kernel_rfl) (by kernel_rfl)
  (fun w0 hG => lall_of lall_nil (by kernel_rfl : loopsOf (bodyOf Tryz.f62) = _)) (fun p => Eq.trans (b := shaNewB ) (by kernel_rfl) (shaNew_eq ).symm)
def shaHasherNowI : Lay := ⟨[(false, 0, .ptr 0 [])], [(true, 0, .st [.arr (.int .u32) 8, .own 1 (.int .u8), .int .i64]), (true, 1, .row (.int .u8))], [⟨[(0, 0), (1, 1)], []⟩]⟩
def shaHasherNowO : Lay := ⟨[], [(false, 0, .arr (.int .u32) 8), (true, 0, .st [.arr (.int .u32) 8, .own 1 (.int .u8), .int .i64]), (true, 1, .row (.int .u8))], [⟨[(0, 0), (1, 1)], []⟩]⟩
def shaHasherNowE : Entry := mkB 1 1 2 [true] shaHasherNowI shaHasherNowO (fun p => shaHasherNow p.1 p.2)
def shaHasherNowX : Cx := mkCx Tryz.prog 13 globs0x2 [] [] []
theorem shaHasherNowC : CxOk shaHasherNowX (Glob globs0x2) := cx_ok (by kernel_rfl) (by kernel_rfl) trivial
theorem shaHasherNowK : CallOk Tryz.prog (Glob globs0x2) 89 shaHasherNowE :=
 fun_okB (cx := shaHasherNowX) shaHasherNowC (fn := Tryz.f89) Tryz.func89 (by kernel_rfl) Tryz.ntmps89 Tryz.call89 _ _ _ _ _ _ _ (by kernel_rfl) (by kernel_rfl) (by kernel_rfl)
  (fun w0 hG => lall_of lall_nil (by kernel_rfl : loopsOf (bodyOf Tryz.f89) = _)) (fun p => Eq.trans (b := shaHasherNowB p.1 p.2) (by kernel_rfl) (shaHasherNow_eq p.1 p.2).symm)
def bitsRotateLeft32E : Entry := mkE [.int .u32, .int .i64] [.int .u32] fun p => bitsRotateLeft32 p.1 p.2
def bitsRotateLeft32X : Cx := mkCx Tryz.prog 17 globsF [] [] []
theorem bitsRotateLeft32C : CxOk bitsRotateLeft32X (Glob globsF) := cx_ok (by kernel_rfl) (by kernel_rfl) trivial
theorem bitsRotateLeft32K : CallOk Tryz.prog (Glob globsF) 118 bitsRotateLeft32E :=
 fun_ok (cx := bitsRotateLeft32X) bitsRotateLeft32C (fn := Tryz.f118) Tryz.func118 (by kernel_rfl) Tryz.ntmps118 Tryz.call118 _ _ _ (by kernel_rfl) (by kernel_rfl) (by kernel_rfl)
  (fun w0 hG => lall_of lall_nil (by kernel_rfl : loopsOf (bodyOf Tryz.f118) = _)) (fun p => Eq.trans (b := bitsRotateLeft32B p.1 p.2) (by kernel_rfl) (bitsRotateLeft32_eq p.1 p.2).symm)
def shaIWordsE : Entry := mkE [.isl false (.int .u8)] [.arr (.int .u32) 64] fun p => shaIWords p
def shaIWordsL1Y : Lay := ⟨[(false, 2, .ptr 1002 []), (false, 3, .ptr 1003 [])], [(false, 0, .isl false (.int .u8)), (false, 4, .int .i64), (false, 12, .int .i64), (false, 21, .isl false (.int .u8)), (false, 22, .int .i64), (false, 23, .int .i64), (true, 1002, .arr (.int .u32) 64), (true, 1003, .arr (.int .u32) 64)], [⟨[(1002, 1002), (1003, 1003)], []⟩]⟩
def shaIWordsL1Z : List (Ex × Lay) := [(.exit 2, ⟨[(false, 2, .ptr 1002 []), (false, 3, .ptr 1003 [])], [(false, 0, .isl false (.int .u8)), (false, 12, .int .i64), (true, 1002, .arr (.int .u32) 64), (true, 1003, .arr (.int .u32) 64)], [⟨[(1002, 1002), (1003, 1003)], []⟩]⟩)]
def shaIWordsL1E : LEntry := mkL shaIWordsL1Y shaIWordsL1Z fun p => shaIWordsL1 p.1 p.2.1 p.2.2.1 p.2.2.2.1 p.2.2.2.2.1 p.2.2.2.2.2.1 p.2.2.2.2.2.2.1 p.2.2.2.2.2.2.2
def shaIWordsL0Y : Lay := ⟨[(false, 2, .ptr 1002 []), (false, 3, .ptr 1003 [])], [(false, 0, .isl false (.int .u8)), (false, 12, .int .i64), (true, 1002, .arr (.int .u32) 64), (true, 1003, .arr (.int .u32) 64)], [⟨[(1002, 1002), (1003, 1003)], []⟩]⟩
def shaIWordsL0Z : List (Ex × Lay) := [(.exit 0, ⟨[(false, 2, .ptr 1002 []), (false, 3, .ptr 1003 [])], [(true, 1002, .arr (.int .u32) 64), (true, 1003, .arr (.int .u32) 64)], [⟨[(1002, 1002), (1003, 1003)], []⟩]⟩)]
def shaIWordsL0E : LEntry := mkL shaIWordsL0Y shaIWordsL0Z fun p => shaIWordsL0 p.1 p.2.1 p.2.2.1 p.2.2.2
def shaIWordsL2Y : Lay := ⟨[(false, 2, .ptr 1002 []), (false, 3, .ptr 1003 [])], [(false, 7, .int .i64), (true, 1002, .arr (.int .u32) 64), (true, 1003, .arr (.int .u32) 64)], [⟨[(1002, 1002), (1003, 1003)], []⟩]⟩
def shaIWordsL2Z : List (Ex × Lay) := [(.exit 4, ⟨[(false, 2, .ptr 1002 []), (false, 3, .ptr 1003 [])], [(true, 1002, .arr (.int .u32) 64), (true, 1003, .arr (.int .u32) 64)], [⟨[(1002, 1002), (1003, 1003)], []⟩]⟩)]
def shaIWordsL2E : LEntry := mkL shaIWordsL2Y shaIWordsL2Z fun p => shaIWordsL2 p.1 p.2.1 p.2.2
def shaIWordsX : Cx := mkCx Tryz.prog 82 globsF [(118, bitsRotateLeft32E)] [(3, shaIWordsL0E), (6, shaIWordsL1E), (12, shaIWordsL2E)] []
theorem shaIWordsC : CxOk shaIWordsX (Glob globsF) := cx_ok (by kernel_rfl) (by kernel_rfl) ⟨bitsRotateLeft32K, trivial⟩
theorem shaIWordsL1K (w0 : Ini) (hG : Glob globsF w0) : LoopOk shaIWordsX w0 (loopAt Tryz.f117 1) shaIWordsL1E :=
 loop_okH shaIWordsC hG (loopAt Tryz.f117 1) (lall_of lall_nil (by kernel_rfl : loopsOf (loopAt Tryz.f117 1) = _))
  shaIWordsL1Y shaIWordsL1Z (by kernel_rfl) (fun p => shaIWordsL1R p.1 p.2.1 p.2.2.1 p.2.2.2.1 p.2.2.2.2.1 p.2.2.2.2.2.1 p.2.2.2.2.2.2.1 p.2.2.2.2.2.2.2) (fun p => 1000) (fun p => by kernel_rfl) _ (fun p => shaIWordsL1_eq p.1 p.2.1 p.2.2.1 p.2.2.2.1 p.2.2.2.2.1 p.2.2.2.2.2.1 p.2.2.2.2.2.2.1 p.2.2.2.2.2.2.2)
theorem shaIWordsL0K (w0 : Ini) (hG : Glob globsF w0) : LoopOk shaIWordsX w0 (loopAt Tryz.f117 0) shaIWordsL0E :=
 loop_okH shaIWordsC hG (loopAt Tryz.f117 0) (lall_of (lall_cut (b := loopAt Tryz.f117 1) (shaIWordsL1K w0 hG) (by kernel_rfl) (lall_nil)) (by kernel_rfl : loopsOf (loopAt Tryz.f117 0) = _))
  shaIWordsL0Y shaIWordsL0Z (by kernel_rfl) (fun p => shaIWordsL0R p.1 p.2.1 p.2.2.1 p.2.2.2) (fun p => 1000) (fun p => by kernel_rfl) _ (fun p => shaIWordsL0_eq p.1 p.2.1 p.2.2.1 p.2.2.2)
theorem shaIWordsL2K (w0 : Ini) (hG : Glob globsF w0) : LoopOk shaIWordsX w0 (loopAt Tryz.f117 2) shaIWordsL2E :=
 loop_okH shaIWordsC hG (loopAt Tryz.f117 2) (lall_of lall_nil (by kernel_rfl : loopsOf (loopAt Tryz.f117 2) = _))
  shaIWordsL2Y shaIWordsL2Z (by kernel_rfl) (fun p => shaIWordsL2R p.1 p.2.1 p.2.2) (fun p => 1000) (fun p => by kernel_rfl) _ (fun p => shaIWordsL2_eq p.1 p.2.1 p.2.2)
theorem shaIWordsK : CallOk Tryz.prog (Glob globsF) 117 shaIWordsE :=
 fun_ok (cx := shaIWordsX) shaIWordsC (fn := Tryz.f117) Tryz.func117 (by kernel_rfl) Tryz.ntmps117 Tryz.call117 _ _ _ (by kernel_rfl) (by kernel_rfl) (by kernel_rfl)
  (fun w0 hG => lall_of (lall_cut (b := loopAt Tryz.f117 0) (shaIWordsL0K w0 hG) (by kernel_rfl) (lall_cut (b := loopAt Tryz.f117 1) (shaIWordsL1K w0 hG) (by kernel_rfl) (lall_cut (b := loopAt Tryz.f117 2) (shaIWordsL2K w0 hG) (by kernel_rfl) (lall_nil)))) (by kernel_rfl : loopsOf (bodyOf Tryz.f117) = _)) (fun p => Eq.trans (b := shaIWordsB p) (by kernel_rfl) (shaIWords_eq p).symm)
def shaIBehindE : Entry := mkE [.arr (.int .u32) 8, .isl false (.int .u8)] [.arr (.int .u32) 8] fun p => shaIBehind p.1 p.2
def shaIBehindL0Y : Lay := ⟨[(false, 2, .ptr 1002 []), (false, 4, .ptr 1004 []), (false, 5, .ptr 1005 [])], [(false, 6, .int .u32), (false, 7, .int .u32), (false, 8, .int .u32), (false, 9, .int .u32), (false, 10, .int .u32), (false, 11, .int .u32), (false, 12, .int .u32), (false, 13, .int .u32), (false, 38, .arr (.int .u32) 64), (false, 39, .int .i64), (true, 1002, .arr (.int .u32) 8), (true, 1004, .arr (.int .u32) 8), (true, 1005, .arr (.int .u32) 64)], [⟨[(1002, 1002), (1004, 1004), (1005, 1005)], []⟩]⟩
def shaIBehindL0Z : List (Ex × Lay) := [(.exit 0, ⟨[(false, 2, .ptr 1002 []), (false, 4, .ptr 1004 [])], [(false, 6, .int .u32), (false, 7, .int .u32), (false, 8, .int .u32), (false, 9, .int .u32), (false, 10, .int .u32), (false, 11, .int .u32), (false, 12, .int .u32), (false, 13, .int .u32), (true, 1002, .arr (.int .u32) 8), (true, 1004, .arr (.int .u32) 8)], [⟨[(1002, 1002), (1004, 1004)], []⟩]⟩)]
def shaIBehindL0E : LEntry := mkL shaIBehindL0Y shaIBehindL0Z fun p => shaIBehindL0 p.1 p.2.1 p.2.2.1 p.2.2.2.1 p.2.2.2.2.1 p.2.2.2.2.2.1 p.2.2.2.2.2.2.1 p.2.2.2.2.2.2.2.1 p.2.2.2.2.2.2.2.2.1 p.2.2.2.2.2.2.2.2.2.1 p.2.2.2.2.2.2.2.2.2.2.1 p.2.2.2.2.2.2.2.2.2.2.2.1 p.2.2.2.2.2.2.2.2.2.2.2.2
def shaIBehindL1Y : Lay := ⟨[(false, 2, .ptr 1002 []), (false, 4, .ptr 1004 [])], [(false, 109, .arr (.int .u32) 8), (false, 110, .int .i64), (true, 1002, .arr (.int .u32) 8), (true, 1004, .arr (.int .u32) 8)], [⟨[(1002, 1002), (1004, 1004)], []⟩]⟩
def shaIBehindL1Z : List (Ex × Lay) := [(.exit 2, ⟨[(false, 2, .ptr 1002 []), (false, 4, .ptr 1004 [])], [(true, 1002, .arr (.int .u32) 8), (true, 1004, .arr (.int .u32) 8)], [⟨[(1002, 1002), (1004, 1004)], []⟩]⟩)]
def shaIBehindL1E : LEntry := mkL shaIBehindL1Y shaIBehindL1Z fun p => shaIBehindL1 p.1 p.2.1 p.2.2.1 p.2.2.2
def shaIBehindX : Cx := mkCx Tryz.prog 122 globs0x3 [(117, shaIWordsE), (118, bitsRotateLeft32E)] [(4, shaIBehindL0E), (11, shaIBehindL1E)] []
theorem shaIBehindC : CxOk shaIBehindX (Glob globs0x3) := cx_ok (by kernel_rfl) (by kernel_rfl) ⟨(shaIWordsK.up globsF_globs0x3), (bitsRotateLeft32K.up globsF_globs0x3), trivial⟩
theorem shaIBehindL0K (w0 : Ini) (hG : Glob globs0x3 w0) : LoopOk shaIBehindX w0 (loopAt Tryz.f90 0) shaIBehindL0E :=
 loop_okH shaIBehindC hG (loopAt Tryz.f90 0) (lall_of lall_nil (by kernel_rfl : loopsOf (loopAt Tryz.f90 0) = _))
  shaIBehindL0Y shaIBehindL0Z (by kernel_rfl) (fun p => shaIBehindL0R p.1 p.2.1 p.2.2.1 p.2.2.2.1 p.2.2.2.2.1 p.2.2.2.2.2.1 p.2.2.2.2.2.2.1 p.2.2.2.2.2.2.2.1 p.2.2.2.2.2.2.2.2.1 p.2.2.2.2.2.2.2.2.2.1 p.2.2.2.2.2.2.2.2.2.2.1 p.2.2.2.2.2.2.2.2.2.2.2.1 p.2.2.2.2.2.2.2.2.2.2.2.2) (fun p => 1000) (fun p => by kernel_rfl) _ (fun p => shaIBehindL0_eq p.1 p.2.1 p.2.2.1 p.2.2.2.1 p.2.2.2.2.1 p.2.2.2.2.2.1 p.2.2.2.2.2.2.1 p.2.2.2.2.2.2.2.1 p.2.2.2.2.2.2.2.2.1 p.2.2.2.2.2.2.2.2.2.1 p.2.2.2.2.2.2.2.2.2.2.1 p.2.2.2.2.2.2.2.2.2.2.2.1 p.2.2.2.2.2.2.2.2.2.2.2.2)
theorem shaIBehindL1K (w0 : Ini) (hG : Glob globs0x3 w0) : LoopOk shaIBehindX w0 (loopAt Tryz.f90 1) shaIBehindL1E :=
 loop_okH shaIBehindC hG (loopAt Tryz.f90 1) (lall_of lall_nil (by kernel_rfl : loopsOf (loopAt Tryz.f90 1) = _))
  shaIBehindL1Y shaIBehindL1Z (by kernel_rfl) (fun p => shaIBehindL1R p.1 p.2.1 p.2.2.1 p.2.2.2) (fun p => 1000) (fun p => by kernel_rfl) _ (fun p => shaIBehindL1_eq p.1 p.2.1 p.2.2.1 p.2.2.2)
theorem shaIBehindK : CallOk Tryz.prog (Glob globs0x3) 90 shaIBehindE :=
 fun_ok (cx := shaIBehindX) shaIBehindC (fn := Tryz.f90) Tryz.func90 (by kernel_rfl) Tryz.ntmps90 Tryz.call90 _ _ _ (by kernel_rfl) (by kernel_rfl) (by kernel_rfl)
  (fun w0 hG => lall_of (lall_cut (b := loopAt Tryz.f90 0) (shaIBehindL0K w0 hG) (by kernel_rfl) (lall_cut (b := loopAt Tryz.f90 1) (shaIBehindL1K w0 hG) (by kernel_rfl) (lall_nil))) (by kernel_rfl : loopsOf (bodyOf Tryz.f90) = _)) (fun p => Eq.trans (b := shaIBehindB p.1 p.2) (by kernel_rfl) (shaIBehind_eq p.1 p.2).symm)
def shaHasherWriteI : Lay := ⟨[(false, 0, .ptr 0 [])], [(true, 0, .st [.arr (.int .u32) 8, .own 1 (.int .u8), .int .i64]), (true, 1, .row (.int .u8)), (false, 1, .isl false (.int .u8))], [⟨[(0, 0), (1, 1)], []⟩]⟩
def shaHasherWriteO : Lay := ⟨[], [(true, 0, .st [.arr (.int .u32) 8, .own 1000000000 (.int .u8), .int .i64]), (true, 1000000000, .row (.int .u8))], [⟨[(0, 0), (1000000000, 1000001067)], []⟩]⟩
def shaHasherWriteE : Entry := mkB 2 0 2 [true, false] shaHasherWriteI shaHasherWriteO (fun p => shaHasherWrite p.1 p.2.1 p.2.2)
def shaHasherWriteL0Y : Lay := ⟨[(false, 0, .ptr 0 []), (false, 4, .ptr 1004 [])], [(false, 1, .isl false (.int .u8)), (true, 0, .st [.arr (.int .u32) 8, .own 1000002001 (.int .u8), .int .i64]), (true, 1000002001, .row (.int .u8)), (true, 1004, .arr (.int .u32) 8)], [⟨[(0, 0), (1004, 1004), (1000002001, 1)], []⟩, ⟨[(0, 0), (1004, 1004), (1000002001, 1000901033)], []⟩]⟩
def shaHasherWriteL0Z : List (Ex × Lay) := [(.exit 0, ⟨[(false, 0, .ptr 0 []), (false, 4, .ptr 1004 [])], [(false, 1, .isl false (.int .u8)), (true, 0, .st [.arr (.int .u32) 8, .own 1000002001 (.int .u8), .int .i64]), (true, 1004, .arr (.int .u32) 8), (true, 1000002001, .row (.int .u8))], [⟨[(0, 0), (1004, 1004), (1000002001, 1000002001)], []⟩]⟩)]
def shaHasherWriteL0E : LEntry := mkL shaHasherWriteL0Y shaHasherWriteL0Z fun p => shaHasherWriteL0 p.1 p.2.1 p.2.2.1 p.2.2.2
def shaHasherWriteX : Cx := mkCx Tryz.prog 83 globs0x2x3 [(89, shaHasherNowE), (90, shaIBehindE)] [(2, shaHasherWriteL0E)] [] [(7, [.cut 1000001033 1000901033])]
theorem shaHasherWriteC : CxOk shaHasherWriteX (Glob globs0x2x3) := cx_ok (by kernel_rfl) (by kernel_rfl) ⟨(shaHasherNowK.up globs0x2_globs0x2x3), (shaIBehindK.up globs0x3_globs0x2x3), trivial⟩
theorem shaHasherWriteL0K (w0 : Ini) (hG : Glob globs0x2x3 w0) : LoopOk shaHasherWriteX w0 (loopAt Tryz.f63 0) shaHasherWriteL0E :=
 loop_okH shaHasherWriteC hG (loopAt Tryz.f63 0) (lall_of lall_nil (by kernel_rfl : loopsOf (loopAt Tryz.f63 0) = _))
  shaHasherWriteL0Y shaHasherWriteL0Z (by kernel_rfl) (fun p => shaHasherWriteL0R p.1 p.2.1 p.2.2.1 p.2.2.2) (fun p => bigFuel) (fun p => by kernel_rfl) _ (fun p => shaHasherWriteL0_eq p.1 p.2.1 p.2.2.1 p.2.2.2)
theorem shaHasherWriteK : CallOk Tryz.prog (Glob globs0x2x3) 63 shaHasherWriteE :=
 fun_okB (cx := shaHasherWriteX) shaHasherWriteC (fn := Tryz.f63) Tryz.func63 (by kernel_rfl) Tryz.ntmps63 Tryz.call63 _ _ _ _ _ _ _ (by kernel_rfl) (by kernel_rfl) (by kernel_rfl)
  (fun w0 hG => lall_of (lall_cut (b := loopAt Tryz.f63 0) (shaHasherWriteL0K w0 hG) (by kernel_rfl) (lall_nil)) (by kernel_rfl : loopsOf (bodyOf Tryz.f63) = _)) (fun p => Eq.trans (b := shaHasherWriteB p.1 p.2.1 p.2.2) (by kernel_rfl) (shaHasherWrite_eq p.1 p.2.1 p.2.2).symm)
def shaPadI : Lay := ⟨[], [(false, 0, .int .i64)], [⟨[], []⟩]⟩
def shaPadO : Lay := ⟨[(false, 0, .own 1000 (.int .u8))], [(false, 1, .int .i64), (true, 1000, .row (.int .u8))], [⟨[], [(false, 0, [], 1000)]⟩, ⟨[(1000, 1018)], []⟩]⟩
def shaPadE : Entry := mkB 1 2 0 [false] shaPadI shaPadO (fun p => shaPad p)
def shaPadL0Y : Lay := ⟨[(false, 5, .own 1018 (.int .u8))], [(false, 6, .int .u64), (false, 24, .int .i64), (true, 1018, .row (.int .u8))], [⟨[(1018, 1018)], []⟩]⟩
def shaPadL0Z : List (Ex × Lay) := [(.exit 0, ⟨[(false, 5, .own 1018 (.int .u8))], [(true, 1018, .row (.int .u8))], [⟨[(1018, 1018)], []⟩]⟩)]
def shaPadL0E : LEntry := mkL shaPadL0Y shaPadL0Z fun p => shaPadL0 p.1 p.2.1 p.2.2
def shaPadX : Cx := mkCx Tryz.prog 41 globsF [] [(8, shaPadL0E)] []
theorem shaPadC : CxOk shaPadX (Glob globsF) := cx_ok (by kernel_rfl) (by kernel_rfl) trivial
theorem shaPadL0K (w0 : Ini) (hG : Glob globsF w0) : LoopOk shaPadX w0 (loopAt Tryz.f91 0) shaPadL0E :=
 loop_okH shaPadC hG (loopAt Tryz.f91 0) (lall_of lall_nil (by kernel_rfl : loopsOf (loopAt Tryz.f91 0) = _))
  shaPadL0Y shaPadL0Z (by kernel_rfl) (fun p => shaPadL0R p.1 p.2.1 p.2.2) (fun p => 1000) (fun p => by kernel_rfl) _ (fun p => shaPadL0_eq p.1 p.2.1 p.2.2)
theorem shaPadK : CallOk Tryz.prog (Glob globsF) 91 shaPadE :=
 fun_okB (cx := shaPadX) shaPadC (fn := Tryz.f91) Tryz.func91 (by kernel_rfl) Tryz.ntmps91 Tryz.call91 _ _ _ _ _ _ _ (by kernel_rfl) (by kernel_rfl) (by kernel_rfl)
  (fun w0 hG => lall_of (lall_cut (b := loopAt Tryz.f91 0) (shaPadL0K w0 hG) (by kernel_rfl) (lall_nil)) (by kernel_rfl : loopsOf (bodyOf Tryz.f91) = _)) (fun p => Eq.trans (b := shaPadB p) (by kernel_rfl) (shaPad_eq p).symm)
def shaHasherSumI : Lay := ⟨[(false, 0, .ptr 0 [])], [(true, 0, .st [.arr (.int .u32) 8, .own 1 (.int .u8), .int .i64]), (true, 1, .row (.int .u8))], [⟨[(0, 0), (1, 1)], []⟩]⟩
def shaHasherSumO : Lay := ⟨[], [(false, 0, .arr (.int .u8) 32)], [⟨[], []⟩]⟩
def shaHasherSumE : Entry := mkB 1 1 2 [true] shaHasherSumI shaHasherSumO (fun p => shaHasherSum p.1 p.2)
def shaHasherSumL0Y : Lay := ⟨[(false, 2, .ptr 1002 []), (false, 3, .ptr 1003 [])], [(false, 6, .isl true (.int .u8)), (true, 1002, .arr (.int .u8) 32), (true, 1003, .arr (.int .u32) 8)], [⟨[(1002, 1002), (1003, 1003)], []⟩]⟩
def shaHasherSumL0Z : List (Ex × Lay) := [(.exit 0, ⟨[(false, 2, .ptr 1002 []), (false, 3, .ptr 1003 [])], [(true, 1002, .arr (.int .u8) 32), (true, 1003, .arr (.int .u32) 8)], [⟨[(1002, 1002), (1003, 1003)], []⟩]⟩)]
def shaHasherSumL0E : LEntry := mkL shaHasherSumL0Y shaHasherSumL0Z fun p => shaHasherSumL0 p.1 p.2.1 p.2.2
def shaHasherSumX : Cx := mkCx Tryz.prog 62 globs0x2x3 [(89, shaHasherNowE), (90, shaIBehindE), (91, shaPadE)] [(6, shaHasherSumL0E)] [] [(1000006, [.ice 1030])]
theorem shaHasherSumC : CxOk shaHasherSumX (Glob globs0x2x3) := cx_ok (by kernel_rfl) (by kernel_rfl) ⟨(shaHasherNowK.up globs0x2_globs0x2x3), (shaIBehindK.up globs0x3_globs0x2x3), (shaPadK.up globsF_globs0x2x3), trivial⟩
theorem shaHasherSumL0K (w0 : Ini) (hG : Glob globs0x2x3 w0) : LoopOk shaHasherSumX w0 (loopAt Tryz.f64 0) shaHasherSumL0E :=
 loop_okH shaHasherSumC hG (loopAt Tryz.f64 0) (lall_of lall_nil (by kernel_rfl : loopsOf (loopAt Tryz.f64 0) = _))
  shaHasherSumL0Y shaHasherSumL0Z (by kernel_rfl) (fun p => shaHasherSumL0R p.1 p.2.1 p.2.2) (fun p => bigFuel) (fun p => by kernel_rfl) _ (fun p => shaHasherSumL0_eq p.1 p.2.1 p.2.2)
theorem shaHasherSumK : CallOk Tryz.prog (Glob globs0x2x3) 64 shaHasherSumE :=
 fun_okB (cx := shaHasherSumX) shaHasherSumC (fn := Tryz.f64) Tryz.func64 (by kernel_rfl) Tryz.ntmps64 Tryz.call64 _ _ _ _ _ _ _ (by kernel_rfl) (by kernel_rfl) (by kernel_rfl)
  (fun w0 hG => lall_of (lall_cut (b := loopAt Tryz.f64 0) (shaHasherSumL0K w0 hG) (by kernel_rfl) (lall_free (b := loopAt Tryz.f64 1) (by kernel_rfl) (lall_free (b := loopAt Tryz.f64 2) (by kernel_rfl) (lall_nil)))) (by kernel_rfl : loopsOf (bodyOf Tryz.f64) = _)) (fun p => Eq.trans (b := shaHasherSumB p.1 p.2) (by kernel_rfl) (shaHasherSum_eq p.1 p.2).symm)
def shaSumE : Entry := mkE [.isl false .bytes] [.arr (.int .u8) 32] fun p => shaSum p
def shaSumL0Y : Lay := ⟨[(false, 2, .ptr 1002 []), (false, 3, .ptr 1001006 [])], [(false, 7, .isl false .bytes), (false, 8, .int .i64), (false, 9, .int .i64), (true, 1002, .arr (.int .u8) 32), (true, 1001006, .st [.arr (.int .u32) 8, .own 1000003000 (.int .u8), .int .i64]), (true, 1000003000, .row (.int .u8))], [⟨[(1002, 1002), (1001006, 1001006), (1000003000, 1501006)], []⟩, ⟨[(1002, 1002), (1001006, 1001006), (1000003000, 999999999015)], []⟩]⟩
def shaSumL0Z : List (Ex × Lay) := [(.exit 0, ⟨[(false, 2, .ptr 1002 []), (false, 3, .ptr 1001006 [])], [(true, 1002, .arr (.int .u8) 32), (true, 1001006, .st [.arr (.int .u32) 8, .own 1000003000 (.int .u8), .int .i64]), (true, 1000003000, .row (.int .u8))], [⟨[(1002, 1002), (1001006, 1001006), (1000003000, 1000003000)], []⟩]⟩)]
def shaSumL0E : LEntry := mkL shaSumL0Y shaSumL0Z fun p => shaSumL0 p.1 p.2.1 p.2.2.1 p.2.2.2.1 p.2.2.2.2.1 p.2.2.2.2.2
def shaSumX : Cx := mkCx Tryz.prog 19 globs0x2x3 [(62, shaNewE), (63, shaHasherWriteE), (64, shaHasherSumE)] [(3, shaSumL0E)] []
theorem shaSumC : CxOk shaSumX (Glob globs0x2x3) := cx_ok (by kernel_rfl) (by kernel_rfl) ⟨(shaNewK.up globsF_globs0x2x3), shaHasherWriteK, shaHasherSumK, trivial⟩
theorem shaSumL0K (w0 : Ini) (hG : Glob globs0x2x3 w0) : LoopOk shaSumX w0 (loopAt Tryz.f61 0) shaSumL0E :=
 loop_okH shaSumC hG (loopAt Tryz.f61 0) (lall_of lall_nil (by kernel_rfl : loopsOf (loopAt Tryz.f61 0) = _))
  shaSumL0Y shaSumL0Z (by kernel_rfl) (fun p => shaSumL0R p.1 p.2.1 p.2.2.1 p.2.2.2.1 p.2.2.2.2.1 p.2.2.2.2.2) (fun p => bigFuel) (fun p => by kernel_rfl) _ (fun p => shaSumL0_eq p.1 p.2.1 p.2.2.1 p.2.2.2.1 p.2.2.2.2.1 p.2.2.2.2.2)
theorem shaSumK : CallOk Tryz.prog (Glob globs0x2x3) 61 shaSumE :=
 fun_ok (cx := shaSumX) shaSumC (fn := Tryz.f61) Tryz.func61 (by kernel_rfl) Tryz.ntmps61 Tryz.call61 _ _ _ (by kernel_rfl) (by kernel_rfl) (by kernel_rfl)
  (fun w0 hG => lall_of (lall_cut (b := loopAt Tryz.f61 0) (shaSumL0K w0 hG) (by kernel_rfl) (lall_nil)) (by kernel_rfl : loopsOf (bodyOf Tryz.f61) = _)) (fun p => Eq.trans (b := shaSumB p) (by kernel_rfl) (shaSum_eq p).symm)
def shaHMACE : Entry := mkE [.isl false (.int .u8), .isl false .bytes] [.arr (.int .u8) 32] fun p => shaHMAC p.1 p.2
def shaHMACL0Y : Lay := ⟨[(false, 4, .ptr 1004 []), (false, 7, .ptr 1007 []), (false, 8, .ptr 1008 [])], [(false, 1, .isl false .bytes), (false, 28, .int .i64), (true, 1004, .arr (.int .u8) 32), (true, 1007, .arr (.int .u8) 64), (true, 1008, .arr (.int .u8) 64)], [⟨[(1004, 1004), (1007, 1007), (1008, 1008)], []⟩]⟩
def shaHMACL0Z : List (Ex × Lay) := [(.exit 0, ⟨[(false, 4, .ptr 1004 []), (false, 7, .ptr 1007 []), (false, 8, .ptr 1008 [])], [(false, 1, .isl false .bytes), (true, 1004, .arr (.int .u8) 32), (true, 1007, .arr (.int .u8) 64), (true, 1008, .arr (.int .u8) 64)], [⟨[(1004, 1004), (1007, 1007), (1008, 1008)], []⟩]⟩)]
def shaHMACL0E : LEntry := mkL shaHMACL0Y shaHMACL0Z fun p => shaHMACL0 p.1 p.2.1 p.2.2.1 p.2.2.2.1 p.2.2.2.2
def shaHMACL1Y : Lay := ⟨[(false, 4, .ptr 1004 []), (false, 8, .ptr 1008 []), (false, 10, .ptr 1001042 [])], [(false, 46, .isl false .bytes), (false, 47, .int .i64), (false, 48, .int .i64), (true, 1004, .arr (.int .u8) 32), (true, 1008, .arr (.int .u8) 64), (true, 1001042, .st [.arr (.int .u32) 8, .own 999999999045 (.int .u8), .int .i64]), (true, 999999999045, .row (.int .u8))], [⟨[(1004, 1004), (1008, 1008), (1001042, 1001042), (999999999045, 999999999045)], []⟩, ⟨[(1004, 1004), (1008, 1008), (1001042, 1001042), (999999999045, 999999999054)], []⟩]⟩
def shaHMACL1Z : List (Ex × Lay) := [(.exit 2, ⟨[(false, 4, .ptr 1004 []), (false, 8, .ptr 1008 []), (false, 10, .ptr 1001042 [])], [(true, 1004, .arr (.int .u8) 32), (true, 1008, .arr (.int .u8) 64), (true, 1001042, .st [.arr (.int .u32) 8, .own 999999999045 (.int .u8), .int .i64]), (true, 999999999045, .row (.int .u8))], [⟨[(1004, 1004), (1008, 1008), (1001042, 1001042), (999999999045, 999999999045)], []⟩]⟩)]
def shaHMACL1E : LEntry := mkL shaHMACL1Y shaHMACL1Z fun p => shaHMACL1 p.1 p.2.1 p.2.2.1 p.2.2.2.1 p.2.2.2.2.1 p.2.2.2.2.2.1 p.2.2.2.2.2.2
def shaHMACX : Cx := mkCx Tryz.prog 62 globs0x2x3 [(61, shaSumE), (62, shaNewE), (63, shaHasherWriteE), (64, shaHasherSumE)] [(8, shaHMACL0E), (16, shaHMACL1E)] []
theorem shaHMACC : CxOk shaHMACX (Glob globs0x2x3) := cx_ok (by kernel_rfl) (by kernel_rfl) ⟨shaSumK, (shaNewK.up globsF_globs0x2x3), shaHasherWriteK, shaHasherSumK, trivial⟩
theorem shaHMACL0K (w0 : Ini) (hG : Glob globs0x2x3 w0) : LoopOk shaHMACX w0 (loopAt Tryz.f34 0) shaHMACL0E :=
 loop_okH shaHMACC hG (loopAt Tryz.f34 0) (lall_of lall_nil (by kernel_rfl : loopsOf (loopAt Tryz.f34 0) = _))
  shaHMACL0Y shaHMACL0Z (by kernel_rfl) (fun p => shaHMACL0R p.1 p.2.1 p.2.2.1 p.2.2.2.1 p.2.2.2.2) (fun p => 1000) (fun p => by kernel_rfl) _ (fun p => shaHMACL0_eq p.1 p.2.1 p.2.2.1 p.2.2.2.1 p.2.2.2.2)
theorem shaHMACL1K (w0 : Ini) (hG : Glob globs0x2x3 w0) : LoopOk shaHMACX w0 (loopAt Tryz.f34 1) shaHMACL1E :=
 loop_okH shaHMACC hG (loopAt Tryz.f34 1) (lall_of lall_nil (by kernel_rfl : loopsOf (loopAt Tryz.f34 1) = _))
  shaHMACL1Y shaHMACL1Z (by kernel_rfl) (fun p => shaHMACL1R p.1 p.2.1 p.2.2.1 p.2.2.2.1 p.2.2.2.2.1 p.2.2.2.2.2.1 p.2.2.2.2.2.2) (fun p => 1000) (fun p => by kernel_rfl) _ (fun p => shaHMACL1_eq p.1 p.2.1 p.2.2.1 p.2.2.2.1 p.2.2.2.2.1 p.2.2.2.2.2.1 p.2.2.2.2.2.2)
theorem shaHMACK : CallOk Tryz.prog (Glob globs0x2x3) 34 shaHMACE :=
 fun_ok (cx := shaHMACX) shaHMACC (fn := Tryz.f34) Tryz.func34 (by kernel_rfl) Tryz.ntmps34 Tryz.call34 _ _ _ (by kernel_rfl) (by kernel_rfl) (by kernel_rfl)
  (fun w0 hG => lall_of (lall_cut (b := loopAt Tryz.f34 0) (shaHMACL0K w0 hG) (by kernel_rfl) (lall_cut (b := loopAt Tryz.f34 1) (shaHMACL1K w0 hG) (by kernel_rfl) (lall_nil))) (by kernel_rfl : loopsOf (bodyOf Tryz.f34) = _)) (fun p => Eq.trans (b := shaHMACB p.1 p.2) (by kernel_rfl) (shaHMAC_eq p.1 p.2).symm)
def ref03IJoinedI : Lay := ⟨[], [(false, 0, .isl false .bytes)], [⟨[], []⟩]⟩
def ref03IJoinedO : Lay := ⟨[(false, 0, .own 1000 (.int .u8))], [(true, 1000, .row (.int .u8))], [⟨[(1000, 1033)], []⟩]⟩
def ref03IJoinedE : Entry := mkB 1 1 0 [false] ref03IJoinedI ref03IJoinedO (fun p => ref03IJoined p)
def ref03IJoinedL1Y : Lay := ⟨[(false, 3, .own 1033 (.int .u8))], [(false, 0, .isl false .bytes), (false, 4, .int .i64), (false, 5, .int .i64), (true, 1033, .row (.int .u8))], [⟨[(1033, 1033)], []⟩, ⟨[(1033, 1030)], []⟩]⟩
def ref03IJoinedL1Z : List (Ex × Lay) := [(.exit 2, ⟨[(false, 3, .own 1033 (.int .u8))], [(false, 0, .isl false .bytes), (false, 4, .int .i64), (true, 1033, .row (.int .u8))], [⟨[(1033, 1033)], []⟩]⟩)]
def ref03IJoinedL1E : LEntry := mkL ref03IJoinedL1Y ref03IJoinedL1Z fun p => ref03IJoinedL1 p.1 p.2.1 p.2.2.1 p.2.2.2
def ref03IJoinedL0Y : Lay := ⟨[(false, 3, .own 1033 (.int .u8))], [(false, 0, .isl false .bytes), (false, 4, .int .i64), (true, 1033, .row (.int .u8))], [⟨[], [(false, 3, [], 1033)]⟩, ⟨[(1033, 1033)], []⟩]⟩
def ref03IJoinedL0Z : List (Ex × Lay) := [(.exit 0, ⟨[(false, 3, .own 1033 (.int .u8))], [(true, 1033, .row (.int .u8))], [⟨[(1033, 1033)], []⟩]⟩)]
def ref03IJoinedL0E : LEntry := mkL ref03IJoinedL0Y ref03IJoinedL0Z fun p => ref03IJoinedL0 p.1 p.2.1 p.2.2
def ref03IJoinedX : Cx := mkCx Tryz.prog 32 globsF [] [(3, ref03IJoinedL0E), (6, ref03IJoinedL1E)] []
theorem ref03IJoinedC : CxOk ref03IJoinedX (Glob globsF) := cx_ok (by kernel_rfl) (by kernel_rfl) trivial
theorem ref03IJoinedL1K (w0 : Ini) (hG : Glob globsF w0) : LoopOk ref03IJoinedX w0 (loopAt Tryz.f102 1) ref03IJoinedL1E :=
 loop_okH ref03IJoinedC hG (loopAt Tryz.f102 1) (lall_of lall_nil (by kernel_rfl : loopsOf (loopAt Tryz.f102 1) = _))
  ref03IJoinedL1Y ref03IJoinedL1Z (by kernel_rfl) (fun p => ref03IJoinedL1R p.1 p.2.1 p.2.2.1 p.2.2.2) (fun p => 1000) (fun p => by kernel_rfl) _ (fun p => ref03IJoinedL1_eq p.1 p.2.1 p.2.2.1 p.2.2.2)
theorem ref03IJoinedL0K (w0 : Ini) (hG : Glob globsF w0) : LoopOk ref03IJoinedX w0 (loopAt Tryz.f102 0) ref03IJoinedL0E :=
 loop_okH ref03IJoinedC hG (loopAt Tryz.f102 0) (lall_of (lall_cut (b := loopAt Tryz.f102 1) (ref03IJoinedL1K w0 hG) (by kernel_rfl) (lall_nil)) (by kernel_rfl : loopsOf (loopAt Tryz.f102 0) = _))
  ref03IJoinedL0Y ref03IJoinedL0Z (by kernel_rfl) (fun p => ref03IJoinedL0R p.1 p.2.1 p.2.2) (fun p => 1000) (fun p => by kernel_rfl) _ (fun p => ref03IJoinedL0_eq p.1 p.2.1 p.2.2)
theorem ref03IJoinedK : CallOk Tryz.prog (Glob globsF) 102 ref03IJoinedE :=
 fun_okB (cx := ref03IJoinedX) ref03IJoinedC (fn := Tryz.f102) Tryz.func102 (by kernel_rfl) Tryz.ntmps102 Tryz.call102 _ _ _ _ _ _ _ (by kernel_rfl) (by kernel_rfl) (by kernel_rfl)
  (fun w0 hG => lall_of (lall_cut (b := loopAt Tryz.f102 0) (ref03IJoinedL0K w0 hG) (by kernel_rfl) (lall_cut (b := loopAt Tryz.f102 1) (ref03IJoinedL1K w0 hG) (by kernel_rfl) (lall_nil))) (by kernel_rfl : loopsOf (bodyOf Tryz.f102) = _)) (fun p => Eq.trans (b := ref03IJoinedB p) (by kernel_rfl) (ref03IJoined_eq p).symm)
def ref03PadI : Lay := ⟨[], [(false, 0, .int .i64)], [⟨[], []⟩]⟩
def ref03PadO : Lay := ⟨[(false, 0, .own 1000 (.int .u8))], [(false, 1, .int .i64), (true, 1000, .row (.int .u8))], [⟨[], [(false, 0, [], 1000)]⟩, ⟨[(1000, 1009)], []⟩]⟩
def ref03PadE : Entry := mkB 1 2 0 [false] ref03PadI ref03PadO (fun p => ref03Pad p)
def ref03PadL0Y : Lay := ⟨[(false, 4, .own 1009 (.int .u8))], [(false, 0, .int .i64), (true, 1009, .row (.int .u8))], [⟨[(1009, 1009)], []⟩, ⟨[(1009, 1020)], []⟩]⟩
def ref03PadL0Z : List (Ex × Lay) := [(.exit 0, ⟨[(false, 4, .own 1009 (.int .u8))], [(false, 0, .int .i64), (true, 1009, .row (.int .u8))], [⟨[(1009, 1009)], []⟩]⟩)]
def ref03PadL0E : LEntry := mkL ref03PadL0Y ref03PadL0Z fun p => ref03PadL0 p.1 p.2
def ref03PadL1Y : Lay := ⟨[(false, 4, .own 1009 (.int .u8))], [(false, 5, .int .u64), (false, 6, .int .i64), (true, 1009, .row (.int .u8))], [⟨[(1009, 1009)], []⟩, ⟨[(1009, 1036)], []⟩]⟩
def ref03PadL1Z : List (Ex × Lay) := [(.exit 2, ⟨[(false, 4, .own 1009 (.int .u8))], [(true, 1009, .row (.int .u8))], [⟨[(1009, 1009)], []⟩]⟩)]
def ref03PadL1E : LEntry := mkL ref03PadL1Y ref03PadL1Z fun p => ref03PadL1 p.1 p.2.1 p.2.2
def ref03PadX : Cx := mkCx Tryz.prog 38 globsF [] [(4, ref03PadL0E), (8, ref03PadL1E)] []
theorem ref03PadC : CxOk ref03PadX (Glob globsF) := cx_ok (by kernel_rfl) (by kernel_rfl) trivial
theorem ref03PadL0K (w0 : Ini) (hG : Glob globsF w0) : LoopOk ref03PadX w0 (loopAt Tryz.f124 0) ref03PadL0E :=
 loop_okH ref03PadC hG (loopAt Tryz.f124 0) (lall_of lall_nil (by kernel_rfl : loopsOf (loopAt Tryz.f124 0) = _))
  ref03PadL0Y ref03PadL0Z (by kernel_rfl) (fun p => ref03PadL0R p.1 p.2) (fun p => 1000) (fun p => by kernel_rfl) _ (fun p => ref03PadL0_eq p.1 p.2)
theorem ref03PadL1K (w0 : Ini) (hG : Glob globsF w0) : LoopOk ref03PadX w0 (loopAt Tryz.f124 1) ref03PadL1E :=
 loop_okH ref03PadC hG (loopAt Tryz.f124 1) (lall_of lall_nil (by kernel_rfl : loopsOf (loopAt Tryz.f124 1) = _))
  ref03PadL1Y ref03PadL1Z (by kernel_rfl) (fun p => ref03PadL1R p.1 p.2.1 p.2.2) (fun p => 1000) (fun p => by kernel_rfl) _ (fun p => ref03PadL1_eq p.1 p.2.1 p.2.2)
theorem ref03PadK : CallOk Tryz.prog (Glob globsF) 124 ref03PadE :=
 fun_okB (cx := ref03PadX) ref03PadC (fn := Tryz.f124) Tryz.func124 (by kernel_rfl) Tryz.ntmps124 Tryz.call124 _ _ _ _ _ _ _ (by kernel_rfl) (by kernel_rfl) (by kernel_rfl)
  (fun w0 hG => lall_of (lall_cut (b := loopAt Tryz.f124 0) (ref03PadL0K w0 hG) (by kernel_rfl) (lall_cut (b := loopAt Tryz.f124 1) (ref03PadL1K w0 hG) (by kernel_rfl) (lall_nil))) (by kernel_rfl : loopsOf (bodyOf Tryz.f124) = _)) (fun p => Eq.trans (b := ref03PadB p) (by kernel_rfl) (ref03Pad_eq p).symm)
def ref03IPrimeE : Entry := mkE [.int .i64] [.bool] fun p => ref03IPrime p
def ref03IPrimeL0Y : Lay := ⟨[], [(false, 0, .int .i64), (false, 3, .int .i64)], [⟨[], []⟩]⟩
def ref03IPrimeL0Z : List (Ex × Lay) := [(.ret, ⟨[(false, 2, .bool false)], [], [⟨[], []⟩]⟩), (.exit 0, ⟨[], [], [⟨[], []⟩]⟩)]
def ref03IPrimeL0E : LEntry := mkL ref03IPrimeL0Y ref03IPrimeL0Z fun p => ref03IPrimeL0 p.1 p.2
def ref03IPrimeX : Cx := mkCx Tryz.prog 15 globsF [] [(2, ref03IPrimeL0E)] []
theorem ref03IPrimeC : CxOk ref03IPrimeX (Glob globsF) := cx_ok (by kernel_rfl) (by kernel_rfl) trivial
theorem ref03IPrimeL0K (w0 : Ini) (hG : Glob globsF w0) : LoopOk ref03IPrimeX w0 (loopAt Tryz.f132 0) ref03IPrimeL0E :=
 loop_okH ref03IPrimeC hG (loopAt Tryz.f132 0) (lall_of lall_nil (by kernel_rfl : loopsOf (loopAt Tryz.f132 0) = _))
  ref03IPrimeL0Y ref03IPrimeL0Z (by kernel_rfl) (fun p => ref03IPrimeL0R p.1 p.2) (fun p => 1000) (fun p => by kernel_rfl) _ (fun p => ref03IPrimeL0_eq p.1 p.2)
theorem ref03IPrimeK : CallOk Tryz.prog (Glob globsF) 132 ref03IPrimeE :=
 fun_ok (cx := ref03IPrimeX) ref03IPrimeC (fn := Tryz.f132) Tryz.func132 (by kernel_rfl) Tryz.ntmps132 Tryz.call132 _ _ _ (by kernel_rfl) (by kernel_rfl) (by kernel_rfl)
  (fun w0 hG => lall_of (lall_cut (b := loopAt Tryz.f132 0) (ref03IPrimeL0K w0 hG) (by kernel_rfl) (lall_nil)) (by kernel_rfl : loopsOf (bodyOf Tryz.f132) = _)) (fun p => Eq.trans (b := ref03IPrimeB p) (by kernel_rfl) (ref03IPrime_eq p).symm)
def ref03ILimbsE : Entry := mkE [.int .i64] [.arr (.int .i64) 16] fun p => ref03ILimbs p
def ref03ILimbsX : Cx := mkCx Tryz.prog 16 globsF [] [] []
theorem ref03ILimbsC : CxOk ref03ILimbsX (Glob globsF) := cx_ok (by kernel_rfl) (by kernel_rfl) trivial
theorem ref03ILimbsK : CallOk Tryz.prog (Glob globsF) 137 ref03ILimbsE :=
 fun_ok (cx := ref03ILimbsX) ref03ILimbsC (fn := Tryz.f137) Tryz.func137 (by kernel_rfl) Tryz.ntmps137 Tryz.call137 _ _ _ (by kernel_rfl) (by kernel_rfl) (by kernel_rfl)
  (fun w0 hG => lall_of (lall_free (b := loopAt Tryz.f137 0) (by kernel_rfl) (lall_nil)) (by kernel_rfl : loopsOf (bodyOf Tryz.f137) = _)) (fun p => Eq.trans (b := ref03ILimbsB p) (by kernel_rfl) (ref03ILimbs_eq p).symm)
def ref03IProductE : Entry := mkE [.arr (.int .i64) 16, .arr (.int .i64) 16] [.arr (.int .i64) 16] fun p => ref03IProduct p.1 p.2
def ref03IProductL1Y : Lay := ⟨[(false, 2, .ptr 1002 []), (false, 3, .ptr 1003 []), (false, 4, .ptr 1004 []), (false, 5, .ptr 1005 [])], [(false, 6, .int .i64), (false, 7, .int .i64), (false, 8, .int .i64), (true, 1002, .arr (.int .i64) 16), (true, 1003, .arr (.int .i64) 16), (true, 1004, .arr (.int .i64) 16), (true, 1005, .arr (.int .i64) 16)], [⟨[(1002, 1002), (1003, 1003), (1004, 1004), (1005, 1005)], []⟩]⟩
def ref03IProductL1Z : List (Ex × Lay) := [(.exit 2, ⟨[(false, 2, .ptr 1002 []), (false, 3, .ptr 1003 []), (false, 4, .ptr 1004 []), (false, 5, .ptr 1005 [])], [(false, 6, .int .i64), (false, 7, .int .i64), (true, 1002, .arr (.int .i64) 16), (true, 1003, .arr (.int .i64) 16), (true, 1004, .arr (.int .i64) 16), (true, 1005, .arr (.int .i64) 16)], [⟨[(1002, 1002), (1003, 1003), (1004, 1004), (1005, 1005)], []⟩]⟩)]
def ref03IProductL1E : LEntry := mkL ref03IProductL1Y ref03IProductL1Z fun p => ref03IProductL1 p.1 p.2.1 p.2.2.1 p.2.2.2.1 p.2.2.2.2.1 p.2.2.2.2.2.1 p.2.2.2.2.2.2
def ref03IProductL0Y : Lay := ⟨[(false, 2, .ptr 1002 []), (false, 3, .ptr 1003 []), (false, 4, .ptr 1004 []), (false, 5, .ptr 1005 [])], [(false, 6, .int .i64), (true, 1002, .arr (.int .i64) 16), (true, 1003, .arr (.int .i64) 16), (true, 1004, .arr (.int .i64) 16), (true, 1005, .arr (.int .i64) 16)], [⟨[(1002, 1002), (1003, 1003), (1004, 1004), (1005, 1005)], []⟩]⟩
def ref03IProductL0Z : List (Ex × Lay) := [(.exit 0, ⟨[(false, 4, .ptr 1004 []), (false, 5, .ptr 1005 [])], [(true, 1004, .arr (.int .i64) 16), (true, 1005, .arr (.int .i64) 16)], [⟨[(1004, 1004), (1005, 1005)], []⟩]⟩)]
def ref03IProductL0E : LEntry := mkL ref03IProductL0Y ref03IProductL0Z fun p => ref03IProductL0 p.1 p.2.1 p.2.2.1 p.2.2.2.1 p.2.2.2.2
def ref03IProductX : Cx := mkCx Tryz.prog 51 globsF [] [(3, ref03IProductL0E), (7, ref03IProductL1E)] []
theorem ref03IProductC : CxOk ref03IProductX (Glob globsF) := cx_ok (by kernel_rfl) (by kernel_rfl) trivial
theorem ref03IProductL1K (w0 : Ini) (hG : Glob globsF w0) : LoopOk ref03IProductX w0 (loopAt Tryz.f138 1) ref03IProductL1E :=
 loop_okH ref03IProductC hG (loopAt Tryz.f138 1) (lall_of lall_nil (by kernel_rfl : loopsOf (loopAt Tryz.f138 1) = _))
  ref03IProductL1Y ref03IProductL1Z (by kernel_rfl) (fun p => ref03IProductL1R p.1 p.2.1 p.2.2.1 p.2.2.2.1 p.2.2.2.2.1 p.2.2.2.2.2.1 p.2.2.2.2.2.2) (fun p => 1000) (fun p => by kernel_rfl) _ (fun p => ref03IProductL1_eq p.1 p.2.1 p.2.2.1 p.2.2.2.1 p.2.2.2.2.1 p.2.2.2.2.2.1 p.2.2.2.2.2.2)
theorem ref03IProductL0K (w0 : Ini) (hG : Glob globsF w0) : LoopOk ref03IProductX w0 (loopAt Tryz.f138 0) ref03IProductL0E :=
 loop_okH ref03IProductC hG (loopAt Tryz.f138 0) (lall_of (lall_cut (b := loopAt Tryz.f138 1) (ref03IProductL1K w0 hG) (by kernel_rfl) (lall_nil)) (by kernel_rfl : loopsOf (loopAt Tryz.f138 0) = _))
  ref03IProductL0Y ref03IProductL0Z (by kernel_rfl) (fun p => ref03IProductL0R p.1 p.2.1 p.2.2.1 p.2.2.2.1 p.2.2.2.2) (fun p => 1000) (fun p => by kernel_rfl) _ (fun p => ref03IProductL0_eq p.1 p.2.1 p.2.2.1 p.2.2.2.1 p.2.2.2.2)
theorem ref03IProductK : CallOk Tryz.prog (Glob globsF) 138 ref03IProductE :=
 fun_ok (cx := ref03IProductX) ref03IProductC (fn := Tryz.f138) Tryz.func138 (by kernel_rfl) Tryz.ntmps138 Tryz.call138 _ _ _ (by kernel_rfl) (by kernel_rfl) (by kernel_rfl)
  (fun w0 hG => lall_of (lall_cut (b := loopAt Tryz.f138 0) (ref03IProductL0K w0 hG) (by kernel_rfl) (lall_cut (b := loopAt Tryz.f138 1) (ref03IProductL1K w0 hG) (by kernel_rfl) (lall_nil))) (by kernel_rfl : loopsOf (bodyOf Tryz.f138) = _)) (fun p => Eq.trans (b := ref03IProductB p.1 p.2) (by kernel_rfl) (ref03IProduct_eq p.1 p.2).symm)
def ref03IAtMostE : Entry := mkE [.arr (.int .i64) 16, .arr (.int .i64) 16] [.bool] fun p => ref03IAtMost p.1 p.2
def ref03IAtMostL0Y : Lay := ⟨[(false, 2, .ptr 1002 []), (false, 3, .ptr 1003 [])], [(false, 5, .int .i64), (true, 1002, .arr (.int .i64) 16), (true, 1003, .arr (.int .i64) 16)], [⟨[(1002, 1002), (1003, 1003)], []⟩]⟩
def ref03IAtMostL0Z : List (Ex × Lay) := [(.ret, ⟨[], [(false, 4, .bool)], [⟨[], []⟩]⟩), (.exit 0, ⟨[], [], [⟨[], []⟩]⟩)]
def ref03IAtMostL0E : LEntry := mkL ref03IAtMostL0Y ref03IAtMostL0Z fun p => ref03IAtMostL0 p.1 p.2.1 p.2.2
def ref03IAtMostX : Cx := mkCx Tryz.prog 24 globsF [] [(2, ref03IAtMostL0E)] []
theorem ref03IAtMostC : CxOk ref03IAtMostX (Glob globsF) := cx_ok (by kernel_rfl) (by kernel_rfl) trivial
theorem ref03IAtMostL0K (w0 : Ini) (hG : Glob globsF w0) : LoopOk ref03IAtMostX w0 (loopAt Tryz.f139 0) ref03IAtMostL0E :=
 loop_okH ref03IAtMostC hG (loopAt Tryz.f139 0) (lall_of lall_nil (by kernel_rfl : loopsOf (loopAt Tryz.f139 0) = _))
  ref03IAtMostL0Y ref03IAtMostL0Z (by kernel_rfl) (fun p => ref03IAtMostL0R p.1 p.2.1 p.2.2) (fun p => 1000) (fun p => by kernel_rfl) _ (fun p => ref03IAtMostL0_eq p.1 p.2.1 p.2.2)
theorem ref03IAtMostK : CallOk Tryz.prog (Glob globsF) 139 ref03IAtMostE :=
 fun_ok (cx := ref03IAtMostX) ref03IAtMostC (fn := Tryz.f139) Tryz.func139 (by kernel_rfl) Tryz.ntmps139 Tryz.call139 _ _ _ (by kernel_rfl) (by kernel_rfl) (by kernel_rfl)
  (fun w0 hG => lall_of (lall_cut (b := loopAt Tryz.f139 0) (ref03IAtMostL0K w0 hG) (by kernel_rfl) (lall_nil)) (by kernel_rfl : loopsOf (bodyOf Tryz.f139) = _)) (fun p => Eq.trans (b := ref03IAtMostB p.1 p.2) (by kernel_rfl) (ref03IAtMost_eq p.1 p.2).symm)
def ref03IBitsE : Entry := mkE [.int .i64, .int .i64] [.int .u32] fun p => ref03IBits p.1 p.2
def ref03IBitsL0Y : Lay := ⟨[(false, 5, .ptr 1005 [])], [(false, 1, .int .i64), (false, 6, .int .i64), (false, 7, .int .i64), (true, 1005, .arr (.int .i64) 16)], [⟨[(1005, 1005)], []⟩]⟩
def ref03IBitsL0Z : List (Ex × Lay) := [(.exit 0, ⟨[], [(false, 6, .int .i64)], [⟨[], []⟩]⟩)]
def ref03IBitsL0E : LEntry := mkL ref03IBitsL0Y ref03IBitsL0Z fun p => ref03IBitsL0 p.1 p.2.1 p.2.2.1 p.2.2.2
def ref03IBitsX : Cx := mkCx Tryz.prog 41 globsF [(137, ref03ILimbsE), (138, ref03IProductE), (139, ref03IAtMostE)] [(5, ref03IBitsL0E)] []
theorem ref03IBitsC : CxOk ref03IBitsX (Glob globsF) := cx_ok (by kernel_rfl) (by kernel_rfl) ⟨ref03ILimbsK, ref03IProductK, ref03IAtMostK, trivial⟩
theorem ref03IBitsL0K (w0 : Ini) (hG : Glob globsF w0) : LoopOk ref03IBitsX w0 (loopAt Tryz.f133 0) ref03IBitsL0E :=
 loop_okH ref03IBitsC hG (loopAt Tryz.f133 0) (lall_of lall_nil (by kernel_rfl : loopsOf (loopAt Tryz.f133 0) = _))
  ref03IBitsL0Y ref03IBitsL0Z (by kernel_rfl) (fun p => ref03IBitsL0R p.1 p.2.1 p.2.2.1 p.2.2.2) (fun p => 1000) (fun p => by kernel_rfl) _ (fun p => ref03IBitsL0_eq p.1 p.2.1 p.2.2.1 p.2.2.2)
theorem ref03IBitsK : CallOk Tryz.prog (Glob globsF) 133 ref03IBitsE :=
 fun_ok (cx := ref03IBitsX) ref03IBitsC (fn := Tryz.f133) Tryz.func133 (by kernel_rfl) Tryz.ntmps133 Tryz.call133 _ _ _ (by kernel_rfl) (by kernel_rfl) (by kernel_rfl)
  (fun w0 hG => lall_of (lall_cut (b := loopAt Tryz.f133 0) (ref03IBitsL0K w0 hG) (by kernel_rfl) (lall_nil)) (by kernel_rfl : loopsOf (bodyOf Tryz.f133) = _)) (fun p => Eq.trans (b := ref03IBitsB p.1 p.2) (by kernel_rfl) (ref03IBits_eq p.1 p.2).symm)
def ref03RootsI : Lay := ⟨[], [(false, 0, .int .i64), (false, 1, .int .i64)], [⟨[], []⟩]⟩
def ref03RootsO : Lay := ⟨[(false, 0, .own 1000 (.int .u32))], [(true, 1000, .row (.int .u32))], [⟨[(1000, 1022)], []⟩]⟩
def ref03RootsE : Entry := mkB 2 1 0 [false, false] ref03RootsI ref03RootsO (fun p => ref03Roots p.1 p.2)
def ref03RootsL0Y : Lay := ⟨[(false, 5, .own 1022 (.int .u32))], [(false, 0, .int .i64), (false, 1, .int .i64), (false, 6, .int .i64), (true, 1022, .row (.int .u32))], [⟨[], [(false, 5, [], 1022)]⟩, ⟨[(1022, 1020)], []⟩, ⟨[(1022, 1022)], []⟩]⟩
def ref03RootsL0Z : List (Ex × Lay) := [(.exit 0, ⟨[(false, 5, .own 1022 (.int .u32))], [(true, 1022, .row (.int .u32))], [⟨[(1022, 1022)], []⟩]⟩)]
def ref03RootsL0E : LEntry := mkL ref03RootsL0Y ref03RootsL0Z fun p => ref03RootsL0 p.1 p.2.1 p.2.2.1 p.2.2.2
def ref03RootsX : Cx := mkCx Tryz.prog 22 globsF [(132, ref03IPrimeE), (133, ref03IBitsE)] [(3, ref03RootsL0E)] []
theorem ref03RootsC : CxOk ref03RootsX (Glob globsF) := cx_ok (by kernel_rfl) (by kernel_rfl) ⟨ref03IPrimeK, ref03IBitsK, trivial⟩
theorem ref03RootsL0K (w0 : Ini) (hG : Glob globsF w0) : LoopOk ref03RootsX w0 (loopAt Tryz.f125 0) ref03RootsL0E :=
 loop_okH ref03RootsC hG (loopAt Tryz.f125 0) (lall_of lall_nil (by kernel_rfl : loopsOf (loopAt Tryz.f125 0) = _))
  ref03RootsL0Y ref03RootsL0Z (by kernel_rfl) (fun p => ref03RootsL0R p.1 p.2.1 p.2.2.1 p.2.2.2) (fun p => 1000) (fun p => by kernel_rfl) _ (fun p => ref03RootsL0_eq p.1 p.2.1 p.2.2.1 p.2.2.2)
theorem ref03RootsK : CallOk Tryz.prog (Glob globsF) 125 ref03RootsE :=
 fun_okB (cx := ref03RootsX) ref03RootsC (fn := Tryz.f125) Tryz.func125 (by kernel_rfl) Tryz.ntmps125 Tryz.call125 _ _ _ _ _ _ _ (by kernel_rfl) (by kernel_rfl) (by kernel_rfl)
  (fun w0 hG => lall_of (lall_cut (b := loopAt Tryz.f125 0) (ref03RootsL0K w0 hG) (by kernel_rfl) (lall_nil)) (by kernel_rfl : loopsOf (bodyOf Tryz.f125) = _)) (fun p => Eq.trans (b := ref03RootsB p.1 p.2) (by kernel_rfl) (ref03Roots_eq p.1 p.2).symm)
def ref03StartE : Entry := mkE [] [.arr (.int .u32) 8] fun _ => ref03Start
def ref03StartX : Cx := mkCx Tryz.prog 16 globsF [(125, ref03RootsE)] [] []
theorem ref03StartC : CxOk ref03StartX (Glob globsF) := cx_ok (by kernel_rfl) (by kernel_rfl) ⟨ref03RootsK, trivial⟩
theorem ref03StartK : CallOk Tryz.prog (Glob globsF) 126 ref03StartE :=
 fun_ok (cx := ref03StartX) ref03StartC (fn := Tryz.f126) Tryz.func126 (by kernel_rfl) Tryz.ntmps126 Tryz.call126 _ _ _ (by kernel_rfl) (by kernel_rfl) (by kernel_rfl)
  (fun w0 hG => lall_of (lall_free (b := loopAt Tryz.f126 0) (by kernel_rfl) (lall_nil)) (by kernel_rfl : loopsOf (bodyOf Tryz.f126) = _)) (fun p => Eq.trans (b := ref03StartB ) (by kernel_rfl) (ref03Start_eq ).symm)
def ref03IWordE : Entry := mkE [.isl false (.int .u8), .int .i64] [.int .u32] fun p => ref03IWord p.1 p.2
def ref03IWordX : Cx := mkCx Tryz.prog 34 globsF [] [] []
theorem ref03IWordC : CxOk ref03IWordX (Glob globsF) := cx_ok (by kernel_rfl) (by kernel_rfl) trivial
theorem ref03IWordK : CallOk Tryz.prog (Glob globsF) 140 ref03IWordE :=
 fun_ok (cx := ref03IWordX) ref03IWordC (fn := Tryz.f140) Tryz.func140 (by kernel_rfl) Tryz.ntmps140 Tryz.call140 _ _ _ (by kernel_rfl) (by kernel_rfl) (by kernel_rfl)
  (fun w0 hG => lall_of lall_nil (by kernel_rfl : loopsOf (bodyOf Tryz.f140) = _)) (fun p => Eq.trans (b := ref03IWordB p.1 p.2) (by kernel_rfl) (ref03IWord_eq p.1 p.2).symm)
def ref03ITurnedE : Entry := mkE [.int .u32, .int .u64] [.int .u32] fun p => ref03ITurned p.1 p.2
def ref03ITurnedX : Cx := mkCx Tryz.prog 13 globsF [] [] []
theorem ref03ITurnedC : CxOk ref03ITurnedX (Glob globsF) := cx_ok (by kernel_rfl) (by kernel_rfl) trivial
theorem ref03ITurnedK : CallOk Tryz.prog (Glob globsF) 135 ref03ITurnedE :=
 fun_ok (cx := ref03ITurnedX) ref03ITurnedC (fn := Tryz.f135) Tryz.func135 (by kernel_rfl) Tryz.ntmps135 Tryz.call135 _ _ _ (by kernel_rfl) (by kernel_rfl) (by kernel_rfl)
  (fun w0 hG => lall_of lall_nil (by kernel_rfl : loopsOf (bodyOf Tryz.f135) = _)) (fun p => Eq.trans (b := ref03ITurnedB p.1 p.2) (by kernel_rfl) (ref03ITurned_eq p.1 p.2).symm)
def ref03IWordsI : Lay := ⟨[], [(false, 0, .isl false (.int .u8))], [⟨[], []⟩]⟩
def ref03IWordsO : Lay := ⟨[(false, 0, .own 1000 (.int .u32))], [(true, 1000, .row (.int .u32))], [⟨[(1000, 1070)], []⟩]⟩
def ref03IWordsE : Entry := mkB 1 1 0 [false] ref03IWordsI ref03IWordsO (fun p => ref03IWords p)
def ref03IWordsL0Y : Lay := ⟨[(false, 3, .own 1070 (.int .u32))], [(false, 0, .isl false (.int .u8)), (false, 4, .int .i64), (true, 1070, .row (.int .u32))], [⟨[], [(false, 3, [], 1070)]⟩, ⟨[(1070, 1020)], []⟩]⟩
def ref03IWordsL0Z : List (Ex × Lay) := [(.exit 0, ⟨[(false, 3, .own 1070 (.int .u32))], [(true, 1070, .row (.int .u32))], [⟨[(1070, 1070)], []⟩]⟩)]
def ref03IWordsL0E : LEntry := mkL ref03IWordsL0Y ref03IWordsL0Z fun p => ref03IWordsL0 p.1 p.2.1 p.2.2
def ref03IWordsL1Y : Lay := ⟨[(false, 3, .own 1070 (.int .u32))], [(false, 5, .int .i64), (true, 1070, .row (.int .u32))], [⟨[(1070, 1070)], []⟩, ⟨[(1070, 1068)], []⟩]⟩
def ref03IWordsL1Z : List (Ex × Lay) := [(.exit 2, ⟨[(false, 3, .own 1070 (.int .u32))], [(true, 1070, .row (.int .u32))], [⟨[(1070, 1070)], []⟩]⟩)]
def ref03IWordsL1E : LEntry := mkL ref03IWordsL1Y ref03IWordsL1Z fun p => ref03IWordsL1 p.1 p.2
def ref03IWordsX : Cx := mkCx Tryz.prog 70 globsF [(135, ref03ITurnedE), (140, ref03IWordE)] [(3, ref03IWordsL0E), (7, ref03IWordsL1E)] []
theorem ref03IWordsC : CxOk ref03IWordsX (Glob globsF) := cx_ok (by kernel_rfl) (by kernel_rfl) ⟨ref03ITurnedK, ref03IWordK, trivial⟩
theorem ref03IWordsL0K (w0 : Ini) (hG : Glob globsF w0) : LoopOk ref03IWordsX w0 (loopAt Tryz.f134 0) ref03IWordsL0E :=
 loop_okH ref03IWordsC hG (loopAt Tryz.f134 0) (lall_of lall_nil (by kernel_rfl : loopsOf (loopAt Tryz.f134 0) = _))
  ref03IWordsL0Y ref03IWordsL0Z (by kernel_rfl) (fun p => ref03IWordsL0R p.1 p.2.1 p.2.2) (fun p => 1000) (fun p => by kernel_rfl) _ (fun p => ref03IWordsL0_eq p.1 p.2.1 p.2.2)
theorem ref03IWordsL1K (w0 : Ini) (hG : Glob globsF w0) : LoopOk ref03IWordsX w0 (loopAt Tryz.f134 1) ref03IWordsL1E :=
 loop_okH ref03IWordsC hG (loopAt Tryz.f134 1) (lall_of lall_nil (by kernel_rfl : loopsOf (loopAt Tryz.f134 1) = _))
  ref03IWordsL1Y ref03IWordsL1Z (by kernel_rfl) (fun p => ref03IWordsL1R p.1 p.2) (fun p => 1000) (fun p => by kernel_rfl) _ (fun p => ref03IWordsL1_eq p.1 p.2)
theorem ref03IWordsK : CallOk Tryz.prog (Glob globsF) 134 ref03IWordsE :=
 fun_okB (cx := ref03IWordsX) ref03IWordsC (fn := Tryz.f134) Tryz.func134 (by kernel_rfl) Tryz.ntmps134 Tryz.call134 _ _ _ _ _ _ _ (by kernel_rfl) (by kernel_rfl) (by kernel_rfl)
  (fun w0 hG => lall_of (lall_cut (b := loopAt Tryz.f134 0) (ref03IWordsL0K w0 hG) (by kernel_rfl) (lall_cut (b := loopAt Tryz.f134 1) (ref03IWordsL1K w0 hG) (by kernel_rfl) (lall_nil))) (by kernel_rfl : loopsOf (bodyOf Tryz.f134) = _)) (fun p => Eq.trans (b := ref03IWordsB p) (by kernel_rfl) (ref03IWords_eq p).symm)
def ref03IRoundsE : Entry := mkE [.arr (.int .u32) 8, .isl false (.int .u8), .isl false (.int .u32)] [.arr (.int .u32) 8] fun p => ref03IRounds p.1 p.2.1 p.2.2
def ref03IRoundsL1Y : Lay := ⟨[(false, 3, .ptr 1003 []), (false, 6, .ptr 1006 []), (false, 7, .own 1001020 (.int .u32)), (false, 8, .ptr 1008 []), (false, 16, .ptr 1016 [])], [(false, 2, .isl false (.int .u32)), (false, 9, .int .i64), (false, 14, .int .u32), (false, 15, .int .u32), (false, 17, .int .i64), (true, 1003, .arr (.int .u32) 8), (true, 1006, .arr (.int .u32) 8), (true, 1008, .arr (.int .u32) 8), (true, 1016, .arr (.int .u32) 8), (true, 1001020, .row (.int .u32))], [⟨[(1003, 1003), (1006, 1006), (1001020, 1001020), (1008, 1008), (1016, 1016)], []⟩]⟩
def ref03IRoundsL1Z : List (Ex × Lay) := [(.exit 2, ⟨[(false, 3, .ptr 1003 []), (false, 6, .ptr 1006 []), (false, 7, .own 1001020 (.int .u32)), (false, 8, .ptr 1008 []), (false, 16, .ptr 1016 [])], [(false, 2, .isl false (.int .u32)), (false, 9, .int .i64), (false, 14, .int .u32), (false, 15, .int .u32), (true, 1003, .arr (.int .u32) 8), (true, 1006, .arr (.int .u32) 8), (true, 1008, .arr (.int .u32) 8), (true, 1016, .arr (.int .u32) 8), (true, 1001020, .row (.int .u32))], [⟨[(1003, 1003), (1006, 1006), (1001020, 1001020), (1008, 1008), (1016, 1016)], []⟩]⟩)]
def ref03IRoundsL1E : LEntry := mkL ref03IRoundsL1Y ref03IRoundsL1Z fun p => ref03IRoundsL1 p.1 p.2.1 p.2.2.1 p.2.2.2.1 p.2.2.2.2.1 p.2.2.2.2.2.1 p.2.2.2.2.2.2.1 p.2.2.2.2.2.2.2.1 p.2.2.2.2.2.2.2.2.1 p.2.2.2.2.2.2.2.2.2
def ref03IRoundsL0Y : Lay := ⟨[(false, 3, .ptr 1003 []), (false, 6, .ptr 1006 []), (false, 7, .own 1001020 (.int .u32)), (false, 8, .ptr 1008 [])], [(false, 2, .isl false (.int .u32)), (false, 9, .int .i64), (true, 1003, .arr (.int .u32) 8), (true, 1006, .arr (.int .u32) 8), (true, 1008, .arr (.int .u32) 8), (true, 1001020, .row (.int .u32))], [⟨[(1003, 1003), (1006, 1006), (1001020, 1001020), (1008, 1008)], []⟩]⟩
def ref03IRoundsL0Z : List (Ex × Lay) := [(.exit 0, ⟨[(false, 3, .ptr 1003 []), (false, 6, .ptr 1006 []), (false, 8, .ptr 1008 [])], [(true, 1003, .arr (.int .u32) 8), (true, 1006, .arr (.int .u32) 8), (true, 1008, .arr (.int .u32) 8)], [⟨[(1003, 1003), (1006, 1006), (1008, 1008)], []⟩]⟩)]
def ref03IRoundsL0E : LEntry := mkL ref03IRoundsL0Y ref03IRoundsL0Z fun p => ref03IRoundsL0 p.1 p.2.1 p.2.2.1 p.2.2.2.1 p.2.2.2.2.1 p.2.2.2.2.2
def ref03IRoundsL2Y : Lay := ⟨[(false, 3, .ptr 1003 []), (false, 6, .ptr 1006 []), (false, 8, .ptr 1008 [])], [(false, 18, .int .i64), (true, 1003, .arr (.int .u32) 8), (true, 1006, .arr (.int .u32) 8), (true, 1008, .arr (.int .u32) 8)], [⟨[(1003, 1003), (1006, 1006), (1008, 1008)], []⟩]⟩
def ref03IRoundsL2Z : List (Ex × Lay) := [(.exit 4, ⟨[(false, 6, .ptr 1006 []), (false, 8, .ptr 1008 [])], [(true, 1006, .arr (.int .u32) 8), (true, 1008, .arr (.int .u32) 8)], [⟨[(1006, 1006), (1008, 1008)], []⟩]⟩)]
def ref03IRoundsL2E : LEntry := mkL ref03IRoundsL2Y ref03IRoundsL2Z fun p => ref03IRoundsL2 p.1 p.2.1 p.2.2.1 p.2.2.2
def ref03IRoundsX : Cx := mkCx Tryz.prog 120 globsF [(134, ref03IWordsE), (135, ref03ITurnedE)] [(4, ref03IRoundsL0E), (14, ref03IRoundsL1E), (21, ref03IRoundsL2E)] []
theorem ref03IRoundsC : CxOk ref03IRoundsX (Glob globsF) := cx_ok (by kernel_rfl) (by kernel_rfl) ⟨ref03IWordsK, ref03ITurnedK, trivial⟩
theorem ref03IRoundsL1K (w0 : Ini) (hG : Glob globsF w0) : LoopOk ref03IRoundsX w0 (loopAt Tryz.f127 1) ref03IRoundsL1E :=
 loop_okH ref03IRoundsC hG (loopAt Tryz.f127 1) (lall_of lall_nil (by kernel_rfl : loopsOf (loopAt Tryz.f127 1) = _))
  ref03IRoundsL1Y ref03IRoundsL1Z (by kernel_rfl) (fun p => ref03IRoundsL1R p.1 p.2.1 p.2.2.1 p.2.2.2.1 p.2.2.2.2.1 p.2.2.2.2.2.1 p.2.2.2.2.2.2.1 p.2.2.2.2.2.2.2.1 p.2.2.2.2.2.2.2.2.1 p.2.2.2.2.2.2.2.2.2) (fun p => 1000) (fun p => by kernel_rfl) _ (fun p => ref03IRoundsL1_eq p.1 p.2.1 p.2.2.1 p.2.2.2.1 p.2.2.2.2.1 p.2.2.2.2.2.1 p.2.2.2.2.2.2.1 p.2.2.2.2.2.2.2.1 p.2.2.2.2.2.2.2.2.1 p.2.2.2.2.2.2.2.2.2)
theorem ref03IRoundsL0K (w0 : Ini) (hG : Glob globsF w0) : LoopOk ref03IRoundsX w0 (loopAt Tryz.f127 0) ref03IRoundsL0E :=
 loop_okH ref03IRoundsC hG (loopAt Tryz.f127 0) (lall_of (lall_cut (b := loopAt Tryz.f127 1) (ref03IRoundsL1K w0 hG) (by kernel_rfl) (lall_nil)) (by kernel_rfl : loopsOf (loopAt Tryz.f127 0) = _))
  ref03IRoundsL0Y ref03IRoundsL0Z (by kernel_rfl) (fun p => ref03IRoundsL0R p.1 p.2.1 p.2.2.1 p.2.2.2.1 p.2.2.2.2.1 p.2.2.2.2.2) (fun p => 1000) (fun p => by kernel_rfl) _ (fun p => ref03IRoundsL0_eq p.1 p.2.1 p.2.2.1 p.2.2.2.1 p.2.2.2.2.1 p.2.2.2.2.2)
theorem ref03IRoundsL2K (w0 : Ini) (hG : Glob globsF w0) : LoopOk ref03IRoundsX w0 (loopAt Tryz.f127 2) ref03IRoundsL2E :=
 loop_okH ref03IRoundsC hG (loopAt Tryz.f127 2) (lall_of lall_nil (by kernel_rfl : loopsOf (loopAt Tryz.f127 2) = _))
  ref03IRoundsL2Y ref03IRoundsL2Z (by kernel_rfl) (fun p => ref03IRoundsL2R p.1 p.2.1 p.2.2.1 p.2.2.2) (fun p => 1000) (fun p => by kernel_rfl) _ (fun p => ref03IRoundsL2_eq p.1 p.2.1 p.2.2.1 p.2.2.2)
theorem ref03IRoundsK : CallOk Tryz.prog (Glob globsF) 127 ref03IRoundsE :=
 fun_ok (cx := ref03IRoundsX) ref03IRoundsC (fn := Tryz.f127) Tryz.func127 (by kernel_rfl) Tryz.ntmps127 Tryz.call127 _ _ _ (by kernel_rfl) (by kernel_rfl) (by kernel_rfl)
  (fun w0 hG => lall_of (lall_cut (b := loopAt Tryz.f127 0) (ref03IRoundsL0K w0 hG) (by kernel_rfl) (lall_cut (b := loopAt Tryz.f127 1) (ref03IRoundsL1K w0 hG) (by kernel_rfl) (lall_cut (b := loopAt Tryz.f127 2) (ref03IRoundsL2K w0 hG) (by kernel_rfl) (lall_nil)))) (by kernel_rfl : loopsOf (bodyOf Tryz.f127) = _)) (fun p => Eq.trans (b := ref03IRoundsB p.1 p.2.1 p.2.2) (by kernel_rfl) (ref03IRounds_eq p.1 p.2.1 p.2.2).symm)
def ref03IDigestE : Entry := mkE [.isl false (.int .u8)] [.arr (.int .u8) 32] fun p => ref03IDigest p
def ref03IDigestL0Y : Lay := ⟨[(false, 2, .ptr 1002 []), (false, 5, .own 1001020 (.int .u8)), (false, 6, .own 1001021 (.int .u32)), (false, 7, .ptr 1007 [])], [(false, 8, .int .i64), (true, 1002, .arr (.int .u8) 32), (true, 1007, .arr (.int .u32) 8), (true, 1001020, .row (.int .u8)), (true, 1001021, .row (.int .u32))], [⟨[(1002, 1002), (1001020, 1001020), (1001021, 1001021), (1007, 1007)], []⟩]⟩
def ref03IDigestL0Z : List (Ex × Lay) := [(.exit 0, ⟨[(false, 2, .ptr 1002 []), (false, 7, .ptr 1007 [])], [(true, 1002, .arr (.int .u8) 32), (true, 1007, .arr (.int .u32) 8)], [⟨[(1002, 1002), (1007, 1007)], []⟩]⟩)]
def ref03IDigestL0E : LEntry := mkL ref03IDigestL0Y ref03IDigestL0Z fun p => ref03IDigestL0 p.1 p.2.1 p.2.2.1 p.2.2.2.1 p.2.2.2.2
def ref03IDigestL1Y : Lay := ⟨[(false, 2, .ptr 1002 []), (false, 7, .ptr 1007 []), (false, 9, .ptr 1009 [])], [(false, 10, .int .i64), (true, 1002, .arr (.int .u8) 32), (true, 1007, .arr (.int .u32) 8), (true, 1009, .arr (.int .u8) 32)], [⟨[(1002, 1002), (1007, 1007), (1009, 1009)], []⟩]⟩
def ref03IDigestL1Z : List (Ex × Lay) := [(.exit 2, ⟨[(false, 2, .ptr 1002 []), (false, 9, .ptr 1009 [])], [(true, 1002, .arr (.int .u8) 32), (true, 1009, .arr (.int .u8) 32)], [⟨[(1002, 1002), (1009, 1009)], []⟩]⟩)]
def ref03IDigestL1E : LEntry := mkL ref03IDigestL1Y ref03IDigestL1Z fun p => ref03IDigestL1 p.1 p.2.1 p.2.2.1 p.2.2.2
def ref03IDigestX : Cx := mkCx Tryz.prog 55 globsF [(102, ref03IJoinedE), (124, ref03PadE), (125, ref03RootsE), (126, ref03StartE), (127, ref03IRoundsE)] [(6, ref03IDigestL0E), (11, ref03IDigestL1E)] []
theorem ref03IDigestC : CxOk ref03IDigestX (Glob globsF) := cx_ok (by kernel_rfl) (by kernel_rfl) ⟨ref03IJoinedK, ref03PadK, ref03RootsK, ref03StartK, ref03IRoundsK, trivial⟩
theorem ref03IDigestL0K (w0 : Ini) (hG : Glob globsF w0) : LoopOk ref03IDigestX w0 (loopAt Tryz.f103 0) ref03IDigestL0E :=
 loop_okH ref03IDigestC hG (loopAt Tryz.f103 0) (lall_of lall_nil (by kernel_rfl : loopsOf (loopAt Tryz.f103 0) = _))
  ref03IDigestL0Y ref03IDigestL0Z (by kernel_rfl) (fun p => ref03IDigestL0R p.1 p.2.1 p.2.2.1 p.2.2.2.1 p.2.2.2.2) (fun p => 1000) (fun p => by kernel_rfl) _ (fun p => ref03IDigestL0_eq p.1 p.2.1 p.2.2.1 p.2.2.2.1 p.2.2.2.2)
theorem ref03IDigestL1K (w0 : Ini) (hG : Glob globsF w0) : LoopOk ref03IDigestX w0 (loopAt Tryz.f103 1) ref03IDigestL1E :=
 loop_okH ref03IDigestC hG (loopAt Tryz.f103 1) (lall_of lall_nil (by kernel_rfl : loopsOf (loopAt Tryz.f103 1) = _))
  ref03IDigestL1Y ref03IDigestL1Z (by kernel_rfl) (fun p => ref03IDigestL1R p.1 p.2.1 p.2.2.1 p.2.2.2) (fun p => 1000) (fun p => by kernel_rfl) _ (fun p => ref03IDigestL1_eq p.1 p.2.1 p.2.2.1 p.2.2.2)
theorem ref03IDigestK : CallOk Tryz.prog (Glob globsF) 103 ref03IDigestE :=
 fun_ok (cx := ref03IDigestX) ref03IDigestC (fn := Tryz.f103) Tryz.func103 (by kernel_rfl) Tryz.ntmps103 Tryz.call103 _ _ _ (by kernel_rfl) (by kernel_rfl) (by kernel_rfl)
  (fun w0 hG => lall_of (lall_cut (b := loopAt Tryz.f103 0) (ref03IDigestL0K w0 hG) (by kernel_rfl) (lall_cut (b := loopAt Tryz.f103 1) (ref03IDigestL1K w0 hG) (by kernel_rfl) (lall_nil))) (by kernel_rfl : loopsOf (bodyOf Tryz.f103) = _)) (fun p => Eq.trans (b := ref03IDigestB p) (by kernel_rfl) (ref03IDigest_eq p).symm)
def ref03IBytesOfI : Lay := ⟨[], [(false, 0, .arr (.int .u8) 32)], [⟨[], []⟩]⟩
def ref03IBytesOfO : Lay := ⟨[(false, 0, .own 1000 (.int .u8))], [(true, 1000, .row (.int .u8))], [⟨[(1000, 1016)], []⟩]⟩
def ref03IBytesOfE : Entry := mkB 1 1 0 [false] ref03IBytesOfI ref03IBytesOfO (fun p => ref03IBytesOf p)
def ref03IBytesOfL0Y : Lay := ⟨[(false, 1, .ptr 1001 []), (false, 3, .own 1016 (.int .u8))], [(false, 4, .int .i64), (true, 1001, .arr (.int .u8) 32), (true, 1016, .row (.int .u8))], [⟨[(1001, 1001)], [(false, 3, [], 1016)]⟩, ⟨[(1001, 1001), (1016, 1014)], []⟩]⟩
def ref03IBytesOfL0Z : List (Ex × Lay) := [(.exit 0, ⟨[(false, 3, .own 1016 (.int .u8))], [(true, 1016, .row (.int .u8))], [⟨[(1016, 1016)], []⟩]⟩)]
def ref03IBytesOfL0E : LEntry := mkL ref03IBytesOfL0Y ref03IBytesOfL0Z fun p => ref03IBytesOfL0 p.1 p.2.1 p.2.2
def ref03IBytesOfX : Cx := mkCx Tryz.prog 16 globsF [] [(3, ref03IBytesOfL0E)] []
theorem ref03IBytesOfC : CxOk ref03IBytesOfX (Glob globsF) := cx_ok (by kernel_rfl) (by kernel_rfl) trivial
theorem ref03IBytesOfL0K (w0 : Ini) (hG : Glob globsF w0) : LoopOk ref03IBytesOfX w0 (loopAt Tryz.f104 0) ref03IBytesOfL0E :=
 loop_okH ref03IBytesOfC hG (loopAt Tryz.f104 0) (lall_of lall_nil (by kernel_rfl : loopsOf (loopAt Tryz.f104 0) = _))
  ref03IBytesOfL0Y ref03IBytesOfL0Z (by kernel_rfl) (fun p => ref03IBytesOfL0R p.1 p.2.1 p.2.2) (fun p => 1000) (fun p => by kernel_rfl) _ (fun p => ref03IBytesOfL0_eq p.1 p.2.1 p.2.2)
theorem ref03IBytesOfK : CallOk Tryz.prog (Glob globsF) 104 ref03IBytesOfE :=
 fun_okB (cx := ref03IBytesOfX) ref03IBytesOfC (fn := Tryz.f104) Tryz.func104 (by kernel_rfl) Tryz.ntmps104 Tryz.call104 _ _ _ _ _ _ _ (by kernel_rfl) (by kernel_rfl) (by kernel_rfl)
  (fun w0 hG => lall_of (lall_cut (b := loopAt Tryz.f104 0) (ref03IBytesOfL0K w0 hG) (by kernel_rfl) (lall_nil)) (by kernel_rfl : loopsOf (bodyOf Tryz.f104) = _)) (fun p => Eq.trans (b := ref03IBytesOfB p) (by kernel_rfl) (ref03IBytesOf_eq p).symm)
def ref03HMACE : Entry := mkE [.isl false (.int .u8), .isl false .bytes] [.arr (.int .u8) 32] fun p => ref03HMAC p.1 p.2
def ref03HMACL0Y : Lay := ⟨[(false, 4, .ptr 1004 []), (false, 5, .own 1001021 (.int .u8))], [(false, 1, .isl false .bytes), (true, 1004, .arr (.int .u8) 32), (true, 1001021, .row (.int .u8))], [⟨[(1004, 1004), (1001021, 1001021)], []⟩, ⟨[(1004, 1004), (1001021, 1027)], []⟩, ⟨[(1004, 1004), (1001021, 1001014)], []⟩]⟩
def ref03HMACL0Z : List (Ex × Lay) := [(.exit 0, ⟨[(false, 4, .ptr 1004 []), (false, 5, .own 1001021 (.int .u8))], [(false, 1, .isl false .bytes), (true, 1004, .arr (.int .u8) 32), (true, 1001021, .row (.int .u8))], [⟨[(1004, 1004), (1001021, 1001021)], []⟩]⟩)]
def ref03HMACL0E : LEntry := mkL ref03HMACL0Y ref03HMACL0Z fun p => ref03HMACL0 p.1 p.2.1 p.2.2
def ref03HMACL1Y : Lay := ⟨[(false, 4, .ptr 1004 []), (false, 5, .own 1001021 (.int .u8)), (false, 7, .own 1061 (.int .u8)), (false, 8, .own 1062 (.int .u8))], [(false, 1, .isl false .bytes), (false, 9, .int .i64), (true, 1004, .arr (.int .u8) 32), (true, 1001021, .row (.int .u8)), (true, 1061, .row (.int .u8)), (true, 1062, .row (.int .u8))], [⟨[(1004, 1004), (1001021, 1001021)], [(false, 7, [], 1061), (false, 8, [], 1062)]⟩, ⟨[(1004, 1004), (1001021, 1001021), (1061, 1039), (1062, 1047)], []⟩]⟩
def ref03HMACL1Z : List (Ex × Lay) := [(.exit 2, ⟨[(false, 4, .ptr 1004 []), (false, 7, .own 1061 (.int .u8)), (false, 8, .own 1062 (.int .u8))], [(false, 1, .isl false .bytes), (true, 1004, .arr (.int .u8) 32), (true, 1061, .row (.int .u8)), (true, 1062, .row (.int .u8))], [⟨[(1004, 1004), (1061, 1061), (1062, 1062)], []⟩]⟩)]
def ref03HMACL1E : LEntry := mkL ref03HMACL1Y ref03HMACL1Z fun p => ref03HMACL1 p.1 p.2.1 p.2.2.1 p.2.2.2.1 p.2.2.2.2.1 p.2.2.2.2.2
def ref03HMACX : Cx := mkCx Tryz.prog 61 globsF [(102, ref03IJoinedE), (103, ref03IDigestE), (104, ref03IBytesOfE)] [(5, ref03HMACL0E), (10, ref03HMACL1E)] []
theorem ref03HMACC : CxOk ref03HMACX (Glob globsF) := cx_ok (by kernel_rfl) (by kernel_rfl) ⟨ref03IJoinedK, ref03IDigestK, ref03IBytesOfK, trivial⟩
theorem ref03HMACL0K (w0 : Ini) (hG : Glob globsF w0) : LoopOk ref03HMACX w0 (loopAt Tryz.f81 0) ref03HMACL0E :=
 loop_okH ref03HMACC hG (loopAt Tryz.f81 0) (lall_of lall_nil (by kernel_rfl : loopsOf (loopAt Tryz.f81 0) = _))
  ref03HMACL0Y ref03HMACL0Z (by kernel_rfl) (fun p => ref03HMACL0R p.1 p.2.1 p.2.2) (fun p => 1000) (fun p => by kernel_rfl) _ (fun p => ref03HMACL0_eq p.1 p.2.1 p.2.2)
theorem ref03HMACL1K (w0 : Ini) (hG : Glob globsF w0) : LoopOk ref03HMACX w0 (loopAt Tryz.f81 1) ref03HMACL1E :=
 loop_okH ref03HMACC hG (loopAt Tryz.f81 1) (lall_of lall_nil (by kernel_rfl : loopsOf (loopAt Tryz.f81 1) = _))
  ref03HMACL1Y ref03HMACL1Z (by kernel_rfl) (fun p => ref03HMACL1R p.1 p.2.1 p.2.2.1 p.2.2.2.1 p.2.2.2.2.1 p.2.2.2.2.2) (fun p => 1000) (fun p => by kernel_rfl) _ (fun p => ref03HMACL1_eq p.1 p.2.1 p.2.2.1 p.2.2.2.1 p.2.2.2.2.1 p.2.2.2.2.2)
theorem ref03HMACK : CallOk Tryz.prog (Glob globsF) 81 ref03HMACE :=
 fun_ok (cx := ref03HMACX) ref03HMACC (fn := Tryz.f81) Tryz.func81 (by kernel_rfl) Tryz.ntmps81 Tryz.call81 _ _ _ (by kernel_rfl) (by kernel_rfl) (by kernel_rfl)
  (fun w0 hG => lall_of (lall_cut (b := loopAt Tryz.f81 0) (ref03HMACL0K w0 hG) (by kernel_rfl) (lall_cut (b := loopAt Tryz.f81 1) (ref03HMACL1K w0 hG) (by kernel_rfl) (lall_nil))) (by kernel_rfl : loopsOf (bodyOf Tryz.f81) = _)) (fun p => Eq.trans (b := ref03HMACB p.1 p.2) (by kernel_rfl) (ref03HMAC_eq p.1 p.2).symm)
end Go.Sy
