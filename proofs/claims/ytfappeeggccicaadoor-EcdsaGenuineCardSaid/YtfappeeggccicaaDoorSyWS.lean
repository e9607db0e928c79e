/- The links: each typed function is what the code computes. Printed by a program. -/

import Derived.Test.YtfappeeggccicaaDoorSyVS

import Derived.Test.YtfappeeggccicaaDoorSyWE3

set_option linter.unusedVariables false

set_option maxRecDepth 100000

namespace Go.Sy

open Go Go.Proofs

def shaNewI : Lay := ⟨[], [], [⟨[], []⟩]⟩

def shaNewO : Lay := ⟨[(false, 0, .ptr 1000 [])], [(true, 1000, .st [.arr (.int .u32) 8, .own 1500 (.int .u8), .int .i64]), (true, 1500, .row (.int .u8))], [⟨[(1000, 1002)], [(true, 1000, [.fld 1 8], 1500)]⟩]⟩

noncomputable def shaNewE : Entry := mkB 0 1 0 [] shaNewI shaNewO (fun _ => shaNew)

noncomputable def shaNewX : Cx := mkCx Tryd.prog 3 globsF [] [] []

theorem shaNewC : CxOk shaNewX (Glob globsF) := cx_ok (by kernel_rfl) (by kernel_rfl) trivial

theorem shaNewK : CallOk Tryd.prog (Glob globsF) 126 shaNewE :=
  fun_okB (cx := shaNewX) shaNewC (fn := Tryd.f126) Tryd.func126 (by kernel_rfl) Tryd.ntmps126 Tryd.call126 _ _ _ _ _ _ _ (by kernel_rfl) (by kernel_rfl) (by kernel_rfl)
    (fun w0 hG => lall_of lall_nil (by kernel_rfl : loopsOf (bodyOf Tryd.f126) = _)) (fun p => Eq.trans (b := shaNewB ) (by kernel_rfl) (shaNew_eq ).symm)

def shaHasherNowI : Lay := ⟨[(false, 0, .ptr 0 [])], [(true, 0, .st [.arr (.int .u32) 8, .own 1 (.int .u8), .int .i64]), (true, 1, .row (.int .u8))], [⟨[(0, 0), (1, 1)], []⟩]⟩

def shaHasherNowO : Lay := ⟨[], [(false, 0, .arr (.int .u32) 8), (true, 0, .st [.arr (.int .u32) 8, .own 1 (.int .u8), .int .i64]), (true, 1, .row (.int .u8))], [⟨[(0, 0), (1, 1)], []⟩]⟩

noncomputable def shaHasherNowE : Entry := mkB 1 1 2 [true] shaHasherNowI shaHasherNowO (fun p => shaHasherNow p.1 p.2)

noncomputable def shaHasherNowX : Cx := mkCx Tryd.prog 13 globs0x2 [] [] []

theorem shaHasherNowC : CxOk shaHasherNowX (Glob globs0x2) := cx_ok (by kernel_rfl) (by kernel_rfl) trivial

theorem shaHasherNowK : CallOk Tryd.prog (Glob globs0x2) 141 shaHasherNowE :=
  fun_okB (cx := shaHasherNowX) shaHasherNowC (fn := Tryd.f141) Tryd.func141 (by kernel_rfl) Tryd.ntmps141 Tryd.call141 _ _ _ _ _ _ _ (by kernel_rfl) (by kernel_rfl) (by kernel_rfl)
    (fun w0 hG => lall_of lall_nil (by kernel_rfl : loopsOf (bodyOf Tryd.f141) = _)) (fun p => Eq.trans (b := shaHasherNowB p.1 p.2) (by kernel_rfl) (shaHasherNow_eq p.1 p.2).symm)

noncomputable def bitsRotateLeft32E : Entry := mkE [.int .u32, .int .i64] [.int .u32] fun p => bitsRotateLeft32 p.1 p.2

noncomputable def bitsRotateLeft32X : Cx := mkCx Tryd.prog 17 globsF [] [] []

theorem bitsRotateLeft32C : CxOk bitsRotateLeft32X (Glob globsF) := cx_ok (by kernel_rfl) (by kernel_rfl) trivial

theorem bitsRotateLeft32K : CallOk Tryd.prog (Glob globsF) 150 bitsRotateLeft32E :=
  fun_ok (cx := bitsRotateLeft32X) bitsRotateLeft32C (fn := Tryd.f150) Tryd.func150 (by kernel_rfl) Tryd.ntmps150 Tryd.call150 _ _ _ (by kernel_rfl) (by kernel_rfl) (by kernel_rfl)
    (fun w0 hG => lall_of lall_nil (by kernel_rfl : loopsOf (bodyOf Tryd.f150) = _)) (fun p => Eq.trans (b := bitsRotateLeft32B p.1 p.2) (by kernel_rfl) (bitsRotateLeft32_eq p.1 p.2).symm)

noncomputable def shaIWordsE : Entry := mkE [.isl false (.int .u8)] [.arr (.int .u32) 64] fun p => shaIWords p

def shaIWordsL1Y : Lay := ⟨[(false, 2, .ptr 1002 []), (false, 3, .ptr 1003 [])], [(false, 0, .isl false (.int .u8)), (false, 4, .int .i64), (false, 12, .int .i64), (false, 21, .isl false (.int .u8)), (false, 22, .int .i64), (false, 23, .int .i64), (true, 1002, .arr (.int .u32) 64), (true, 1003, .arr (.int .u32) 64)], [⟨[(1002, 1002), (1003, 1003)], []⟩]⟩

def shaIWordsL1Z : List (Ex × Lay) := [(.exit 2, ⟨[(false, 2, .ptr 1002 []), (false, 3, .ptr 1003 [])], [(false, 0, .isl false (.int .u8)), (false, 12, .int .i64), (true, 1002, .arr (.int .u32) 64), (true, 1003, .arr (.int .u32) 64)], [⟨[(1002, 1002), (1003, 1003)], []⟩]⟩)]

noncomputable def shaIWordsL1E : LEntry := mkL shaIWordsL1Y shaIWordsL1Z fun p => shaIWordsL1 p.1 p.2.1 p.2.2.1 p.2.2.2.1 p.2.2.2.2.1 p.2.2.2.2.2.1 p.2.2.2.2.2.2.1 p.2.2.2.2.2.2.2

def shaIWordsL0Y : Lay := ⟨[(false, 2, .ptr 1002 []), (false, 3, .ptr 1003 [])], [(false, 0, .isl false (.int .u8)), (false, 12, .int .i64), (true, 1002, .arr (.int .u32) 64), (true, 1003, .arr (.int .u32) 64)], [⟨[(1002, 1002), (1003, 1003)], []⟩]⟩

def shaIWordsL0Z : List (Ex × Lay) := [(.exit 0, ⟨[(false, 2, .ptr 1002 []), (false, 3, .ptr 1003 [])], [(true, 1002, .arr (.int .u32) 64), (true, 1003, .arr (.int .u32) 64)], [⟨[(1002, 1002), (1003, 1003)], []⟩]⟩)]

noncomputable def shaIWordsL0E : LEntry := mkL shaIWordsL0Y shaIWordsL0Z fun p => shaIWordsL0 p.1 p.2.1 p.2.2.1 p.2.2.2

def shaIWordsL2Y : Lay := ⟨[(false, 2, .ptr 1002 []), (false, 3, .ptr 1003 [])], [(false, 7, .int .i64), (true, 1002, .arr (.int .u32) 64), (true, 1003, .arr (.int .u32) 64)], [⟨[(1002, 1002), (1003, 1003)], []⟩]⟩

def shaIWordsL2Z : List (Ex × Lay) := [(.exit 4, ⟨[(false, 2, .ptr 1002 []), (false, 3, .ptr 1003 [])], [(true, 1002, .arr (.int .u32) 64), (true, 1003, .arr (.int .u32) 64)], [⟨[(1002, 1002), (1003, 1003)], []⟩]⟩)]

noncomputable def shaIWordsL2E : LEntry := mkL shaIWordsL2Y shaIWordsL2Z fun p => shaIWordsL2 p.1 p.2.1 p.2.2

noncomputable def shaIWordsX : Cx := mkCx Tryd.prog 82 globsF [(150, bitsRotateLeft32E)] [(3, shaIWordsL0E), (6, shaIWordsL1E), (12, shaIWordsL2E)] []

theorem shaIWordsC : CxOk shaIWordsX (Glob globsF) := cx_ok (by kernel_rfl) (by kernel_rfl) ⟨bitsRotateLeft32K, trivial⟩

theorem shaIWordsL1K (w0 : Ini) (hG : Glob globsF w0) : LoopOk shaIWordsX w0 (loopAt Tryd.f149 1) shaIWordsL1E :=
  loop_okH shaIWordsC hG (loopAt Tryd.f149 1) (lall_of lall_nil (by kernel_rfl : loopsOf (loopAt Tryd.f149 1) = _))
    shaIWordsL1Y shaIWordsL1Z (by kernel_rfl) (fun p => shaIWordsL1R p.1 p.2.1 p.2.2.1 p.2.2.2.1 p.2.2.2.2.1 p.2.2.2.2.2.1 p.2.2.2.2.2.2.1 p.2.2.2.2.2.2.2) (fun p => 1000) (fun p => by kernel_rfl) _ (fun p => shaIWordsL1_eq p.1 p.2.1 p.2.2.1 p.2.2.2.1 p.2.2.2.2.1 p.2.2.2.2.2.1 p.2.2.2.2.2.2.1 p.2.2.2.2.2.2.2)

theorem shaIWordsL0K (w0 : Ini) (hG : Glob globsF w0) : LoopOk shaIWordsX w0 (loopAt Tryd.f149 0) shaIWordsL0E :=
  loop_okH shaIWordsC hG (loopAt Tryd.f149 0) (lall_of (lall_cut (b := loopAt Tryd.f149 1) (shaIWordsL1K w0 hG) (by kernel_rfl) (lall_nil)) (by kernel_rfl : loopsOf (loopAt Tryd.f149 0) = _))
    shaIWordsL0Y shaIWordsL0Z (by kernel_rfl) (fun p => shaIWordsL0R p.1 p.2.1 p.2.2.1 p.2.2.2) (fun p => 1000) (fun p => by kernel_rfl) _ (fun p => shaIWordsL0_eq p.1 p.2.1 p.2.2.1 p.2.2.2)

theorem shaIWordsL2K (w0 : Ini) (hG : Glob globsF w0) : LoopOk shaIWordsX w0 (loopAt Tryd.f149 2) shaIWordsL2E :=
  loop_okH shaIWordsC hG (loopAt Tryd.f149 2) (lall_of lall_nil (by kernel_rfl : loopsOf (loopAt Tryd.f149 2) = _))
    shaIWordsL2Y shaIWordsL2Z (by kernel_rfl) (fun p => shaIWordsL2R p.1 p.2.1 p.2.2) (fun p => 1000) (fun p => by kernel_rfl) _ (fun p => shaIWordsL2_eq p.1 p.2.1 p.2.2)

theorem shaIWordsK : CallOk Tryd.prog (Glob globsF) 149 shaIWordsE :=
  fun_ok (cx := shaIWordsX) shaIWordsC (fn := Tryd.f149) Tryd.func149 (by kernel_rfl) Tryd.ntmps149 Tryd.call149 _ _ _ (by kernel_rfl) (by kernel_rfl) (by kernel_rfl)
    (fun w0 hG => lall_of (lall_cut (b := loopAt Tryd.f149 0) (shaIWordsL0K w0 hG) (by kernel_rfl) (lall_cut (b := loopAt Tryd.f149 1) (shaIWordsL1K w0 hG) (by kernel_rfl) (lall_cut (b := loopAt Tryd.f149 2) (shaIWordsL2K w0 hG) (by kernel_rfl) (lall_nil)))) (by kernel_rfl : loopsOf (bodyOf Tryd.f149) = _)) (fun p => Eq.trans (b := shaIWordsB p) (by kernel_rfl) (shaIWords_eq p).symm)

noncomputable def shaIBehindE : Entry := mkE [.arr (.int .u32) 8, .isl false (.int .u8)] [.arr (.int .u32) 8] fun p => shaIBehind p.1 p.2

def shaIBehindL0Y : Lay := ⟨[(false, 2, .ptr 1002 []), (false, 4, .ptr 1004 []), (false, 5, .ptr 1005 [])], [(false, 6, .int .u32), (false, 7, .int .u32), (false, 8, .int .u32), (false, 9, .int .u32), (false, 10, .int .u32), (false, 11, .int .u32), (false, 12, .int .u32), (false, 13, .int .u32), (false, 38, .arr (.int .u32) 64), (false, 39, .int .i64), (true, 1002, .arr (.int .u32) 8), (true, 1004, .arr (.int .u32) 8), (true, 1005, .arr (.int .u32) 64)], [⟨[(1002, 1002), (1004, 1004), (1005, 1005)], []⟩]⟩

def shaIBehindL0Z : List (Ex × Lay) := [(.exit 0, ⟨[(false, 2, .ptr 1002 []), (false, 4, .ptr 1004 [])], [(false, 6, .int .u32), (false, 7, .int .u32), (false, 8, .int .u32), (false, 9, .int .u32), (false, 10, .int .u32), (false, 11, .int .u32), (false, 12, .int .u32), (false, 13, .int .u32), (true, 1002, .arr (.int .u32) 8), (true, 1004, .arr (.int .u32) 8)], [⟨[(1002, 1002), (1004, 1004)], []⟩]⟩)]

noncomputable def shaIBehindL0E : LEntry := mkL shaIBehindL0Y shaIBehindL0Z fun p => shaIBehindL0 p.1 p.2.1 p.2.2.1 p.2.2.2.1 p.2.2.2.2.1 p.2.2.2.2.2.1 p.2.2.2.2.2.2.1 p.2.2.2.2.2.2.2.1 p.2.2.2.2.2.2.2.2.1 p.2.2.2.2.2.2.2.2.2.1 p.2.2.2.2.2.2.2.2.2.2.1 p.2.2.2.2.2.2.2.2.2.2.2.1 p.2.2.2.2.2.2.2.2.2.2.2.2

def shaIBehindL1Y : Lay := ⟨[(false, 2, .ptr 1002 []), (false, 4, .ptr 1004 [])], [(false, 109, .arr (.int .u32) 8), (false, 110, .int .i64), (true, 1002, .arr (.int .u32) 8), (true, 1004, .arr (.int .u32) 8)], [⟨[(1002, 1002), (1004, 1004)], []⟩]⟩

def shaIBehindL1Z : List (Ex × Lay) := [(.exit 2, ⟨[(false, 2, .ptr 1002 []), (false, 4, .ptr 1004 [])], [(true, 1002, .arr (.int .u32) 8), (true, 1004, .arr (.int .u32) 8)], [⟨[(1002, 1002), (1004, 1004)], []⟩]⟩)]

noncomputable def shaIBehindL1E : LEntry := mkL shaIBehindL1Y shaIBehindL1Z fun p => shaIBehindL1 p.1 p.2.1 p.2.2.1 p.2.2.2

noncomputable def shaIBehindX : Cx := mkCx Tryd.prog 122 globs0x3 [(149, shaIWordsE), (150, bitsRotateLeft32E)] [(4, shaIBehindL0E), (11, shaIBehindL1E)] []

theorem shaIBehindC : CxOk shaIBehindX (Glob globs0x3) := cx_ok (by kernel_rfl) (by kernel_rfl) ⟨(shaIWordsK.up globsF_globs0x3), (bitsRotateLeft32K.up globsF_globs0x3), trivial⟩

theorem shaIBehindL0K (w0 : Ini) (hG : Glob globs0x3 w0) : LoopOk shaIBehindX w0 (loopAt Tryd.f142 0) shaIBehindL0E :=
  loop_okH shaIBehindC hG (loopAt Tryd.f142 0) (lall_of lall_nil (by kernel_rfl : loopsOf (loopAt Tryd.f142 0) = _))
    shaIBehindL0Y shaIBehindL0Z (by kernel_rfl) (fun p => shaIBehindL0R p.1 p.2.1 p.2.2.1 p.2.2.2.1 p.2.2.2.2.1 p.2.2.2.2.2.1 p.2.2.2.2.2.2.1 p.2.2.2.2.2.2.2.1 p.2.2.2.2.2.2.2.2.1 p.2.2.2.2.2.2.2.2.2.1 p.2.2.2.2.2.2.2.2.2.2.1 p.2.2.2.2.2.2.2.2.2.2.2.1 p.2.2.2.2.2.2.2.2.2.2.2.2) (fun p => 1000) (fun p => by kernel_rfl) _ (fun p => shaIBehindL0_eq p.1 p.2.1 p.2.2.1 p.2.2.2.1 p.2.2.2.2.1 p.2.2.2.2.2.1 p.2.2.2.2.2.2.1 p.2.2.2.2.2.2.2.1 p.2.2.2.2.2.2.2.2.1 p.2.2.2.2.2.2.2.2.2.1 p.2.2.2.2.2.2.2.2.2.2.1 p.2.2.2.2.2.2.2.2.2.2.2.1 p.2.2.2.2.2.2.2.2.2.2.2.2)

theorem shaIBehindL1K (w0 : Ini) (hG : Glob globs0x3 w0) : LoopOk shaIBehindX w0 (loopAt Tryd.f142 1) shaIBehindL1E :=
  loop_okH shaIBehindC hG (loopAt Tryd.f142 1) (lall_of lall_nil (by kernel_rfl : loopsOf (loopAt Tryd.f142 1) = _))
    shaIBehindL1Y shaIBehindL1Z (by kernel_rfl) (fun p => shaIBehindL1R p.1 p.2.1 p.2.2.1 p.2.2.2) (fun p => 1000) (fun p => by kernel_rfl) _ (fun p => shaIBehindL1_eq p.1 p.2.1 p.2.2.1 p.2.2.2)

theorem shaIBehindK : CallOk Tryd.prog (Glob globs0x3) 142 shaIBehindE :=
  fun_ok (cx := shaIBehindX) shaIBehindC (fn := Tryd.f142) Tryd.func142 (by kernel_rfl) Tryd.ntmps142 Tryd.call142 _ _ _ (by kernel_rfl) (by kernel_rfl) (by kernel_rfl)
    (fun w0 hG => lall_of (lall_cut (b := loopAt Tryd.f142 0) (shaIBehindL0K w0 hG) (by kernel_rfl) (lall_cut (b := loopAt Tryd.f142 1) (shaIBehindL1K w0 hG) (by kernel_rfl) (lall_nil))) (by kernel_rfl : loopsOf (bodyOf Tryd.f142) = _)) (fun p => Eq.trans (b := shaIBehindB p.1 p.2) (by kernel_rfl) (shaIBehind_eq p.1 p.2).symm)

def shaHasherWriteI : Lay := ⟨[(false, 0, .ptr 0 [])], [(true, 0, .st [.arr (.int .u32) 8, .own 1 (.int .u8), .int .i64]), (true, 1, .row (.int .u8)), (false, 1, .isl false (.int .u8))], [⟨[(0, 0), (1, 1)], []⟩]⟩

def shaHasherWriteO : Lay := ⟨[], [(true, 0, .st [.arr (.int .u32) 8, .own 1000000000 (.int .u8), .int .i64]), (true, 1000000000, .row (.int .u8))], [⟨[(0, 0), (1000000000, 1000001067)], []⟩]⟩

noncomputable def shaHasherWriteE : Entry := mkB 2 0 2 [true, false] shaHasherWriteI shaHasherWriteO (fun p => shaHasherWrite p.1 p.2.1 p.2.2)

def shaHasherWriteL0Y : Lay := ⟨[(false, 0, .ptr 0 []), (false, 4, .ptr 1004 [])], [(false, 1, .isl false (.int .u8)), (true, 0, .st [.arr (.int .u32) 8, .own 1000002001 (.int .u8), .int .i64]), (true, 1000002001, .row (.int .u8)), (true, 1004, .arr (.int .u32) 8)], [⟨[(0, 0), (1004, 1004), (1000002001, 1)], []⟩, ⟨[(0, 0), (1004, 1004), (1000002001, 1000901033)], []⟩]⟩

def shaHasherWriteL0Z : List (Ex × Lay) := [(.exit 0, ⟨[(false, 0, .ptr 0 []), (false, 4, .ptr 1004 [])], [(false, 1, .isl false (.int .u8)), (true, 0, .st [.arr (.int .u32) 8, .own 1000002001 (.int .u8), .int .i64]), (true, 1004, .arr (.int .u32) 8), (true, 1000002001, .row (.int .u8))], [⟨[(0, 0), (1004, 1004), (1000002001, 1000002001)], []⟩]⟩)]

noncomputable def shaHasherWriteL0E : LEntry := mkL shaHasherWriteL0Y shaHasherWriteL0Z fun p => shaHasherWriteL0 p.1 p.2.1 p.2.2.1 p.2.2.2

noncomputable def shaHasherWriteX : Cx := mkCx Tryd.prog 83 globs0x2x3 [(141, shaHasherNowE), (142, shaIBehindE)] [(2, shaHasherWriteL0E)] [] [(7, [.cut 1000001033 1000901033])]

theorem shaHasherWriteC : CxOk shaHasherWriteX (Glob globs0x2x3) := cx_ok (by kernel_rfl) (by kernel_rfl) ⟨(shaHasherNowK.up globs0x2_globs0x2x3), (shaIBehindK.up globs0x3_globs0x2x3), trivial⟩

theorem shaHasherWriteL0K (w0 : Ini) (hG : Glob globs0x2x3 w0) : LoopOk shaHasherWriteX w0 (loopAt Tryd.f127 0) shaHasherWriteL0E :=
  loop_okH shaHasherWriteC hG (loopAt Tryd.f127 0) (lall_of lall_nil (by kernel_rfl : loopsOf (loopAt Tryd.f127 0) = _))
    shaHasherWriteL0Y shaHasherWriteL0Z (by kernel_rfl) (fun p => shaHasherWriteL0R p.1 p.2.1 p.2.2.1 p.2.2.2) (fun p => bigFuel) (fun p => by kernel_rfl) _ (fun p => shaHasherWriteL0_eq p.1 p.2.1 p.2.2.1 p.2.2.2)

theorem shaHasherWriteK : CallOk Tryd.prog (Glob globs0x2x3) 127 shaHasherWriteE :=
  fun_okB (cx := shaHasherWriteX) shaHasherWriteC (fn := Tryd.f127) Tryd.func127 (by kernel_rfl) Tryd.ntmps127 Tryd.call127 _ _ _ _ _ _ _ (by kernel_rfl) (by kernel_rfl) (by kernel_rfl)
    (fun w0 hG => lall_of (lall_cut (b := loopAt Tryd.f127 0) (shaHasherWriteL0K w0 hG) (by kernel_rfl) (lall_nil)) (by kernel_rfl : loopsOf (bodyOf Tryd.f127) = _)) (fun p => Eq.trans (b := shaHasherWriteB p.1 p.2.1 p.2.2) (by kernel_rfl) (shaHasherWrite_eq p.1 p.2.1 p.2.2).symm)

def shaPadI : Lay := ⟨[], [(false, 0, .int .i64)], [⟨[], []⟩]⟩

def shaPadO : Lay := ⟨[(false, 0, .own 1000 (.int .u8))], [(false, 1, .int .i64), (true, 1000, .row (.int .u8))], [⟨[], [(false, 0, [], 1000)]⟩, ⟨[(1000, 1018)], []⟩]⟩

noncomputable def shaPadE : Entry := mkB 1 2 0 [false] shaPadI shaPadO (fun p => shaPad p)

def shaPadL0Y : Lay := ⟨[(false, 5, .own 1018 (.int .u8))], [(false, 6, .int .u64), (false, 24, .int .i64), (true, 1018, .row (.int .u8))], [⟨[(1018, 1018)], []⟩]⟩

def shaPadL0Z : List (Ex × Lay) := [(.exit 0, ⟨[(false, 5, .own 1018 (.int .u8))], [(true, 1018, .row (.int .u8))], [⟨[(1018, 1018)], []⟩]⟩)]

noncomputable def shaPadL0E : LEntry := mkL shaPadL0Y shaPadL0Z fun p => shaPadL0 p.1 p.2.1 p.2.2

noncomputable def shaPadX : Cx := mkCx Tryd.prog 41 globsF [] [(8, shaPadL0E)] []

theorem shaPadC : CxOk shaPadX (Glob globsF) := cx_ok (by kernel_rfl) (by kernel_rfl) trivial

theorem shaPadL0K (w0 : Ini) (hG : Glob globsF w0) : LoopOk shaPadX w0 (loopAt Tryd.f143 0) shaPadL0E :=
  loop_okH shaPadC hG (loopAt Tryd.f143 0) (lall_of lall_nil (by kernel_rfl : loopsOf (loopAt Tryd.f143 0) = _))
    shaPadL0Y shaPadL0Z (by kernel_rfl) (fun p => shaPadL0R p.1 p.2.1 p.2.2) (fun p => 1000) (fun p => by kernel_rfl) _ (fun p => shaPadL0_eq p.1 p.2.1 p.2.2)

theorem shaPadK : CallOk Tryd.prog (Glob globsF) 143 shaPadE :=
  fun_okB (cx := shaPadX) shaPadC (fn := Tryd.f143) Tryd.func143 (by kernel_rfl) Tryd.ntmps143 Tryd.call143 _ _ _ _ _ _ _ (by kernel_rfl) (by kernel_rfl) (by kernel_rfl)
    (fun w0 hG => lall_of (lall_cut (b := loopAt Tryd.f143 0) (shaPadL0K w0 hG) (by kernel_rfl) (lall_nil)) (by kernel_rfl : loopsOf (bodyOf Tryd.f143) = _)) (fun p => Eq.trans (b := shaPadB p) (by kernel_rfl) (shaPad_eq p).symm)

def shaHasherSumI : Lay := ⟨[(false, 0, .ptr 0 [])], [(true, 0, .st [.arr (.int .u32) 8, .own 1 (.int .u8), .int .i64]), (true, 1, .row (.int .u8))], [⟨[(0, 0), (1, 1)], []⟩]⟩

def shaHasherSumO : Lay := ⟨[], [(false, 0, .arr (.int .u8) 32)], [⟨[], []⟩]⟩

noncomputable def shaHasherSumE : Entry := mkB 1 1 2 [true] shaHasherSumI shaHasherSumO (fun p => shaHasherSum p.1 p.2)

def shaHasherSumL0Y : Lay := ⟨[(false, 2, .ptr 1002 []), (false, 3, .ptr 1003 [])], [(false, 6, .isl true (.int .u8)), (true, 1002, .arr (.int .u8) 32), (true, 1003, .arr (.int .u32) 8)], [⟨[(1002, 1002), (1003, 1003)], []⟩]⟩

def shaHasherSumL0Z : List (Ex × Lay) := [(.exit 0, ⟨[(false, 2, .ptr 1002 []), (false, 3, .ptr 1003 [])], [(true, 1002, .arr (.int .u8) 32), (true, 1003, .arr (.int .u32) 8)], [⟨[(1002, 1002), (1003, 1003)], []⟩]⟩)]

noncomputable def shaHasherSumL0E : LEntry := mkL shaHasherSumL0Y shaHasherSumL0Z fun p => shaHasherSumL0 p.1 p.2.1 p.2.2

noncomputable def shaHasherSumX : Cx := mkCx Tryd.prog 62 globs0x2x3 [(141, shaHasherNowE), (142, shaIBehindE), (143, shaPadE)] [(6, shaHasherSumL0E)] [] [(1000006, [.ice 1030])]

theorem shaHasherSumC : CxOk shaHasherSumX (Glob globs0x2x3) := cx_ok (by kernel_rfl) (by kernel_rfl) ⟨(shaHasherNowK.up globs0x2_globs0x2x3), (shaIBehindK.up globs0x3_globs0x2x3), (shaPadK.up globsF_globs0x2x3), trivial⟩

theorem shaHasherSumL0K (w0 : Ini) (hG : Glob globs0x2x3 w0) : LoopOk shaHasherSumX w0 (loopAt Tryd.f128 0) shaHasherSumL0E :=
  loop_okH shaHasherSumC hG (loopAt Tryd.f128 0) (lall_of lall_nil (by kernel_rfl : loopsOf (loopAt Tryd.f128 0) = _))
    shaHasherSumL0Y shaHasherSumL0Z (by kernel_rfl) (fun p => shaHasherSumL0R p.1 p.2.1 p.2.2) (fun p => bigFuel) (fun p => by kernel_rfl) _ (fun p => shaHasherSumL0_eq p.1 p.2.1 p.2.2)

theorem shaHasherSumK : CallOk Tryd.prog (Glob globs0x2x3) 128 shaHasherSumE :=
  fun_okB (cx := shaHasherSumX) shaHasherSumC (fn := Tryd.f128) Tryd.func128 (by kernel_rfl) Tryd.ntmps128 Tryd.call128 _ _ _ _ _ _ _ (by kernel_rfl) (by kernel_rfl) (by kernel_rfl)
    (fun w0 hG => lall_of (lall_cut (b := loopAt Tryd.f128 0) (shaHasherSumL0K w0 hG) (by kernel_rfl) (lall_free (b := loopAt Tryd.f128 1) (by kernel_rfl) (lall_free (b := loopAt Tryd.f128 2) (by kernel_rfl) (lall_nil)))) (by kernel_rfl : loopsOf (bodyOf Tryd.f128) = _)) (fun p => Eq.trans (b := shaHasherSumB p.1 p.2) (by kernel_rfl) (shaHasherSum_eq p.1 p.2).symm)

noncomputable def shaSumE : Entry := mkE [.isl false .bytes] [.arr (.int .u8) 32] fun p => shaSum p

def shaSumL0Y : Lay := ⟨[(false, 2, .ptr 1002 []), (false, 3, .ptr 1001006 [])], [(false, 7, .isl false .bytes), (false, 8, .int .i64), (false, 9, .int .i64), (true, 1002, .arr (.int .u8) 32), (true, 1001006, .st [.arr (.int .u32) 8, .own 1000003000 (.int .u8), .int .i64]), (true, 1000003000, .row (.int .u8))], [⟨[(1002, 1002), (1001006, 1001006), (1000003000, 1501006)], []⟩, ⟨[(1002, 1002), (1001006, 1001006), (1000003000, 999999999015)], []⟩]⟩

def shaSumL0Z : List (Ex × Lay) := [(.exit 0, ⟨[(false, 2, .ptr 1002 []), (false, 3, .ptr 1001006 [])], [(true, 1002, .arr (.int .u8) 32), (true, 1001006, .st [.arr (.int .u32) 8, .own 1000003000 (.int .u8), .int .i64]), (true, 1000003000, .row (.int .u8))], [⟨[(1002, 1002), (1001006, 1001006), (1000003000, 1000003000)], []⟩]⟩)]

noncomputable def shaSumL0E : LEntry := mkL shaSumL0Y shaSumL0Z fun p => shaSumL0 p.1 p.2.1 p.2.2.1 p.2.2.2.1 p.2.2.2.2.1 p.2.2.2.2.2

noncomputable def shaSumX : Cx := mkCx Tryd.prog 19 globs0x2x3 [(126, shaNewE), (127, shaHasherWriteE), (128, shaHasherSumE)] [(3, shaSumL0E)] []

theorem shaSumC : CxOk shaSumX (Glob globs0x2x3) := cx_ok (by kernel_rfl) (by kernel_rfl) ⟨(shaNewK.up globsF_globs0x2x3), shaHasherWriteK, shaHasherSumK, trivial⟩

theorem shaSumL0K (w0 : Ini) (hG : Glob globs0x2x3 w0) : LoopOk shaSumX w0 (loopAt Tryd.f125 0) shaSumL0E :=
  loop_okH shaSumC hG (loopAt Tryd.f125 0) (lall_of lall_nil (by kernel_rfl : loopsOf (loopAt Tryd.f125 0) = _))
    shaSumL0Y shaSumL0Z (by kernel_rfl) (fun p => shaSumL0R p.1 p.2.1 p.2.2.1 p.2.2.2.1 p.2.2.2.2.1 p.2.2.2.2.2) (fun p => bigFuel) (fun p => by kernel_rfl) _ (fun p => shaSumL0_eq p.1 p.2.1 p.2.2.1 p.2.2.2.1 p.2.2.2.2.1 p.2.2.2.2.2)

theorem shaSumK : CallOk Tryd.prog (Glob globs0x2x3) 125 shaSumE :=
  fun_ok (cx := shaSumX) shaSumC (fn := Tryd.f125) Tryd.func125 (by kernel_rfl) Tryd.ntmps125 Tryd.call125 _ _ _ (by kernel_rfl) (by kernel_rfl) (by kernel_rfl)
    (fun w0 hG => lall_of (lall_cut (b := loopAt Tryd.f125 0) (shaSumL0K w0 hG) (by kernel_rfl) (lall_nil)) (by kernel_rfl : loopsOf (bodyOf Tryd.f125) = _)) (fun p => Eq.trans (b := shaSumB p) (by kernel_rfl) (shaSum_eq p).symm)

noncomputable def shaHMACE : Entry := mkE [.isl false (.int .u8), .isl false .bytes] [.arr (.int .u8) 32] fun p => shaHMAC p.1 p.2

def shaHMACL0Y : Lay := ⟨[(false, 4, .ptr 1004 []), (false, 7, .ptr 1007 []), (false, 8, .ptr 1008 [])], [(false, 1, .isl false .bytes), (false, 28, .int .i64), (true, 1004, .arr (.int .u8) 32), (true, 1007, .arr (.int .u8) 64), (true, 1008, .arr (.int .u8) 64)], [⟨[(1004, 1004), (1007, 1007), (1008, 1008)], []⟩]⟩

def shaHMACL0Z : List (Ex × Lay) := [(.exit 0, ⟨[(false, 4, .ptr 1004 []), (false, 7, .ptr 1007 []), (false, 8, .ptr 1008 [])], [(false, 1, .isl false .bytes), (true, 1004, .arr (.int .u8) 32), (true, 1007, .arr (.int .u8) 64), (true, 1008, .arr (.int .u8) 64)], [⟨[(1004, 1004), (1007, 1007), (1008, 1008)], []⟩]⟩)]

noncomputable def shaHMACL0E : LEntry := mkL shaHMACL0Y shaHMACL0Z fun p => shaHMACL0 p.1 p.2.1 p.2.2.1 p.2.2.2.1 p.2.2.2.2

def shaHMACL1Y : Lay := ⟨[(false, 4, .ptr 1004 []), (false, 8, .ptr 1008 []), (false, 10, .ptr 1001042 [])], [(false, 46, .isl false .bytes), (false, 47, .int .i64), (false, 48, .int .i64), (true, 1004, .arr (.int .u8) 32), (true, 1008, .arr (.int .u8) 64), (true, 1001042, .st [.arr (.int .u32) 8, .own 999999999045 (.int .u8), .int .i64]), (true, 999999999045, .row (.int .u8))], [⟨[(1004, 1004), (1008, 1008), (1001042, 1001042), (999999999045, 999999999045)], []⟩, ⟨[(1004, 1004), (1008, 1008), (1001042, 1001042), (999999999045, 999999999054)], []⟩]⟩

def shaHMACL1Z : List (Ex × Lay) := [(.exit 2, ⟨[(false, 4, .ptr 1004 []), (false, 8, .ptr 1008 []), (false, 10, .ptr 1001042 [])], [(true, 1004, .arr (.int .u8) 32), (true, 1008, .arr (.int .u8) 64), (true, 1001042, .st [.arr (.int .u32) 8, .own 999999999045 (.int .u8), .int .i64]), (true, 999999999045, .row (.int .u8))], [⟨[(1004, 1004), (1008, 1008), (1001042, 1001042), (999999999045, 999999999045)], []⟩]⟩)]

noncomputable def shaHMACL1E : LEntry := mkL shaHMACL1Y shaHMACL1Z fun p => shaHMACL1 p.1 p.2.1 p.2.2.1 p.2.2.2.1 p.2.2.2.2.1 p.2.2.2.2.2.1 p.2.2.2.2.2.2

noncomputable def shaHMACX : Cx := mkCx Tryd.prog 62 globs0x2x3 [(125, shaSumE), (126, shaNewE), (127, shaHasherWriteE), (128, shaHasherSumE)] [(8, shaHMACL0E), (16, shaHMACL1E)] []

theorem shaHMACC : CxOk shaHMACX (Glob globs0x2x3) := cx_ok (by kernel_rfl) (by kernel_rfl) ⟨shaSumK, (shaNewK.up globsF_globs0x2x3), shaHasherWriteK, shaHasherSumK, trivial⟩

theorem shaHMACL0K (w0 : Ini) (hG : Glob globs0x2x3 w0) : LoopOk shaHMACX w0 (loopAt Tryd.f90 0) shaHMACL0E :=
  loop_okH shaHMACC hG (loopAt Tryd.f90 0) (lall_of lall_nil (by kernel_rfl : loopsOf (loopAt Tryd.f90 0) = _))
    shaHMACL0Y shaHMACL0Z (by kernel_rfl) (fun p => shaHMACL0R p.1 p.2.1 p.2.2.1 p.2.2.2.1 p.2.2.2.2) (fun p => 1000) (fun p => by kernel_rfl) _ (fun p => shaHMACL0_eq p.1 p.2.1 p.2.2.1 p.2.2.2.1 p.2.2.2.2)

theorem shaHMACL1K (w0 : Ini) (hG : Glob globs0x2x3 w0) : LoopOk shaHMACX w0 (loopAt Tryd.f90 1) shaHMACL1E :=
  loop_okH shaHMACC hG (loopAt Tryd.f90 1) (lall_of lall_nil (by kernel_rfl : loopsOf (loopAt Tryd.f90 1) = _))
    shaHMACL1Y shaHMACL1Z (by kernel_rfl) (fun p => shaHMACL1R p.1 p.2.1 p.2.2.1 p.2.2.2.1 p.2.2.2.2.1 p.2.2.2.2.2.1 p.2.2.2.2.2.2) (fun p => 1000) (fun p => by kernel_rfl) _ (fun p => shaHMACL1_eq p.1 p.2.1 p.2.2.1 p.2.2.2.1 p.2.2.2.2.1 p.2.2.2.2.2.1 p.2.2.2.2.2.2)

theorem shaHMACK : CallOk Tryd.prog (Glob globs0x2x3) 90 shaHMACE :=
  fun_ok (cx := shaHMACX) shaHMACC (fn := Tryd.f90) Tryd.func90 (by kernel_rfl) Tryd.ntmps90 Tryd.call90 _ _ _ (by kernel_rfl) (by kernel_rfl) (by kernel_rfl)
    (fun w0 hG => lall_of (lall_cut (b := loopAt Tryd.f90 0) (shaHMACL0K w0 hG) (by kernel_rfl) (lall_cut (b := loopAt Tryd.f90 1) (shaHMACL1K w0 hG) (by kernel_rfl) (lall_nil))) (by kernel_rfl : loopsOf (bodyOf Tryd.f90) = _)) (fun p => Eq.trans (b := shaHMACB p.1 p.2) (by kernel_rfl) (shaHMAC_eq p.1 p.2).symm)

end Go.Sy
