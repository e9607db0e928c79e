/- The links: each typed function is what the code computes. Printed by a program. -/

import Derived.Test.YtfappeeggccicaaDoorSyVT

import Derived.Test.YtfappeeggccicaaDoorSyKf

import Derived.Test.YtfappeeggccicaaDoorProg

set_option linter.unusedVariables false

set_option maxRecDepth 100000

namespace Go.Sy

open Go Go.Proofs

def globs0x2 : List (Nat × AV) := [(0, .arr .u2 2 fieldModuli), (2, .arr (.int .u32) 8 shaStartT)]

def globs0x2x3 : List (Nat × AV) := [(0, .arr .u2 2 fieldModuli), (2, .arr (.int .u32) 8 shaStartT), (3, .arr (.int .u32) 64 shaConstsT)]

def globs0x3 : List (Nat × AV) := [(0, .arr .u2 2 fieldModuli), (3, .arr (.int .u32) 64 shaConstsT)]

def globsF : List (Nat × AV) := [(0, .arr .u2 2 fieldModuli)]

theorem globs0x2_globs0x2x3 : ∀ x ∈ globs0x2, x ∈ globs0x2x3 := by intro x hx; simp only [globs0x2, globs0x2x3, List.mem_cons, List.not_mem_nil, or_false] at hx ⊢; rcases hx with h | h <;> simp [h]

theorem globs0x3_globs0x2x3 : ∀ x ∈ globs0x3, x ∈ globs0x2x3 := by intro x hx; simp only [globs0x3, globs0x2x3, List.mem_cons, List.not_mem_nil, or_false] at hx ⊢; rcases hx with h | h <;> simp [h]

theorem globsF_globs0x2x3 : ∀ x ∈ globsF, x ∈ globs0x2x3 := by intro x hx; simp only [globsF, globs0x2x3, List.mem_cons, List.not_mem_nil, or_false] at hx ⊢; simp [hx]

theorem globsF_globs0x3 : ∀ x ∈ globsF, x ∈ globs0x3 := by intro x hx; simp only [globsF, globs0x3, List.mem_cons, List.not_mem_nil, or_false] at hx ⊢; simp [hx]

theorem bitsAdd64K : CallOk Tryd.prog (Glob globsF) 116 bitsAdd64E := bitsAdd64_ok (fn := Tryd.f116) Tryd.func116 (by kernel_rfl) (by kernel_rfl) (by kernel_rfl) (by kernel_rfl)

theorem bitsSub64K : CallOk Tryd.prog (Glob globsF) 117 bitsSub64E := bitsSub64_ok (fn := Tryd.f117) Tryd.func117 (by kernel_rfl) (by kernel_rfl) (by kernel_rfl) (by kernel_rfl)

noncomputable def fieldIOfE : Entry := mkE [.int .i64] [.st [.u256, .u256], .int .i64] fun p => fieldIOf p

noncomputable def fieldIOfX : Cx := mkCx Tryd.prog 14 globsF [] [] []

theorem fieldIOfC : CxOk fieldIOfX (Glob globsF) := cx_ok (by kernel_rfl) (by kernel_rfl) trivial

theorem fieldIOfK : CallOk Tryd.prog (Glob globsF) 47 fieldIOfE :=
  fun_ok (cx := fieldIOfX) fieldIOfC (fn := Tryd.f47) Tryd.func47 (by kernel_rfl) Tryd.ntmps47 Tryd.call47 _ _ _ (by kernel_rfl) (by kernel_rfl) (by kernel_rfl)
    (fun w0 hG => lall_of lall_nil (by kernel_rfl : loopsOf (bodyOf Tryd.f47) = _)) (fun p => Eq.trans (b := fieldIOfB p) (by kernel_rfl) (fieldIOf_eq p).symm)

noncomputable def fieldModulusE : Entry := mkE [.int .i64] [.u256, .int .i64] fun p => fieldModulus p

noncomputable def fieldModulusX : Cx := mkCx Tryd.prog 14 globsF [(47, fieldIOfE)] [] []

theorem fieldModulusC : CxOk fieldModulusX (Glob globsF) := cx_ok (by kernel_rfl) (by kernel_rfl) ⟨fieldIOfK, trivial⟩

theorem fieldModulusK : CallOk Tryd.prog (Glob globsF) 58 fieldModulusE :=
  fun_ok (cx := fieldModulusX) fieldModulusC (fn := Tryd.f58) Tryd.func58 (by kernel_rfl) Tryd.ntmps58 Tryd.call58 _ _ _ (by kernel_rfl) (by kernel_rfl) (by kernel_rfl)
    (fun w0 hG => lall_of lall_nil (by kernel_rfl : loopsOf (bodyOf Tryd.f58) = _)) (fun p => Eq.trans (b := fieldModulusB p) (by kernel_rfl) (fieldModulus_eq p).symm)

noncomputable def u256AddE : Entry := mkE [.u256, .u256] [.u256, .int .u64] fun p => u256Add p.1 p.2

noncomputable def u256AddX : Cx := mkCx Tryd.prog 28 globsF [(116, bitsAdd64E)] [] []

theorem u256AddC : CxOk u256AddX (Glob globsF) := cx_ok (by kernel_rfl) (by kernel_rfl) ⟨bitsAdd64K, trivial⟩

theorem u256AddK : CallOk Tryd.prog (Glob globsF) 114 u256AddE :=
  fun_ok (cx := u256AddX) u256AddC (fn := Tryd.f114) Tryd.func114 (by kernel_rfl) Tryd.ntmps114 Tryd.call114 _ _ _ (by kernel_rfl) (by kernel_rfl) (by kernel_rfl)
    (fun w0 hG => lall_of (lall_free (b := loopAt Tryd.f114 0) (by kernel_rfl) (lall_nil)) (by kernel_rfl : loopsOf (bodyOf Tryd.f114) = _)) (fun p => Eq.trans (b := u256AddB p.1 p.2) (by kernel_rfl) (u256Add_eq p.1 p.2).symm)

noncomputable def u256FromE : Entry := mkE [.int .u64] [.u256] fun p => u256From p

noncomputable def u256FromX : Cx := mkCx Tryd.prog 5 globsF [] [] []

theorem u256FromC : CxOk u256FromX (Glob globsF) := cx_ok (by kernel_rfl) (by kernel_rfl) trivial

theorem u256FromK : CallOk Tryd.prog (Glob globsF) 48 u256FromE :=
  fun_ok (cx := u256FromX) u256FromC (fn := Tryd.f48) Tryd.func48 (by kernel_rfl) Tryd.ntmps48 Tryd.call48 _ _ _ (by kernel_rfl) (by kernel_rfl) (by kernel_rfl)
    (fun w0 hG => lall_of lall_nil (by kernel_rfl : loopsOf (bodyOf Tryd.f48) = _)) (fun p => Eq.trans (b := u256FromB p) (by kernel_rfl) (u256From_eq p).symm)

noncomputable def bitsMul64E : Entry := mkE [.int .u64, .int .u64] [.int .u64, .int .u64] fun p => bitsMul64 p.1 p.2

noncomputable def bitsMul64X : Cx := mkCx Tryd.prog 51 globsF [] [] []

theorem bitsMul64C : CxOk bitsMul64X (Glob globsF) := cx_ok (by kernel_rfl) (by kernel_rfl) trivial

theorem bitsMul64K : CallOk Tryd.prog (Glob globsF) 115 bitsMul64E :=
  fun_ok (cx := bitsMul64X) bitsMul64C (fn := Tryd.f115) Tryd.func115 (by kernel_rfl) Tryd.ntmps115 Tryd.call115 _ _ _ (by kernel_rfl) (by kernel_rfl) (by kernel_rfl)
    (fun w0 hG => lall_of lall_nil (by kernel_rfl : loopsOf (bodyOf Tryd.f115) = _)) (fun p => Eq.trans (b := bitsMul64B p.1 p.2) (by kernel_rfl) (bitsMul64_eq p.1 p.2).symm)

noncomputable def u256MulE : Entry := mkE [.u256, .u256] [.u256, .u256] fun p => u256Mul p.1 p.2

def u256MulL1Y : Lay := ⟨[(false, 2, .ptr 1002 []), (false, 3, .ptr 1003 []), (false, 4, .ptr 1004 []), (false, 5, .ptr 1005 []), (false, 6, .ptr 1006 [])], [(false, 7, .int .i64), (false, 8, .int .u64), (false, 13, .int .i64), (false, 16, .int .i64), (true, 1002, .u256), (true, 1003, .u256), (true, 1004, .u256), (true, 1005, .u256), (true, 1006, .arr (.int .u64) 8)], [⟨[(1002, 1002), (1003, 1003), (1004, 1004), (1005, 1005), (1006, 1006)], []⟩]⟩

def u256MulL1Z : List (Ex × Lay) := [(.exit 2, ⟨[(false, 2, .ptr 1002 []), (false, 3, .ptr 1003 []), (false, 4, .ptr 1004 []), (false, 5, .ptr 1005 []), (false, 6, .ptr 1006 [])], [(false, 7, .int .i64), (false, 8, .int .u64), (false, 13, .int .i64), (true, 1002, .u256), (true, 1003, .u256), (true, 1004, .u256), (true, 1005, .u256), (true, 1006, .arr (.int .u64) 8)], [⟨[(1002, 1002), (1003, 1003), (1004, 1004), (1005, 1005), (1006, 1006)], []⟩]⟩)]

noncomputable def u256MulL1E : LEntry := mkL u256MulL1Y u256MulL1Z fun p => u256MulL1 p.1 p.2.1 p.2.2.1 p.2.2.2.1 p.2.2.2.2.1 p.2.2.2.2.2.1 p.2.2.2.2.2.2.1 p.2.2.2.2.2.2.2.1 p.2.2.2.2.2.2.2.2

def u256MulL0Y : Lay := ⟨[(false, 2, .ptr 1002 []), (false, 3, .ptr 1003 []), (false, 4, .ptr 1004 []), (false, 5, .ptr 1005 []), (false, 6, .ptr 1006 [])], [(false, 13, .int .i64), (true, 1002, .u256), (true, 1003, .u256), (true, 1004, .u256), (true, 1005, .u256), (true, 1006, .arr (.int .u64) 8)], [⟨[(1002, 1002), (1003, 1003), (1004, 1004), (1005, 1005), (1006, 1006)], []⟩]⟩

def u256MulL0Z : List (Ex × Lay) := [(.exit 0, ⟨[(false, 4, .ptr 1004 []), (false, 5, .ptr 1005 []), (false, 6, .ptr 1006 [])], [(true, 1004, .u256), (true, 1005, .u256), (true, 1006, .arr (.int .u64) 8)], [⟨[(1004, 1004), (1005, 1005), (1006, 1006)], []⟩]⟩)]

noncomputable def u256MulL0E : LEntry := mkL u256MulL0Y u256MulL0Z fun p => u256MulL0 p.1 p.2.1 p.2.2.1 p.2.2.2.1 p.2.2.2.2.1 p.2.2.2.2.2

noncomputable def u256MulX : Cx := mkCx Tryd.prog 70 globsF [(115, bitsMul64E), (116, bitsAdd64E)] [(3, u256MulL0E), (7, u256MulL1E)] []

theorem u256MulC : CxOk u256MulX (Glob globsF) := cx_ok (by kernel_rfl) (by kernel_rfl) ⟨bitsMul64K, bitsAdd64K, trivial⟩

theorem u256MulL1K (w0 : Ini) (hG : Glob globsF w0) : LoopOk u256MulX w0 (loopAt Tryd.f82 1) u256MulL1E :=
  loop_okH u256MulC hG (loopAt Tryd.f82 1) (lall_of lall_nil (by kernel_rfl : loopsOf (loopAt Tryd.f82 1) = _))
    u256MulL1Y u256MulL1Z (by kernel_rfl) (fun p => u256MulL1R p.1 p.2.1 p.2.2.1 p.2.2.2.1 p.2.2.2.2.1 p.2.2.2.2.2.1 p.2.2.2.2.2.2.1 p.2.2.2.2.2.2.2.1 p.2.2.2.2.2.2.2.2) (fun p => 1000) (fun p => by kernel_rfl) _ (fun p => u256MulL1_eq p.1 p.2.1 p.2.2.1 p.2.2.2.1 p.2.2.2.2.1 p.2.2.2.2.2.1 p.2.2.2.2.2.2.1 p.2.2.2.2.2.2.2.1 p.2.2.2.2.2.2.2.2)

theorem u256MulL0K (w0 : Ini) (hG : Glob globsF w0) : LoopOk u256MulX w0 (loopAt Tryd.f82 0) u256MulL0E :=
  loop_okH u256MulC hG (loopAt Tryd.f82 0) (lall_of (lall_cut (b := loopAt Tryd.f82 1) (u256MulL1K w0 hG) (by kernel_rfl) (lall_nil)) (by kernel_rfl : loopsOf (loopAt Tryd.f82 0) = _))
    u256MulL0Y u256MulL0Z (by kernel_rfl) (fun p => u256MulL0R p.1 p.2.1 p.2.2.1 p.2.2.2.1 p.2.2.2.2.1 p.2.2.2.2.2) (fun p => 1000) (fun p => by kernel_rfl) _ (fun p => u256MulL0_eq p.1 p.2.1 p.2.2.1 p.2.2.2.1 p.2.2.2.2.1 p.2.2.2.2.2)

theorem u256MulK : CallOk Tryd.prog (Glob globsF) 82 u256MulE :=
  fun_ok (cx := u256MulX) u256MulC (fn := Tryd.f82) Tryd.func82 (by kernel_rfl) Tryd.ntmps82 Tryd.call82 _ _ _ (by kernel_rfl) (by kernel_rfl) (by kernel_rfl)
    (fun w0 hG => lall_of (lall_cut (b := loopAt Tryd.f82 0) (u256MulL0K w0 hG) (by kernel_rfl) (lall_cut (b := loopAt Tryd.f82 1) (u256MulL1K w0 hG) (by kernel_rfl) (lall_nil))) (by kernel_rfl : loopsOf (bodyOf Tryd.f82) = _)) (fun p => Eq.trans (b := u256MulB p.1 p.2) (by kernel_rfl) (u256Mul_eq p.1 p.2).symm)

noncomputable def u256SubE : Entry := mkE [.u256, .u256] [.u256, .int .u64] fun p => u256Sub p.1 p.2

noncomputable def u256SubX : Cx := mkCx Tryd.prog 28 globsF [(117, bitsSub64E)] [] []

theorem u256SubC : CxOk u256SubX (Glob globsF) := cx_ok (by kernel_rfl) (by kernel_rfl) ⟨bitsSub64K, trivial⟩

theorem u256SubK : CallOk Tryd.prog (Glob globsF) 83 u256SubE :=
  fun_ok (cx := u256SubX) u256SubC (fn := Tryd.f83) Tryd.func83 (by kernel_rfl) Tryd.ntmps83 Tryd.call83 _ _ _ (by kernel_rfl) (by kernel_rfl) (by kernel_rfl)
    (fun w0 hG => lall_of (lall_free (b := loopAt Tryd.f83 0) (by kernel_rfl) (lall_nil)) (by kernel_rfl : loopsOf (bodyOf Tryd.f83) = _)) (fun p => Eq.trans (b := u256SubB p.1 p.2) (by kernel_rfl) (u256Sub_eq p.1 p.2).symm)

noncomputable def u256CmpE : Entry := mkE [.u256, .u256] [.int .i64] fun p => u256Cmp p.1 p.2

noncomputable def u256CmpX : Cx := mkCx Tryd.prog 18 globsF [(83, u256SubE)] [] []

theorem u256CmpC : CxOk u256CmpX (Glob globsF) := cx_ok (by kernel_rfl) (by kernel_rfl) ⟨u256SubK, trivial⟩

theorem u256CmpK : CallOk Tryd.prog (Glob globsF) 59 u256CmpE :=
  fun_ok (cx := u256CmpX) u256CmpC (fn := Tryd.f59) Tryd.func59 (by kernel_rfl) Tryd.ntmps59 Tryd.call59 _ _ _ (by kernel_rfl) (by kernel_rfl) (by kernel_rfl)
    (fun w0 hG => lall_of lall_nil (by kernel_rfl : loopsOf (bodyOf Tryd.f59) = _)) (fun p => Eq.trans (b := u256CmpB p.1 p.2) (by kernel_rfl) (u256Cmp_eq p.1 p.2).symm)

noncomputable def fieldModulusFoldE : Entry := mkE [.st [.u256, .u256], .u256, .u256] [.u256] fun p => fieldModulusFold p.1 p.2.1 p.2.2

def fieldModulusFoldL0Y : Lay := ⟨[(false, 3, .ptr 1003 []), (false, 4, .ptr 1004 []), (false, 5, .ptr 1005 []), (false, 6, .ptr 1006 [])], [(true, 1003, .st [.u256, .u256]), (true, 1004, .u256), (true, 1005, .u256), (true, 1006, .u256)], [⟨[(1003, 1003), (1004, 1004), (1005, 1005), (1006, 1006)], []⟩]⟩

def fieldModulusFoldL0Z : List (Ex × Lay) := [(.exit 0, ⟨[(false, 3, .ptr 1003 []), (false, 5, .ptr 1005 []), (false, 6, .ptr 1006 [])], [(true, 1003, .st [.u256, .u256]), (true, 1005, .u256), (true, 1006, .u256)], [⟨[(1003, 1003), (1005, 1005), (1006, 1006)], []⟩]⟩)]

noncomputable def fieldModulusFoldL0E : LEntry := mkL fieldModulusFoldL0Y fieldModulusFoldL0Z fun p => fieldModulusFoldL0 p.1 p.2.1 p.2.2.1 p.2.2.2

def fieldModulusFoldL1Y : Lay := ⟨[(false, 3, .ptr 1003 []), (false, 5, .ptr 1005 []), (false, 6, .ptr 1006 [])], [(true, 1003, .st [.u256, .u256]), (true, 1005, .u256), (true, 1006, .u256)], [⟨[(1003, 1003), (1005, 1005), (1006, 1006)], []⟩]⟩

def fieldModulusFoldL1Z : List (Ex × Lay) := [(.exit 2, ⟨[(false, 5, .ptr 1005 []), (false, 6, .ptr 1006 [])], [(true, 1005, .u256), (true, 1006, .u256)], [⟨[(1005, 1005), (1006, 1006)], []⟩]⟩)]

noncomputable def fieldModulusFoldL1E : LEntry := mkL fieldModulusFoldL1Y fieldModulusFoldL1Z fun p => fieldModulusFoldL1 p.1 p.2.1 p.2.2

noncomputable def fieldModulusFoldX : Cx := mkCx Tryd.prog 46 globsF [(48, u256FromE), (59, u256CmpE), (82, u256MulE), (83, u256SubE), (114, u256AddE)] [(1, fieldModulusFoldL0E), (6, fieldModulusFoldL1E)] []

theorem fieldModulusFoldC : CxOk fieldModulusFoldX (Glob globsF) := cx_ok (by kernel_rfl) (by kernel_rfl) ⟨u256FromK, u256CmpK, u256MulK, u256SubK, u256AddK, trivial⟩

theorem fieldModulusFoldL0K (w0 : Ini) (hG : Glob globsF w0) : LoopOk fieldModulusFoldX w0 (loopAt Tryd.f81 0) fieldModulusFoldL0E :=
  loop_okH fieldModulusFoldC hG (loopAt Tryd.f81 0) (lall_of lall_nil (by kernel_rfl : loopsOf (loopAt Tryd.f81 0) = _))
    fieldModulusFoldL0Y fieldModulusFoldL0Z (by kernel_rfl) (fun p => fieldModulusFoldL0R p.1 p.2.1 p.2.2.1 p.2.2.2) (fun p => 1000) (fun p => by kernel_rfl) _ (fun p => fieldModulusFoldL0_eq p.1 p.2.1 p.2.2.1 p.2.2.2)

theorem fieldModulusFoldL1K (w0 : Ini) (hG : Glob globsF w0) : LoopOk fieldModulusFoldX w0 (loopAt Tryd.f81 1) fieldModulusFoldL1E :=
  loop_okH fieldModulusFoldC hG (loopAt Tryd.f81 1) (lall_of lall_nil (by kernel_rfl : loopsOf (loopAt Tryd.f81 1) = _))
    fieldModulusFoldL1Y fieldModulusFoldL1Z (by kernel_rfl) (fun p => fieldModulusFoldL1R p.1 p.2.1 p.2.2) (fun p => 1000) (fun p => by kernel_rfl) _ (fun p => fieldModulusFoldL1_eq p.1 p.2.1 p.2.2)

theorem fieldModulusFoldK : CallOk Tryd.prog (Glob globsF) 81 fieldModulusFoldE :=
  fun_ok (cx := fieldModulusFoldX) fieldModulusFoldC (fn := Tryd.f81) Tryd.func81 (by kernel_rfl) Tryd.ntmps81 Tryd.call81 _ _ _ (by kernel_rfl) (by kernel_rfl) (by kernel_rfl)
    (fun w0 hG => lall_of (lall_cut (b := loopAt Tryd.f81 0) (fieldModulusFoldL0K w0 hG) (by kernel_rfl) (lall_cut (b := loopAt Tryd.f81 1) (fieldModulusFoldL1K w0 hG) (by kernel_rfl) (lall_nil))) (by kernel_rfl : loopsOf (bodyOf Tryd.f81) = _)) (fun p => Eq.trans (b := fieldModulusFoldB p.1 p.2.1 p.2.2) (by kernel_rfl) (fieldModulusFold_eq p.1 p.2.1 p.2.2).symm)

noncomputable def fieldReduceE : Entry := mkE [.int .i64, .u256, .u256] [.u256, .int .i64] fun p => fieldReduce p.1 p.2.1 p.2.2

noncomputable def fieldReduceX : Cx := mkCx Tryd.prog 23 globsF [(47, fieldIOfE), (81, fieldModulusFoldE)] [] []

theorem fieldReduceC : CxOk fieldReduceX (Glob globsF) := cx_ok (by kernel_rfl) (by kernel_rfl) ⟨fieldIOfK, fieldModulusFoldK, trivial⟩

theorem fieldReduceK : CallOk Tryd.prog (Glob globsF) 98 fieldReduceE :=
  fun_ok (cx := fieldReduceX) fieldReduceC (fn := Tryd.f98) Tryd.func98 (by kernel_rfl) Tryd.ntmps98 Tryd.call98 _ _ _ (by kernel_rfl) (by kernel_rfl) (by kernel_rfl)
    (fun w0 hG => lall_of lall_nil (by kernel_rfl : loopsOf (bodyOf Tryd.f98) = _)) (fun p => Eq.trans (b := fieldReduceB p.1 p.2.1 p.2.2) (by kernel_rfl) (fieldReduce_eq p.1 p.2.1 p.2.2).symm)

noncomputable def ref04IGoodE : Entry := mkE [.int .i64] [.bool] fun p => ref04IGood p

noncomputable def ref04IGoodX : Cx := mkCx Tryd.prog 9 globsF [] [] []

theorem ref04IGoodC : CxOk ref04IGoodX (Glob globsF) := cx_ok (by kernel_rfl) (by kernel_rfl) trivial

theorem ref04IGoodK : CallOk Tryd.prog (Glob globsF) 52 ref04IGoodE :=
  fun_ok (cx := ref04IGoodX) ref04IGoodC (fn := Tryd.f52) Tryd.func52 (by kernel_rfl) Tryd.ntmps52 Tryd.call52 _ _ _ (by kernel_rfl) (by kernel_rfl) (by kernel_rfl)
    (fun w0 hG => lall_of lall_nil (by kernel_rfl : loopsOf (bodyOf Tryd.f52) = _)) (fun p => Eq.trans (b := ref04IGoodB p) (by kernel_rfl) (ref04IGood_eq p).symm)

noncomputable def ref04IModulusE : Entry := mkE [.int .i64] [.u256] fun p => ref04IModulus p

noncomputable def ref04IModulusX : Cx := mkCx Tryd.prog 7 globsF [] [] []

theorem ref04IModulusC : CxOk ref04IModulusX (Glob globsF) := cx_ok (by kernel_rfl) (by kernel_rfl) trivial

theorem ref04IModulusK : CallOk Tryd.prog (Glob globsF) 87 ref04IModulusE :=
  fun_ok (cx := ref04IModulusX) ref04IModulusC (fn := Tryd.f87) Tryd.func87 (by kernel_rfl) Tryd.ntmps87 Tryd.call87 _ _ _ (by kernel_rfl) (by kernel_rfl) (by kernel_rfl)
    (fun w0 hG => lall_of lall_nil (by kernel_rfl : loopsOf (bodyOf Tryd.f87) = _)) (fun p => Eq.trans (b := ref04IModulusB p) (by kernel_rfl) (ref04IModulus_eq p).symm)

noncomputable def ref04ModulusE : Entry := mkE [.int .i64] [.u256, .int .i64] fun p => ref04Modulus p

noncomputable def ref04ModulusX : Cx := mkCx Tryd.prog 12 globsF [(52, ref04IGoodE), (87, ref04IModulusE)] [] []

theorem ref04ModulusC : CxOk ref04ModulusX (Glob globsF) := cx_ok (by kernel_rfl) (by kernel_rfl) ⟨ref04IGoodK, ref04IModulusK, trivial⟩

theorem ref04ModulusK : CallOk Tryd.prog (Glob globsF) 111 ref04ModulusE :=
  fun_ok (cx := ref04ModulusX) ref04ModulusC (fn := Tryd.f111) Tryd.func111 (by kernel_rfl) Tryd.ntmps111 Tryd.call111 _ _ _ (by kernel_rfl) (by kernel_rfl) (by kernel_rfl)
    (fun w0 hG => lall_of lall_nil (by kernel_rfl : loopsOf (bodyOf Tryd.f111) = _)) (fun p => Eq.trans (b := ref04ModulusB p) (by kernel_rfl) (ref04Modulus_eq p).symm)

noncomputable def ref01IDigitsE : Entry := mkE [.u256] [.arr (.int .u64) 8] fun p => ref01IDigits p

noncomputable def ref01IDigitsX : Cx := mkCx Tryd.prog 25 globsF [] [] []

theorem ref01IDigitsC : CxOk ref01IDigitsX (Glob globsF) := cx_ok (by kernel_rfl) (by kernel_rfl) trivial

theorem ref01IDigitsK : CallOk Tryd.prog (Glob globsF) 120 ref01IDigitsE :=
  fun_ok (cx := ref01IDigitsX) ref01IDigitsC (fn := Tryd.f120) Tryd.func120 (by kernel_rfl) Tryd.ntmps120 Tryd.call120 _ _ _ (by kernel_rfl) (by kernel_rfl) (by kernel_rfl)
    (fun w0 hG => lall_of (lall_free (b := loopAt Tryd.f120 0) (by kernel_rfl) (lall_nil)) (by kernel_rfl : loopsOf (bodyOf Tryd.f120) = _)) (fun p => Eq.trans (b := ref01IDigitsB p) (by kernel_rfl) (ref01IDigits_eq p).symm)

noncomputable def ref01INumberE : Entry := mkE [.arr (.int .u64) 8] [.u256] fun p => ref01INumber p

noncomputable def ref01INumberX : Cx := mkCx Tryd.prog 23 globsF [] [] []

theorem ref01INumberC : CxOk ref01INumberX (Glob globsF) := cx_ok (by kernel_rfl) (by kernel_rfl) trivial

theorem ref01INumberK : CallOk Tryd.prog (Glob globsF) 121 ref01INumberE :=
  fun_ok (cx := ref01INumberX) ref01INumberC (fn := Tryd.f121) Tryd.func121 (by kernel_rfl) Tryd.ntmps121 Tryd.call121 _ _ _ (by kernel_rfl) (by kernel_rfl) (by kernel_rfl)
    (fun w0 hG => lall_of (lall_free (b := loopAt Tryd.f121 0) (by kernel_rfl) (lall_nil)) (by kernel_rfl : loopsOf (bodyOf Tryd.f121) = _)) (fun p => Eq.trans (b := ref01INumberB p) (by kernel_rfl) (ref01INumber_eq p).symm)

noncomputable def ref01AddE : Entry := mkE [.u256, .u256] [.u256, .int .u64] fun p => ref01Add p.1 p.2

def ref01AddL0Y : Lay := ⟨[(false, 4, .ptr 1004 []), (false, 6, .ptr 1006 []), (false, 7, .ptr 1007 [])], [(false, 8, .int .u64), (false, 9, .int .i64), (true, 1004, .u256), (true, 1006, .arr (.int .u64) 8), (true, 1007, .arr (.int .u64) 8)], [⟨[(1004, 1004), (1006, 1006), (1007, 1007)], []⟩]⟩

def ref01AddL0Z : List (Ex × Lay) := [(.exit 0, ⟨[(false, 4, .ptr 1004 []), (false, 6, .ptr 1006 [])], [(false, 8, .int .u64), (true, 1004, .u256), (true, 1006, .arr (.int .u64) 8)], [⟨[(1004, 1004), (1006, 1006)], []⟩]⟩)]

noncomputable def ref01AddL0E : LEntry := mkL ref01AddL0Y ref01AddL0Z fun p => ref01AddL0 p.1 p.2.1 p.2.2.1 p.2.2.2.1 p.2.2.2.2

noncomputable def ref01AddX : Cx := mkCx Tryd.prog 37 globsF [(120, ref01IDigitsE), (121, ref01INumberE)] [(5, ref01AddL0E)] []

theorem ref01AddC : CxOk ref01AddX (Glob globsF) := cx_ok (by kernel_rfl) (by kernel_rfl) ⟨ref01IDigitsK, ref01INumberK, trivial⟩

theorem ref01AddL0K (w0 : Ini) (hG : Glob globsF w0) : LoopOk ref01AddX w0 (loopAt Tryd.f140 0) ref01AddL0E :=
  loop_okH ref01AddC hG (loopAt Tryd.f140 0) (lall_of lall_nil (by kernel_rfl : loopsOf (loopAt Tryd.f140 0) = _))
    ref01AddL0Y ref01AddL0Z (by kernel_rfl) (fun p => ref01AddL0R p.1 p.2.1 p.2.2.1 p.2.2.2.1 p.2.2.2.2) (fun p => 1000) (fun p => by kernel_rfl) _ (fun p => ref01AddL0_eq p.1 p.2.1 p.2.2.1 p.2.2.2.1 p.2.2.2.2)

theorem ref01AddK : CallOk Tryd.prog (Glob globsF) 140 ref01AddE :=
  fun_ok (cx := ref01AddX) ref01AddC (fn := Tryd.f140) Tryd.func140 (by kernel_rfl) Tryd.ntmps140 Tryd.call140 _ _ _ (by kernel_rfl) (by kernel_rfl) (by kernel_rfl)
    (fun w0 hG => lall_of (lall_cut (b := loopAt Tryd.f140 0) (ref01AddL0K w0 hG) (by kernel_rfl) (lall_nil)) (by kernel_rfl : loopsOf (bodyOf Tryd.f140) = _)) (fun p => Eq.trans (b := ref01AddB p.1 p.2) (by kernel_rfl) (ref01Add_eq p.1 p.2).symm)

noncomputable def ref01FromE : Entry := mkE [.int .u64] [.u256] fun p => ref01From p

noncomputable def ref01FromX : Cx := mkCx Tryd.prog 5 globsF [] [] []

theorem ref01FromC : CxOk ref01FromX (Glob globsF) := cx_ok (by kernel_rfl) (by kernel_rfl) trivial

theorem ref01FromK : CallOk Tryd.prog (Glob globsF) 88 ref01FromE :=
  fun_ok (cx := ref01FromX) ref01FromC (fn := Tryd.f88) Tryd.func88 (by kernel_rfl) Tryd.ntmps88 Tryd.call88 _ _ _ (by kernel_rfl) (by kernel_rfl) (by kernel_rfl)
    (fun w0 hG => lall_of lall_nil (by kernel_rfl : loopsOf (bodyOf Tryd.f88) = _)) (fun p => Eq.trans (b := ref01FromB p) (by kernel_rfl) (ref01From_eq p).symm)

noncomputable def ref01SubE : Entry := mkE [.u256, .u256] [.u256, .int .u64] fun p => ref01Sub p.1 p.2

def ref01SubL0Y : Lay := ⟨[(false, 4, .ptr 1004 []), (false, 6, .ptr 1006 []), (false, 7, .ptr 1007 [])], [(false, 8, .int .u64), (false, 9, .int .i64), (true, 1004, .u256), (true, 1006, .arr (.int .u64) 8), (true, 1007, .arr (.int .u64) 8)], [⟨[(1004, 1004), (1006, 1006), (1007, 1007)], []⟩]⟩

def ref01SubL0Z : List (Ex × Lay) := [(.exit 0, ⟨[(false, 4, .ptr 1004 []), (false, 6, .ptr 1006 [])], [(false, 8, .int .u64), (true, 1004, .u256), (true, 1006, .arr (.int .u64) 8)], [⟨[(1004, 1004), (1006, 1006)], []⟩]⟩)]

noncomputable def ref01SubL0E : LEntry := mkL ref01SubL0Y ref01SubL0Z fun p => ref01SubL0 p.1 p.2.1 p.2.2.1 p.2.2.2.1 p.2.2.2.2

noncomputable def ref01SubX : Cx := mkCx Tryd.prog 45 globsF [(120, ref01IDigitsE), (121, ref01INumberE)] [(5, ref01SubL0E)] []

theorem ref01SubC : CxOk ref01SubX (Glob globsF) := cx_ok (by kernel_rfl) (by kernel_rfl) ⟨ref01IDigitsK, ref01INumberK, trivial⟩

theorem ref01SubL0K (w0 : Ini) (hG : Glob globsF w0) : LoopOk ref01SubX w0 (loopAt Tryd.f86 0) ref01SubL0E :=
  loop_okH ref01SubC hG (loopAt Tryd.f86 0) (lall_of lall_nil (by kernel_rfl : loopsOf (loopAt Tryd.f86 0) = _))
    ref01SubL0Y ref01SubL0Z (by kernel_rfl) (fun p => ref01SubL0R p.1 p.2.1 p.2.2.1 p.2.2.2.1 p.2.2.2.2) (fun p => 1000) (fun p => by kernel_rfl) _ (fun p => ref01SubL0_eq p.1 p.2.1 p.2.2.1 p.2.2.2.1 p.2.2.2.2)

theorem ref01SubK : CallOk Tryd.prog (Glob globsF) 86 ref01SubE :=
  fun_ok (cx := ref01SubX) ref01SubC (fn := Tryd.f86) Tryd.func86 (by kernel_rfl) Tryd.ntmps86 Tryd.call86 _ _ _ (by kernel_rfl) (by kernel_rfl) (by kernel_rfl)
    (fun w0 hG => lall_of (lall_cut (b := loopAt Tryd.f86 0) (ref01SubL0K w0 hG) (by kernel_rfl) (lall_nil)) (by kernel_rfl : loopsOf (bodyOf Tryd.f86) = _)) (fun p => Eq.trans (b := ref01SubB p.1 p.2) (by kernel_rfl) (ref01Sub_eq p.1 p.2).symm)

noncomputable def ref01MulE : Entry := mkE [.u256, .u256] [.u256, .u256] fun p => ref01Mul p.1 p.2

def ref01MulL1Y : Lay := ⟨[(false, 4, .ptr 1004 []), (false, 5, .ptr 1005 []), (false, 6, .ptr 1006 []), (false, 7, .ptr 1007 []), (false, 8, .ptr 1008 [])], [(false, 9, .int .i64), (false, 10, .int .u64), (false, 11, .int .i64), (true, 1004, .u256), (true, 1005, .u256), (true, 1006, .arr (.int .u64) 8), (true, 1007, .arr (.int .u64) 8), (true, 1008, .arr (.int .u64) 16)], [⟨[(1004, 1004), (1005, 1005), (1006, 1006), (1007, 1007), (1008, 1008)], []⟩]⟩

def ref01MulL1Z : List (Ex × Lay) := [(.exit 2, ⟨[(false, 4, .ptr 1004 []), (false, 5, .ptr 1005 []), (false, 6, .ptr 1006 []), (false, 7, .ptr 1007 []), (false, 8, .ptr 1008 [])], [(false, 9, .int .i64), (false, 10, .int .u64), (true, 1004, .u256), (true, 1005, .u256), (true, 1006, .arr (.int .u64) 8), (true, 1007, .arr (.int .u64) 8), (true, 1008, .arr (.int .u64) 16)], [⟨[(1004, 1004), (1005, 1005), (1006, 1006), (1007, 1007), (1008, 1008)], []⟩]⟩)]

noncomputable def ref01MulL1E : LEntry := mkL ref01MulL1Y ref01MulL1Z fun p => ref01MulL1 p.1 p.2.1 p.2.2.1 p.2.2.2.1 p.2.2.2.2.1 p.2.2.2.2.2.1 p.2.2.2.2.2.2.1 p.2.2.2.2.2.2.2

def ref01MulL0Y : Lay := ⟨[(false, 4, .ptr 1004 []), (false, 5, .ptr 1005 []), (false, 6, .ptr 1006 []), (false, 7, .ptr 1007 []), (false, 8, .ptr 1008 [])], [(false, 9, .int .i64), (true, 1004, .u256), (true, 1005, .u256), (true, 1006, .arr (.int .u64) 8), (true, 1007, .arr (.int .u64) 8), (true, 1008, .arr (.int .u64) 16)], [⟨[(1004, 1004), (1005, 1005), (1006, 1006), (1007, 1007), (1008, 1008)], []⟩]⟩

def ref01MulL0Z : List (Ex × Lay) := [(.exit 0, ⟨[(false, 4, .ptr 1004 []), (false, 5, .ptr 1005 []), (false, 8, .ptr 1008 [])], [(true, 1004, .u256), (true, 1005, .u256), (true, 1008, .arr (.int .u64) 16)], [⟨[(1004, 1004), (1005, 1005), (1008, 1008)], []⟩]⟩)]

noncomputable def ref01MulL0E : LEntry := mkL ref01MulL0Y ref01MulL0Z fun p => ref01MulL0 p.1 p.2.1 p.2.2.1 p.2.2.2.1 p.2.2.2.2.1 p.2.2.2.2.2

def ref01MulL2Y : Lay := ⟨[(false, 4, .ptr 1004 []), (false, 5, .ptr 1005 []), (false, 8, .ptr 1008 []), (false, 13, .ptr 1013 []), (false, 14, .ptr 1014 [])], [(false, 15, .int .i64), (true, 1004, .u256), (true, 1005, .u256), (true, 1008, .arr (.int .u64) 16), (true, 1013, .arr (.int .u64) 8), (true, 1014, .arr (.int .u64) 8)], [⟨[(1004, 1004), (1005, 1005), (1008, 1008), (1013, 1013), (1014, 1014)], []⟩]⟩

def ref01MulL2Z : List (Ex × Lay) := [(.exit 4, ⟨[(false, 4, .ptr 1004 []), (false, 5, .ptr 1005 []), (false, 13, .ptr 1013 []), (false, 14, .ptr 1014 [])], [(true, 1004, .u256), (true, 1005, .u256), (true, 1013, .arr (.int .u64) 8), (true, 1014, .arr (.int .u64) 8)], [⟨[(1004, 1004), (1005, 1005), (1013, 1013), (1014, 1014)], []⟩]⟩)]

noncomputable def ref01MulL2E : LEntry := mkL ref01MulL2Y ref01MulL2Z fun p => ref01MulL2 p.1 p.2.1 p.2.2.1 p.2.2.2.1 p.2.2.2.2.1 p.2.2.2.2.2

noncomputable def ref01MulX : Cx := mkCx Tryd.prog 74 globsF [(120, ref01IDigitsE), (121, ref01INumberE)] [(5, ref01MulL0E), (9, ref01MulL1E), (17, ref01MulL2E)] []

theorem ref01MulC : CxOk ref01MulX (Glob globsF) := cx_ok (by kernel_rfl) (by kernel_rfl) ⟨ref01IDigitsK, ref01INumberK, trivial⟩

theorem ref01MulL1K (w0 : Ini) (hG : Glob globsF w0) : LoopOk ref01MulX w0 (loopAt Tryd.f139 1) ref01MulL1E :=
  loop_okH ref01MulC hG (loopAt Tryd.f139 1) (lall_of lall_nil (by kernel_rfl : loopsOf (loopAt Tryd.f139 1) = _))
    ref01MulL1Y ref01MulL1Z (by kernel_rfl) (fun p => ref01MulL1R p.1 p.2.1 p.2.2.1 p.2.2.2.1 p.2.2.2.2.1 p.2.2.2.2.2.1 p.2.2.2.2.2.2.1 p.2.2.2.2.2.2.2) (fun p => 1000) (fun p => by kernel_rfl) _ (fun p => ref01MulL1_eq p.1 p.2.1 p.2.2.1 p.2.2.2.1 p.2.2.2.2.1 p.2.2.2.2.2.1 p.2.2.2.2.2.2.1 p.2.2.2.2.2.2.2)

theorem ref01MulL0K (w0 : Ini) (hG : Glob globsF w0) : LoopOk ref01MulX w0 (loopAt Tryd.f139 0) ref01MulL0E :=
  loop_okH ref01MulC hG (loopAt Tryd.f139 0) (lall_of (lall_cut (b := loopAt Tryd.f139 1) (ref01MulL1K w0 hG) (by kernel_rfl) (lall_nil)) (by kernel_rfl : loopsOf (loopAt Tryd.f139 0) = _))
    ref01MulL0Y ref01MulL0Z (by kernel_rfl) (fun p => ref01MulL0R p.1 p.2.1 p.2.2.1 p.2.2.2.1 p.2.2.2.2.1 p.2.2.2.2.2) (fun p => 1000) (fun p => by kernel_rfl) _ (fun p => ref01MulL0_eq p.1 p.2.1 p.2.2.1 p.2.2.2.1 p.2.2.2.2.1 p.2.2.2.2.2)

theorem ref01MulL2K (w0 : Ini) (hG : Glob globsF w0) : LoopOk ref01MulX w0 (loopAt Tryd.f139 2) ref01MulL2E :=
  loop_okH ref01MulC hG (loopAt Tryd.f139 2) (lall_of lall_nil (by kernel_rfl : loopsOf (loopAt Tryd.f139 2) = _))
    ref01MulL2Y ref01MulL2Z (by kernel_rfl) (fun p => ref01MulL2R p.1 p.2.1 p.2.2.1 p.2.2.2.1 p.2.2.2.2.1 p.2.2.2.2.2) (fun p => 1000) (fun p => by kernel_rfl) _ (fun p => ref01MulL2_eq p.1 p.2.1 p.2.2.1 p.2.2.2.1 p.2.2.2.2.1 p.2.2.2.2.2)

theorem ref01MulK : CallOk Tryd.prog (Glob globsF) 139 ref01MulE :=
  fun_ok (cx := ref01MulX) ref01MulC (fn := Tryd.f139) Tryd.func139 (by kernel_rfl) Tryd.ntmps139 Tryd.call139 _ _ _ (by kernel_rfl) (by kernel_rfl) (by kernel_rfl)
    (fun w0 hG => lall_of (lall_cut (b := loopAt Tryd.f139 0) (ref01MulL0K w0 hG) (by kernel_rfl) (lall_cut (b := loopAt Tryd.f139 1) (ref01MulL1K w0 hG) (by kernel_rfl) (lall_cut (b := loopAt Tryd.f139 2) (ref01MulL2K w0 hG) (by kernel_rfl) (lall_nil)))) (by kernel_rfl : loopsOf (bodyOf Tryd.f139) = _)) (fun p => Eq.trans (b := ref01MulB p.1 p.2) (by kernel_rfl) (ref01Mul_eq p.1 p.2).symm)

noncomputable def ref01CmpE : Entry := mkE [.u256, .u256] [.int .i64] fun p => ref01Cmp p.1 p.2

def ref01CmpL0Y : Lay := ⟨[(false, 2, .ptr 1002 []), (false, 3, .ptr 1003 [])], [(false, 5, .int .i64), (true, 1002, .u256), (true, 1003, .u256)], [⟨[(1002, 1002), (1003, 1003)], []⟩]⟩

def ref01CmpL0Z : List (Ex × Lay) := [(.ret, ⟨[], [(false, 4, .int .i64)], [⟨[], []⟩]⟩), (.exit 0, ⟨[], [], [⟨[], []⟩]⟩)]

noncomputable def ref01CmpL0E : LEntry := mkL ref01CmpL0Y ref01CmpL0Z fun p => ref01CmpL0 p.1 p.2.1 p.2.2

noncomputable def ref01CmpX : Cx := mkCx Tryd.prog 24 globsF [] [(2, ref01CmpL0E)] []

theorem ref01CmpC : CxOk ref01CmpX (Glob globsF) := cx_ok (by kernel_rfl) (by kernel_rfl) trivial

theorem ref01CmpL0K (w0 : Ini) (hG : Glob globsF w0) : LoopOk ref01CmpX w0 (loopAt Tryd.f92 0) ref01CmpL0E :=
  loop_okH ref01CmpC hG (loopAt Tryd.f92 0) (lall_of lall_nil (by kernel_rfl : loopsOf (loopAt Tryd.f92 0) = _))
    ref01CmpL0Y ref01CmpL0Z (by kernel_rfl) (fun p => ref01CmpL0R p.1 p.2.1 p.2.2) (fun p => 1000) (fun p => by kernel_rfl) _ (fun p => ref01CmpL0_eq p.1 p.2.1 p.2.2)

theorem ref01CmpK : CallOk Tryd.prog (Glob globsF) 92 ref01CmpE :=
  fun_ok (cx := ref01CmpX) ref01CmpC (fn := Tryd.f92) Tryd.func92 (by kernel_rfl) Tryd.ntmps92 Tryd.call92 _ _ _ (by kernel_rfl) (by kernel_rfl) (by kernel_rfl)
    (fun w0 hG => lall_of (lall_cut (b := loopAt Tryd.f92 0) (ref01CmpL0K w0 hG) (by kernel_rfl) (lall_nil)) (by kernel_rfl : loopsOf (bodyOf Tryd.f92) = _)) (fun p => Eq.trans (b := ref01CmpB p.1 p.2) (by kernel_rfl) (ref01Cmp_eq p.1 p.2).symm)

noncomputable def ref04IFoldE : Entry := mkE [.int .i64, .u256, .u256] [.u256] fun p => ref04IFold p.1 p.2.1 p.2.2

def ref04IFoldL0Y : Lay := ⟨[(false, 4, .ptr 1004 []), (false, 5, .ptr 1005 []), (false, 6, .ptr 1006 []), (false, 7, .ptr 1007 []), (false, 8, .ptr 1008 []), (false, 9, .ptr 1009 [])], [(true, 1004, .u256), (true, 1005, .u256), (true, 1006, .u256), (true, 1007, .u256), (true, 1008, .u256), (true, 1009, .u256)], [⟨[(1004, 1004), (1005, 1005), (1006, 1006), (1007, 1007), (1008, 1008), (1009, 1009)], []⟩]⟩

def ref04IFoldL0Z : List (Ex × Lay) := [(.exit 0, ⟨[(false, 5, .ptr 1005 []), (false, 6, .ptr 1006 []), (false, 8, .ptr 1008 [])], [(true, 1005, .u256), (true, 1006, .u256), (true, 1008, .u256)], [⟨[(1005, 1005), (1006, 1006), (1008, 1008)], []⟩]⟩)]

noncomputable def ref04IFoldL0E : LEntry := mkL ref04IFoldL0Y ref04IFoldL0Z fun p => ref04IFoldL0 p.1 p.2.1 p.2.2.1 p.2.2.2.1 p.2.2.2.2.1 p.2.2.2.2.2

def ref04IFoldL1Y : Lay := ⟨[(false, 5, .ptr 1005 []), (false, 6, .ptr 1006 []), (false, 8, .ptr 1008 [])], [(true, 1005, .u256), (true, 1006, .u256), (true, 1008, .u256)], [⟨[(1005, 1005), (1006, 1006), (1008, 1008)], []⟩]⟩

def ref04IFoldL1Z : List (Ex × Lay) := [(.exit 2, ⟨[(false, 5, .ptr 1005 []), (false, 6, .ptr 1006 [])], [(true, 1005, .u256), (true, 1006, .u256)], [⟨[(1005, 1005), (1006, 1006)], []⟩]⟩)]

noncomputable def ref04IFoldL1E : LEntry := mkL ref04IFoldL1Y ref04IFoldL1Z fun p => ref04IFoldL1 p.1 p.2.1 p.2.2

noncomputable def ref04IFoldX : Cx := mkCx Tryd.prog 64 globsF [(86, ref01SubE), (87, ref04IModulusE), (88, ref01FromE), (92, ref01CmpE), (139, ref01MulE), (140, ref01AddE)] [(4, ref04IFoldL0E), (10, ref04IFoldL1E)] []

theorem ref04IFoldC : CxOk ref04IFoldX (Glob globsF) := cx_ok (by kernel_rfl) (by kernel_rfl) ⟨ref01SubK, ref04IModulusK, ref01FromK, ref01CmpK, ref01MulK, ref01AddK, trivial⟩

theorem ref04IFoldL0K (w0 : Ini) (hG : Glob globsF w0) : LoopOk ref04IFoldX w0 (loopAt Tryd.f119 0) ref04IFoldL0E :=
  loop_okH ref04IFoldC hG (loopAt Tryd.f119 0) (lall_of lall_nil (by kernel_rfl : loopsOf (loopAt Tryd.f119 0) = _))
    ref04IFoldL0Y ref04IFoldL0Z (by kernel_rfl) (fun p => ref04IFoldL0R p.1 p.2.1 p.2.2.1 p.2.2.2.1 p.2.2.2.2.1 p.2.2.2.2.2) (fun p => 1000) (fun p => by kernel_rfl) _ (fun p => ref04IFoldL0_eq p.1 p.2.1 p.2.2.1 p.2.2.2.1 p.2.2.2.2.1 p.2.2.2.2.2)

theorem ref04IFoldL1K (w0 : Ini) (hG : Glob globsF w0) : LoopOk ref04IFoldX w0 (loopAt Tryd.f119 1) ref04IFoldL1E :=
  loop_okH ref04IFoldC hG (loopAt Tryd.f119 1) (lall_of lall_nil (by kernel_rfl : loopsOf (loopAt Tryd.f119 1) = _))
    ref04IFoldL1Y ref04IFoldL1Z (by kernel_rfl) (fun p => ref04IFoldL1R p.1 p.2.1 p.2.2) (fun p => 1000) (fun p => by kernel_rfl) _ (fun p => ref04IFoldL1_eq p.1 p.2.1 p.2.2)

theorem ref04IFoldK : CallOk Tryd.prog (Glob globsF) 119 ref04IFoldE :=
  fun_ok (cx := ref04IFoldX) ref04IFoldC (fn := Tryd.f119) Tryd.func119 (by kernel_rfl) Tryd.ntmps119 Tryd.call119 _ _ _ (by kernel_rfl) (by kernel_rfl) (by kernel_rfl)
    (fun w0 hG => lall_of (lall_cut (b := loopAt Tryd.f119 0) (ref04IFoldL0K w0 hG) (by kernel_rfl) (lall_cut (b := loopAt Tryd.f119 1) (ref04IFoldL1K w0 hG) (by kernel_rfl) (lall_nil))) (by kernel_rfl : loopsOf (bodyOf Tryd.f119) = _)) (fun p => Eq.trans (b := ref04IFoldB p.1 p.2.1 p.2.2) (by kernel_rfl) (ref04IFold_eq p.1 p.2.1 p.2.2).symm)

noncomputable def ref04ReduceE : Entry := mkE [.int .i64, .u256, .u256] [.u256, .int .i64] fun p => ref04Reduce p.1 p.2.1 p.2.2

noncomputable def ref04ReduceX : Cx := mkCx Tryd.prog 18 globsF [(52, ref04IGoodE), (119, ref04IFoldE)] [] []

theorem ref04ReduceC : CxOk ref04ReduceX (Glob globsF) := cx_ok (by kernel_rfl) (by kernel_rfl) ⟨ref04IGoodK, ref04IFoldK, trivial⟩

theorem ref04ReduceK : CallOk Tryd.prog (Glob globsF) 129 ref04ReduceE :=
  fun_ok (cx := ref04ReduceX) ref04ReduceC (fn := Tryd.f129) Tryd.func129 (by kernel_rfl) Tryd.ntmps129 Tryd.call129 _ _ _ (by kernel_rfl) (by kernel_rfl) (by kernel_rfl)
    (fun w0 hG => lall_of lall_nil (by kernel_rfl : loopsOf (bodyOf Tryd.f129) = _)) (fun p => Eq.trans (b := ref04ReduceB p.1 p.2.1 p.2.2) (by kernel_rfl) (ref04Reduce_eq p.1 p.2.1 p.2.2).symm)

noncomputable def u256GetE : Entry := mkE [.isl false (.int .u8)] [.u256, .int .i64] fun p => u256Get p

def u256GetL0Y : Lay := ⟨[(false, 2, .ptr 1002 []), (false, 4, .ptr 1004 [])], [(false, 0, .isl false (.int .u8)), (false, 12, .int .i64), (false, 13, .int .i64), (true, 1002, .u256), (true, 1004, .u256)], [⟨[(1002, 1002), (1004, 1004)], []⟩]⟩

def u256GetL0Z : List (Ex × Lay) := [(.exit 0, ⟨[(false, 2, .ptr 1002 []), (false, 4, .ptr 1004 [])], [(true, 1002, .u256), (true, 1004, .u256)], [⟨[(1002, 1002), (1004, 1004)], []⟩]⟩)]

noncomputable def u256GetL0E : LEntry := mkL u256GetL0Y u256GetL0Z fun p => u256GetL0 p.1 p.2.1 p.2.2.1 p.2.2.2.1 p.2.2.2.2

noncomputable def u256GetX : Cx := mkCx Tryd.prog 38 globsF [] [(5, u256GetL0E)] []

theorem u256GetC : CxOk u256GetX (Glob globsF) := cx_ok (by kernel_rfl) (by kernel_rfl) trivial

theorem u256GetL0K (w0 : Ini) (hG : Glob globsF w0) : LoopOk u256GetX w0 (loopAt Tryd.f41 0) u256GetL0E :=
  loop_okH u256GetC hG (loopAt Tryd.f41 0) (lall_of lall_nil (by kernel_rfl : loopsOf (loopAt Tryd.f41 0) = _))
    u256GetL0Y u256GetL0Z (by kernel_rfl) (fun p => u256GetL0R p.1 p.2.1 p.2.2.1 p.2.2.2.1 p.2.2.2.2) (fun p => 1000) (fun p => by kernel_rfl) _ (fun p => u256GetL0_eq p.1 p.2.1 p.2.2.1 p.2.2.2.1 p.2.2.2.2)

theorem u256GetK : CallOk Tryd.prog (Glob globsF) 41 u256GetE :=
  fun_ok (cx := u256GetX) u256GetC (fn := Tryd.f41) Tryd.func41 (by kernel_rfl) Tryd.ntmps41 Tryd.call41 _ _ _ (by kernel_rfl) (by kernel_rfl) (by kernel_rfl)
    (fun w0 hG => lall_of (lall_cut (b := loopAt Tryd.f41 0) (u256GetL0K w0 hG) (by kernel_rfl) (lall_nil)) (by kernel_rfl : loopsOf (bodyOf Tryd.f41) = _)) (fun p => Eq.trans (b := u256GetB p) (by kernel_rfl) (u256Get_eq p).symm)

noncomputable def u256PutE : Entry := mkE [.u256] [.arr (.int .u8) 32] fun p => u256Put p

def u256PutL0Y : Lay := ⟨[(false, 1, .ptr 1001 []), (false, 2, .ptr 1002 []), (false, 3, .ptr 1003 [])], [(false, 5, .int .i64), (true, 1001, .u256), (true, 1002, .arr (.int .u8) 32), (true, 1003, .arr (.int .u8) 32)], [⟨[(1001, 1001), (1002, 1002), (1003, 1003)], []⟩]⟩

def u256PutL0Z : List (Ex × Lay) := [(.exit 0, ⟨[(false, 2, .ptr 1002 []), (false, 3, .ptr 1003 [])], [(true, 1002, .arr (.int .u8) 32), (true, 1003, .arr (.int .u8) 32)], [⟨[(1002, 1002), (1003, 1003)], []⟩]⟩)]

noncomputable def u256PutL0E : LEntry := mkL u256PutL0Y u256PutL0Z fun p => u256PutL0 p.1 p.2.1 p.2.2.1 p.2.2.2

noncomputable def u256PutX : Cx := mkCx Tryd.prog 22 globsF [] [(3, u256PutL0E)] []

theorem u256PutC : CxOk u256PutX (Glob globsF) := cx_ok (by kernel_rfl) (by kernel_rfl) trivial

theorem u256PutL0K (w0 : Ini) (hG : Glob globsF w0) : LoopOk u256PutX w0 (loopAt Tryd.f38 0) u256PutL0E :=
  loop_okH u256PutC hG (loopAt Tryd.f38 0) (lall_of lall_nil (by kernel_rfl : loopsOf (loopAt Tryd.f38 0) = _))
    u256PutL0Y u256PutL0Z (by kernel_rfl) (fun p => u256PutL0R p.1 p.2.1 p.2.2.1 p.2.2.2) (fun p => 1000) (fun p => by kernel_rfl) _ (fun p => u256PutL0_eq p.1 p.2.1 p.2.2.1 p.2.2.2)

theorem u256PutK : CallOk Tryd.prog (Glob globsF) 38 u256PutE :=
  fun_ok (cx := u256PutX) u256PutC (fn := Tryd.f38) Tryd.func38 (by kernel_rfl) Tryd.ntmps38 Tryd.call38 _ _ _ (by kernel_rfl) (by kernel_rfl) (by kernel_rfl)
    (fun w0 hG => lall_of (lall_cut (b := loopAt Tryd.f38 0) (u256PutL0K w0 hG) (by kernel_rfl) (lall_nil)) (by kernel_rfl : loopsOf (bodyOf Tryd.f38) = _)) (fun p => Eq.trans (b := u256PutB p) (by kernel_rfl) (u256Put_eq p).symm)

noncomputable def ref01GetE : Entry := mkE [.isl false (.int .u8)] [.u256, .int .i64] fun p => ref01Get p

def ref01GetL0Y : Lay := ⟨[(false, 2, .ptr 1002 []), (false, 4, .ptr 1004 [])], [(false, 0, .isl false (.int .u8)), (false, 5, .int .i64), (true, 1002, .u256), (true, 1004, .u256)], [⟨[(1002, 1002), (1004, 1004)], []⟩]⟩

def ref01GetL0Z : List (Ex × Lay) := [(.exit 0, ⟨[(false, 2, .ptr 1002 []), (false, 4, .ptr 1004 [])], [(true, 1002, .u256), (true, 1004, .u256)], [⟨[(1002, 1002), (1004, 1004)], []⟩]⟩)]

noncomputable def ref01GetL0E : LEntry := mkL ref01GetL0Y ref01GetL0Z fun p => ref01GetL0 p.1 p.2.1 p.2.2.1 p.2.2.2

noncomputable def ref01GetX : Cx := mkCx Tryd.prog 41 globsF [] [(5, ref01GetL0E)] []

theorem ref01GetC : CxOk ref01GetX (Glob globsF) := cx_ok (by kernel_rfl) (by kernel_rfl) trivial

theorem ref01GetL0K (w0 : Ini) (hG : Glob globsF w0) : LoopOk ref01GetX w0 (loopAt Tryd.f42 0) ref01GetL0E :=
  loop_okH ref01GetC hG (loopAt Tryd.f42 0) (lall_of lall_nil (by kernel_rfl : loopsOf (loopAt Tryd.f42 0) = _))
    ref01GetL0Y ref01GetL0Z (by kernel_rfl) (fun p => ref01GetL0R p.1 p.2.1 p.2.2.1 p.2.2.2) (fun p => 1000) (fun p => by kernel_rfl) _ (fun p => ref01GetL0_eq p.1 p.2.1 p.2.2.1 p.2.2.2)

theorem ref01GetK : CallOk Tryd.prog (Glob globsF) 42 ref01GetE :=
  fun_ok (cx := ref01GetX) ref01GetC (fn := Tryd.f42) Tryd.func42 (by kernel_rfl) Tryd.ntmps42 Tryd.call42 _ _ _ (by kernel_rfl) (by kernel_rfl) (by kernel_rfl)
    (fun w0 hG => lall_of (lall_cut (b := loopAt Tryd.f42 0) (ref01GetL0K w0 hG) (by kernel_rfl) (lall_nil)) (by kernel_rfl : loopsOf (bodyOf Tryd.f42) = _)) (fun p => Eq.trans (b := ref01GetB p) (by kernel_rfl) (ref01Get_eq p).symm)

noncomputable def ref01PutE : Entry := mkE [.u256] [.arr (.int .u8) 32] fun p => ref01Put p

def ref01PutL0Y : Lay := ⟨[(false, 1, .ptr 1001 []), (false, 2, .ptr 1002 []), (false, 3, .ptr 1003 [])], [(false, 4, .int .i64), (true, 1001, .u256), (true, 1002, .arr (.int .u8) 32), (true, 1003, .arr (.int .u8) 32)], [⟨[(1001, 1001), (1002, 1002), (1003, 1003)], []⟩]⟩

def ref01PutL0Z : List (Ex × Lay) := [(.exit 0, ⟨[(false, 2, .ptr 1002 []), (false, 3, .ptr 1003 [])], [(true, 1002, .arr (.int .u8) 32), (true, 1003, .arr (.int .u8) 32)], [⟨[(1002, 1002), (1003, 1003)], []⟩]⟩)]

noncomputable def ref01PutL0E : LEntry := mkL ref01PutL0Y ref01PutL0Z fun p => ref01PutL0 p.1 p.2.1 p.2.2.1 p.2.2.2

noncomputable def ref01PutX : Cx := mkCx Tryd.prog 23 globsF [] [(3, ref01PutL0E)] []

theorem ref01PutC : CxOk ref01PutX (Glob globsF) := cx_ok (by kernel_rfl) (by kernel_rfl) trivial

theorem ref01PutL0K (w0 : Ini) (hG : Glob globsF w0) : LoopOk ref01PutX w0 (loopAt Tryd.f40 0) ref01PutL0E :=
  loop_okH ref01PutC hG (loopAt Tryd.f40 0) (lall_of lall_nil (by kernel_rfl : loopsOf (loopAt Tryd.f40 0) = _))
    ref01PutL0Y ref01PutL0Z (by kernel_rfl) (fun p => ref01PutL0R p.1 p.2.1 p.2.2.1 p.2.2.2) (fun p => 1000) (fun p => by kernel_rfl) _ (fun p => ref01PutL0_eq p.1 p.2.1 p.2.2.1 p.2.2.2)

theorem ref01PutK : CallOk Tryd.prog (Glob globsF) 40 ref01PutE :=
  fun_ok (cx := ref01PutX) ref01PutC (fn := Tryd.f40) Tryd.func40 (by kernel_rfl) Tryd.ntmps40 Tryd.call40 _ _ _ (by kernel_rfl) (by kernel_rfl) (by kernel_rfl)
    (fun w0 hG => lall_of (lall_cut (b := loopAt Tryd.f40 0) (ref01PutL0K w0 hG) (by kernel_rfl) (lall_nil)) (by kernel_rfl : loopsOf (bodyOf Tryd.f40) = _)) (fun p => Eq.trans (b := ref01PutB p) (by kernel_rfl) (ref01Put_eq p).symm)

noncomputable def ecdsaIOrderE : Entry := mkE [] [.u256] fun _ => ecdsaIOrder

noncomputable def ecdsaIOrderX : Cx := mkCx Tryd.prog 8 globsF [(58, fieldModulusE)] [] []

theorem ecdsaIOrderC : CxOk ecdsaIOrderX (Glob globsF) := cx_ok (by kernel_rfl) (by kernel_rfl) ⟨fieldModulusK, trivial⟩

theorem ecdsaIOrderK : CallOk Tryd.prog (Glob globsF) 60 ecdsaIOrderE :=
  fun_ok (cx := ecdsaIOrderX) ecdsaIOrderC (fn := Tryd.f60) Tryd.func60 (by kernel_rfl) Tryd.ntmps60 Tryd.call60 _ _ _ (by kernel_rfl) (by kernel_rfl) (by kernel_rfl)
    (fun w0 hG => lall_of lall_nil (by kernel_rfl : loopsOf (bodyOf Tryd.f60) = _)) (fun p => Eq.trans (b := ecdsaIOrderB ) (by kernel_rfl) (ecdsaIOrder_eq ).symm)

noncomputable def ecdsaIFitE : Entry := mkE [.u256] [.bool] fun p => ecdsaIFit p

noncomputable def ecdsaIFitX : Cx := mkCx Tryd.prog 12 globsF [(59, u256CmpE), (60, ecdsaIOrderE)] [] []

theorem ecdsaIFitC : CxOk ecdsaIFitX (Glob globsF) := cx_ok (by kernel_rfl) (by kernel_rfl) ⟨u256CmpK, ecdsaIOrderK, trivial⟩

theorem ecdsaIFitK : CallOk Tryd.prog (Glob globsF) 43 ecdsaIFitE :=
  fun_ok (cx := ecdsaIFitX) ecdsaIFitC (fn := Tryd.f43) Tryd.func43 (by kernel_rfl) Tryd.ntmps43 Tryd.call43 _ _ _ (by kernel_rfl) (by kernel_rfl) (by kernel_rfl)
    (fun w0 hG => lall_of lall_nil (by kernel_rfl : loopsOf (bodyOf Tryd.f43) = _)) (fun p => Eq.trans (b := ecdsaIFitB p) (by kernel_rfl) (ecdsaIFit_eq p).symm)

noncomputable def ref06IOrderE : Entry := mkE [] [.u256] fun _ => ref06IOrder

noncomputable def ref06IOrderX : Cx := mkCx Tryd.prog 8 globsF [(111, ref04ModulusE)] [] []

theorem ref06IOrderC : CxOk ref06IOrderX (Glob globsF) := cx_ok (by kernel_rfl) (by kernel_rfl) ⟨ref04ModulusK, trivial⟩

theorem ref06IOrderK : CallOk Tryd.prog (Glob globsF) 93 ref06IOrderE :=
  fun_ok (cx := ref06IOrderX) ref06IOrderC (fn := Tryd.f93) Tryd.func93 (by kernel_rfl) Tryd.ntmps93 Tryd.call93 _ _ _ (by kernel_rfl) (by kernel_rfl) (by kernel_rfl)
    (fun w0 hG => lall_of lall_nil (by kernel_rfl : loopsOf (bodyOf Tryd.f93) = _)) (fun p => Eq.trans (b := ref06IOrderB ) (by kernel_rfl) (ref06IOrder_eq ).symm)

noncomputable def ref06FitE : Entry := mkE [.u256] [.bool] fun p => ref06Fit p

noncomputable def ref06FitX : Cx := mkCx Tryd.prog 12 globsF [(92, ref01CmpE), (93, ref06IOrderE)] [] []

theorem ref06FitC : CxOk ref06FitX (Glob globsF) := cx_ok (by kernel_rfl) (by kernel_rfl) ⟨ref01CmpK, ref06IOrderK, trivial⟩

theorem ref06FitK : CallOk Tryd.prog (Glob globsF) 55 ref06FitE :=
  fun_ok (cx := ref06FitX) ref06FitC (fn := Tryd.f55) Tryd.func55 (by kernel_rfl) Tryd.ntmps55 Tryd.call55 _ _ _ (by kernel_rfl) (by kernel_rfl) (by kernel_rfl)
    (fun w0 hG => lall_of lall_nil (by kernel_rfl : loopsOf (bodyOf Tryd.f55) = _)) (fun p => Eq.trans (b := ref06FitB p) (by kernel_rfl) (ref06Fit_eq p).symm)

noncomputable def law06INumE : Entry := mkE [.int .i64] [.int .i64] fun p => law06INum p

noncomputable def law06INumX : Cx := mkCx Tryd.prog 4 globsF [] [] []

theorem law06INumC : CxOk law06INumX (Glob globsF) := cx_ok (by kernel_rfl) (by kernel_rfl) trivial

theorem law06INumK : CallOk Tryd.prog (Glob globsF) 12 law06INumE :=
  fun_ok (cx := law06INumX) law06INumC (fn := Tryd.f12) Tryd.func12 (by kernel_rfl) Tryd.ntmps12 Tryd.call12 _ _ _ (by kernel_rfl) (by kernel_rfl) (by kernel_rfl)
    (fun w0 hG => lall_of lall_nil (by kernel_rfl : loopsOf (bodyOf Tryd.f12) = _)) (fun p => Eq.trans (b := law06INumB p) (by kernel_rfl) (law06INum_eq p).symm)

end Go.Sy
