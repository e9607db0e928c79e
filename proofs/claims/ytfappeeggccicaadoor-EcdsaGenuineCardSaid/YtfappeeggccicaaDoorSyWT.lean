/- The links: each typed function is what the code computes. Printed by a program. -/

import Derived.Test.YtfappeeggccicaaDoorSyVT

import Derived.Test.YtfappeeggccicaaDoorSyKf

import Derived.Test.YtfappeeggccicaaDoorProg

set_option linter.unusedVariables false

set_option maxRecDepth 100000

namespace Go.Sy

open Go Go.Proofs

def globs0x1 : List (Nat × AV) := [(0, .arr .u2 2 fieldModuli), (1, .arr (.int .u64) 8 curveBase)]

def globs0x2 : List (Nat × AV) := [(0, .arr .u2 2 fieldModuli), (2, .arr (.int .u32) 8 shaStartT)]

def globs0x2x3 : List (Nat × AV) := [(0, .arr .u2 2 fieldModuli), (2, .arr (.int .u32) 8 shaStartT), (3, .arr (.int .u32) 64 shaConstsT)]

def globs0x3 : List (Nat × AV) := [(0, .arr .u2 2 fieldModuli), (3, .arr (.int .u32) 64 shaConstsT)]

def globsF : List (Nat × AV) := [(0, .arr .u2 2 fieldModuli)]

def globsG : List (Nat × AV) := [(0, .arr .u2 2 fieldModuli), (1, .arr (.int .u64) 8 curveBase), (2, .arr (.int .u32) 8 shaStartT), (3, .arr (.int .u32) 64 shaConstsT)]

theorem globs0x1_globsG : ∀ x ∈ globs0x1, x ∈ globsG := by intro x hx; simp only [globs0x1, globsG, List.mem_cons, List.not_mem_nil, or_false] at hx ⊢; rcases hx with h | h <;> simp [h]

theorem globs0x2_globs0x2x3 : ∀ x ∈ globs0x2, x ∈ globs0x2x3 := by intro x hx; simp only [globs0x2, globs0x2x3, List.mem_cons, List.not_mem_nil, or_false] at hx ⊢; rcases hx with h | h <;> simp [h]

theorem globs0x2x3_globsG : ∀ x ∈ globs0x2x3, x ∈ globsG := by intro x hx; simp only [globs0x2x3, globsG, List.mem_cons, List.not_mem_nil, or_false] at hx ⊢; rcases hx with h | h | h <;> simp [h]

theorem globs0x3_globs0x2x3 : ∀ x ∈ globs0x3, x ∈ globs0x2x3 := by intro x hx; simp only [globs0x3, globs0x2x3, List.mem_cons, List.not_mem_nil, or_false] at hx ⊢; rcases hx with h | h <;> simp [h]

theorem globsF_globs0x1 : ∀ x ∈ globsF, x ∈ globs0x1 := by intro x hx; simp only [globsF, globs0x1, List.mem_cons, List.not_mem_nil, or_false] at hx ⊢; simp [hx]

theorem globsF_globs0x2x3 : ∀ x ∈ globsF, x ∈ globs0x2x3 := by intro x hx; simp only [globsF, globs0x2x3, List.mem_cons, List.not_mem_nil, or_false] at hx ⊢; simp [hx]

theorem globsF_globs0x3 : ∀ x ∈ globsF, x ∈ globs0x3 := by intro x hx; simp only [globsF, globs0x3, List.mem_cons, List.not_mem_nil, or_false] at hx ⊢; simp [hx]

theorem globsF_globsG : ∀ x ∈ globsF, x ∈ globsG := by intro x hx; simp only [globsF, globsG, List.mem_cons, List.not_mem_nil, or_false] at hx ⊢; simp [hx]

theorem bitsAdd64K : CallOk Tryd.prog (Glob globsF) 116 bitsAdd64E := bitsAdd64_ok (fn := Tryd.f116) Tryd.func116 (by kernel_rfl) (by kernel_rfl) (by kernel_rfl) (by kernel_rfl)

theorem bitsSub64K : CallOk Tryd.prog (Glob globsF) 117 bitsSub64E := bitsSub64_ok (fn := Tryd.f117) Tryd.func117 (by kernel_rfl) (by kernel_rfl) (by kernel_rfl) (by kernel_rfl)

noncomputable def fieldIOfE : Entry := mkE [.int .i64] [.st [.u256, .u256], .int .i64] fun p => fieldIOf p

noncomputable def fieldIOfX : Cx := mkCx Tryd.prog 14 globsF [] [] []

theorem fieldIOfC : CxOk fieldIOfX (Glob globsF) := cx_ok (by kernel_rfl) (by kernel_rfl) trivial

theorem fieldIOfK : CallOk Tryd.prog (Glob globsF) 47 fieldIOfE :=
  fun_ok (cx := fieldIOfX) fieldIOfC (fn := Tryd.f47) Tryd.func47 (by kernel_rfl) Tryd.ntmps47 Tryd.call47 _ _ _ (by kernel_rfl) (by kernel_rfl) (by kernel_rfl)
    (fun w0 hG => lall_of lall_nil (by kernel_rfl : loopsOf (bodyOf Tryd.f47) = _)) (fun p => Eq.trans (b := fieldIOfB p) (by kernel_rfl) (fieldIOf_eq p).symm)

noncomputable def fieldModulusE : Entry := mkE [.int .i64] [.u256, .int .i64] fun p => fieldModulus p

noncomputable def fieldModulusX : Cx := mkCx Tryd.prog 14 globsF [(47, fieldIOfE)] [] []

theorem fieldModulusC : CxOk fieldModulusX (Glob globsF) := cx_ok (by kernel_rfl) (by kernel_rfl) ⟨fieldIOfK, trivial⟩

theorem fieldModulusK : CallOk Tryd.prog (Glob globsF) 58 fieldModulusE :=
  fun_ok (cx := fieldModulusX) fieldModulusC (fn := Tryd.f58) Tryd.func58 (by kernel_rfl) Tryd.ntmps58 Tryd.call58 _ _ _ (by kernel_rfl) (by kernel_rfl) (by kernel_rfl)
    (fun w0 hG => lall_of lall_nil (by kernel_rfl : loopsOf (bodyOf Tryd.f58) = _)) (fun p => Eq.trans (b := fieldModulusB p) (by kernel_rfl) (fieldModulus_eq p).symm)

noncomputable def u256AddE : Entry := mkE [.u256, .u256] [.u256, .int .u64] fun p => u256Add p.1 p.2

noncomputable def u256AddX : Cx := mkCx Tryd.prog 28 globsF [(116, bitsAdd64E)] [] []

theorem u256AddC : CxOk u256AddX (Glob globsF) := cx_ok (by kernel_rfl) (by kernel_rfl) ⟨bitsAdd64K, trivial⟩

theorem u256AddK : CallOk Tryd.prog (Glob globsF) 114 u256AddE :=
  fun_ok (cx := u256AddX) u256AddC (fn := Tryd.f114) Tryd.func114 (by kernel_rfl) Tryd.ntmps114 Tryd.call114 _ _ _ (by kernel_rfl) (by kernel_rfl) (by kernel_rfl)
    (fun w0 hG => lall_of (lall_free (b := loopAt Tryd.f114 0) (by kernel_rfl) (lall_nil)) (by kernel_rfl : loopsOf (bodyOf Tryd.f114) = _)) (fun p => Eq.trans (b := u256AddB p.1 p.2) (by kernel_rfl) (u256Add_eq p.1 p.2).symm)

noncomputable def u256FromE : Entry := mkE [.int .u64] [.u256] fun p => u256From p

noncomputable def u256FromX : Cx := mkCx Tryd.prog 5 globsF [] [] []

theorem u256FromC : CxOk u256FromX (Glob globsF) := cx_ok (by kernel_rfl) (by kernel_rfl) trivial

theorem u256FromK : CallOk Tryd.prog (Glob globsF) 48 u256FromE :=
  fun_ok (cx := u256FromX) u256FromC (fn := Tryd.f48) Tryd.func48 (by kernel_rfl) Tryd.ntmps48 Tryd.call48 _ _ _ (by kernel_rfl) (by kernel_rfl) (by kernel_rfl)
    (fun w0 hG => lall_of lall_nil (by kernel_rfl : loopsOf (bodyOf Tryd.f48) = _)) (fun p => Eq.trans (b := u256FromB p) (by kernel_rfl) (u256From_eq p).symm)

noncomputable def bitsMul64E : Entry := mkE [.int .u64, .int .u64] [.int .u64, .int .u64] fun p => bitsMul64 p.1 p.2

noncomputable def bitsMul64X : Cx := mkCx Tryd.prog 51 globsF [] [] []

theorem bitsMul64C : CxOk bitsMul64X (Glob globsF) := cx_ok (by kernel_rfl) (by kernel_rfl) trivial

theorem bitsMul64K : CallOk Tryd.prog (Glob globsF) 115 bitsMul64E :=
  fun_ok (cx := bitsMul64X) bitsMul64C (fn := Tryd.f115) Tryd.func115 (by kernel_rfl) Tryd.ntmps115 Tryd.call115 _ _ _ (by kernel_rfl) (by kernel_rfl) (by kernel_rfl)
    (fun w0 hG => lall_of lall_nil (by kernel_rfl : loopsOf (bodyOf Tryd.f115) = _)) (fun p => Eq.trans (b := bitsMul64B p.1 p.2) (by kernel_rfl) (bitsMul64_eq p.1 p.2).symm)

noncomputable def u256MulE : Entry := mkE [.u256, .u256] [.u256, .u256] fun p => u256Mul p.1 p.2

def u256MulL1Y : Lay := ⟨[(false, 2, .ptr 1002 []), (false, 3, .ptr 1003 []), (false, 4, .ptr 1004 []), (false, 5, .ptr 1005 []), (false, 6, .ptr 1006 [])], [(false, 7, .int .i64), (false, 8, .int .u64), (false, 13, .int .i64), (false, 16, .int .i64), (true, 1002, .u256), (true, 1003, .u256), (true, 1004, .u256), (true, 1005, .u256), (true, 1006, .arr (.int .u64) 8)], [⟨[(1002, 1002), (1003, 1003), (1004, 1004), (1005, 1005), (1006, 1006)], []⟩]⟩

def u256MulL1Z : List (Ex × Lay) := [(.exit 2, ⟨[(false, 2, .ptr 1002 []), (false, 3, .ptr 1003 []), (false, 4, .ptr 1004 []), (false, 5, .ptr 1005 []), (false, 6, .ptr 1006 [])], [(false, 7, .int .i64), (false, 8, .int .u64), (false, 13, .int .i64), (true, 1002, .u256), (true, 1003, .u256), (true, 1004, .u256), (true, 1005, .u256), (true, 1006, .arr (.int .u64) 8)], [⟨[(1002, 1002), (1003, 1003), (1004, 1004), (1005, 1005), (1006, 1006)], []⟩]⟩)]

noncomputable def u256MulL1E : LEntry := mkL u256MulL1Y u256MulL1Z fun p => u256MulL1 p.1 p.2.1 p.2.2.1 p.2.2.2.1 p.2.2.2.2.1 p.2.2.2.2.2.1 p.2.2.2.2.2.2.1 p.2.2.2.2.2.2.2.1 p.2.2.2.2.2.2.2.2

def u256MulL0Y : Lay := ⟨[(false, 2, .ptr 1002 []), (false, 3, .ptr 1003 []), (false, 4, .ptr 1004 []), (false, 5, .ptr 1005 []), (false, 6, .ptr 1006 [])], [(false, 13, .int .i64), (true, 1002, .u256), (true, 1003, .u256), (true, 1004, .u256), (true, 1005, .u256), (true, 1006, .arr (.int .u64) 8)], [⟨[(1002, 1002), (1003, 1003), (1004, 1004), (1005, 1005), (1006, 1006)], []⟩]⟩

def u256MulL0Z : List (Ex × Lay) := [(.exit 0, ⟨[(false, 4, .ptr 1004 []), (false, 5, .ptr 1005 []), (false, 6, .ptr 1006 [])], [(true, 1004, .u256), (true, 1005, .u256), (true, 1006, .arr (.int .u64) 8)], [⟨[(1004, 1004), (1005, 1005), (1006, 1006)], []⟩]⟩)]

noncomputable def u256MulL0E : LEntry := mkL u256MulL0Y u256MulL0Z fun p => u256MulL0 p.1 p.2.1 p.2.2.1 p.2.2.2.1 p.2.2.2.2.1 p.2.2.2.2.2

noncomputable def u256MulX : Cx := mkCx Tryd.prog 70 globsF [(115, bitsMul64E), (116, bitsAdd64E)] [(3, u256MulL0E), (7, u256MulL1E)] []

theorem u256MulC : CxOk u256MulX (Glob globsF) := cx_ok (by kernel_rfl) (by kernel_rfl) ⟨bitsMul64K, bitsAdd64K, trivial⟩

theorem u256MulL1K (w0 : Ini) (hG : Glob globsF w0) : LoopOk u256MulX w0 (loopAt Tryd.f82 1) u256MulL1E :=
  loop_okH u256MulC hG (loopAt Tryd.f82 1) (lall_of lall_nil (by kernel_rfl : loopsOf (loopAt Tryd.f82 1) = _))
    u256MulL1Y u256MulL1Z (by kernel_rfl) (fun p => u256MulL1R p.1 p.2.1 p.2.2.1 p.2.2.2.1 p.2.2.2.2.1 p.2.2.2.2.2.1 p.2.2.2.2.2.2.1 p.2.2.2.2.2.2.2.1 p.2.2.2.2.2.2.2.2) (fun p => 1000) (fun p => by kernel_rfl) _ (fun p => u256MulL1_eq p.1 p.2.1 p.2.2.1 p.2.2.2.1 p.2.2.2.2.1 p.2.2.2.2.2.1 p.2.2.2.2.2.2.1 p.2.2.2.2.2.2.2.1 p.2.2.2.2.2.2.2.2)

theorem u256MulL0K (w0 : Ini) (hG : Glob globsF w0) : LoopOk u256MulX w0 (loopAt Tryd.f82 0) u256MulL0E :=
  loop_okH u256MulC hG (loopAt Tryd.f82 0) (lall_of (lall_cut (b := loopAt Tryd.f82 1) (u256MulL1K w0 hG) (by kernel_rfl) (lall_nil)) (by kernel_rfl : loopsOf (loopAt Tryd.f82 0) = _))
    u256MulL0Y u256MulL0Z (by kernel_rfl) (fun p => u256MulL0R p.1 p.2.1 p.2.2.1 p.2.2.2.1 p.2.2.2.2.1 p.2.2.2.2.2) (fun p => 1000) (fun p => by kernel_rfl) _ (fun p => u256MulL0_eq p.1 p.2.1 p.2.2.1 p.2.2.2.1 p.2.2.2.2.1 p.2.2.2.2.2)

theorem u256MulK : CallOk Tryd.prog (Glob globsF) 82 u256MulE :=
  fun_ok (cx := u256MulX) u256MulC (fn := Tryd.f82) Tryd.func82 (by kernel_rfl) Tryd.ntmps82 Tryd.call82 _ _ _ (by kernel_rfl) (by kernel_rfl) (by kernel_rfl)
    (fun w0 hG => lall_of (lall_cut (b := loopAt Tryd.f82 0) (u256MulL0K w0 hG) (by kernel_rfl) (lall_cut (b := loopAt Tryd.f82 1) (u256MulL1K w0 hG) (by kernel_rfl) (lall_nil))) (by kernel_rfl : loopsOf (bodyOf Tryd.f82) = _)) (fun p => Eq.trans (b := u256MulB p.1 p.2) (by kernel_rfl) (u256Mul_eq p.1 p.2).symm)

noncomputable def u256SubE : Entry := mkE [.u256, .u256] [.u256, .int .u64] fun p => u256Sub p.1 p.2

noncomputable def u256SubX : Cx := mkCx Tryd.prog 28 globsF [(117, bitsSub64E)] [] []

theorem u256SubC : CxOk u256SubX (Glob globsF) := cx_ok (by kernel_rfl) (by kernel_rfl) ⟨bitsSub64K, trivial⟩

theorem u256SubK : CallOk Tryd.prog (Glob globsF) 83 u256SubE :=
  fun_ok (cx := u256SubX) u256SubC (fn := Tryd.f83) Tryd.func83 (by kernel_rfl) Tryd.ntmps83 Tryd.call83 _ _ _ (by kernel_rfl) (by kernel_rfl) (by kernel_rfl)
    (fun w0 hG => lall_of (lall_free (b := loopAt Tryd.f83 0) (by kernel_rfl) (lall_nil)) (by kernel_rfl : loopsOf (bodyOf Tryd.f83) = _)) (fun p => Eq.trans (b := u256SubB p.1 p.2) (by kernel_rfl) (u256Sub_eq p.1 p.2).symm)

noncomputable def u256CmpE : Entry := mkE [.u256, .u256] [.int .i64] fun p => u256Cmp p.1 p.2

noncomputable def u256CmpX : Cx := mkCx Tryd.prog 18 globsF [(83, u256SubE)] [] []

theorem u256CmpC : CxOk u256CmpX (Glob globsF) := cx_ok (by kernel_rfl) (by kernel_rfl) ⟨u256SubK, trivial⟩

theorem u256CmpK : CallOk Tryd.prog (Glob globsF) 59 u256CmpE :=
  fun_ok (cx := u256CmpX) u256CmpC (fn := Tryd.f59) Tryd.func59 (by kernel_rfl) Tryd.ntmps59 Tryd.call59 _ _ _ (by kernel_rfl) (by kernel_rfl) (by kernel_rfl)
    (fun w0 hG => lall_of lall_nil (by kernel_rfl : loopsOf (bodyOf Tryd.f59) = _)) (fun p => Eq.trans (b := u256CmpB p.1 p.2) (by kernel_rfl) (u256Cmp_eq p.1 p.2).symm)

noncomputable def fieldModulusFoldE : Entry := mkE [.st [.u256, .u256], .u256, .u256] [.u256] fun p => fieldModulusFold p.1 p.2.1 p.2.2

def fieldModulusFoldL0Y : Lay := ⟨[(false, 3, .ptr 1003 []), (false, 4, .ptr 1004 []), (false, 5, .ptr 1005 []), (false, 6, .ptr 1006 [])], [(true, 1003, .st [.u256, .u256]), (true, 1004, .u256), (true, 1005, .u256), (true, 1006, .u256)], [⟨[(1003, 1003), (1004, 1004), (1005, 1005), (1006, 1006)], []⟩]⟩

def fieldModulusFoldL0Z : List (Ex × Lay) := [(.exit 0, ⟨[(false, 3, .ptr 1003 []), (false, 5, .ptr 1005 []), (false, 6, .ptr 1006 [])], [(true, 1003, .st [.u256, .u256]), (true, 1005, .u256), (true, 1006, .u256)], [⟨[(1003, 1003), (1005, 1005), (1006, 1006)], []⟩]⟩)]

noncomputable def fieldModulusFoldL0E : LEntry := mkL fieldModulusFoldL0Y fieldModulusFoldL0Z fun p => fieldModulusFoldL0 p.1 p.2.1 p.2.2.1 p.2.2.2

def fieldModulusFoldL1Y : Lay := ⟨[(false, 3, .ptr 1003 []), (false, 5, .ptr 1005 []), (false, 6, .ptr 1006 [])], [(true, 1003, .st [.u256, .u256]), (true, 1005, .u256), (true, 1006, .u256)], [⟨[(1003, 1003), (1005, 1005), (1006, 1006)], []⟩]⟩

def fieldModulusFoldL1Z : List (Ex × Lay) := [(.exit 2, ⟨[(false, 5, .ptr 1005 []), (false, 6, .ptr 1006 [])], [(true, 1005, .u256), (true, 1006, .u256)], [⟨[(1005, 1005), (1006, 1006)], []⟩]⟩)]

noncomputable def fieldModulusFoldL1E : LEntry := mkL fieldModulusFoldL1Y fieldModulusFoldL1Z fun p => fieldModulusFoldL1 p.1 p.2.1 p.2.2

noncomputable def fieldModulusFoldX : Cx := mkCx Tryd.prog 46 globsF [(48, u256FromE), (59, u256CmpE), (82, u256MulE), (83, u256SubE), (114, u256AddE)] [(1, fieldModulusFoldL0E), (6, fieldModulusFoldL1E)] []

theorem fieldModulusFoldC : CxOk fieldModulusFoldX (Glob globsF) := cx_ok (by kernel_rfl) (by kernel_rfl) ⟨u256FromK, u256CmpK, u256MulK, u256SubK, u256AddK, trivial⟩

theorem fieldModulusFoldL0K (w0 : Ini) (hG : Glob globsF w0) : LoopOk fieldModulusFoldX w0 (loopAt Tryd.f81 0) fieldModulusFoldL0E :=
  loop_okH fieldModulusFoldC hG (loopAt Tryd.f81 0) (lall_of lall_nil (by kernel_rfl : loopsOf (loopAt Tryd.f81 0) = _))
    fieldModulusFoldL0Y fieldModulusFoldL0Z (by kernel_rfl) (fun p => fieldModulusFoldL0R p.1 p.2.1 p.2.2.1 p.2.2.2) (fun p => 1000) (fun p => by kernel_rfl) _ (fun p => fieldModulusFoldL0_eq p.1 p.2.1 p.2.2.1 p.2.2.2)

theorem fieldModulusFoldL1K (w0 : Ini) (hG : Glob globsF w0) : LoopOk fieldModulusFoldX w0 (loopAt Tryd.f81 1) fieldModulusFoldL1E :=
  loop_okH fieldModulusFoldC hG (loopAt Tryd.f81 1) (lall_of lall_nil (by kernel_rfl : loopsOf (loopAt Tryd.f81 1) = _))
    fieldModulusFoldL1Y fieldModulusFoldL1Z (by kernel_rfl) (fun p => fieldModulusFoldL1R p.1 p.2.1 p.2.2) (fun p => 1000) (fun p => by kernel_rfl) _ (fun p => fieldModulusFoldL1_eq p.1 p.2.1 p.2.2)

theorem fieldModulusFoldK : CallOk Tryd.prog (Glob globsF) 81 fieldModulusFoldE :=
  fun_ok (cx := fieldModulusFoldX) fieldModulusFoldC (fn := Tryd.f81) Tryd.func81 (by kernel_rfl) Tryd.ntmps81 Tryd.call81 _ _ _ (by kernel_rfl) (by kernel_rfl) (by kernel_rfl)
    (fun w0 hG => lall_of (lall_cut (b := loopAt Tryd.f81 0) (fieldModulusFoldL0K w0 hG) (by kernel_rfl) (lall_cut (b := loopAt Tryd.f81 1) (fieldModulusFoldL1K w0 hG) (by kernel_rfl) (lall_nil))) (by kernel_rfl : loopsOf (bodyOf Tryd.f81) = _)) (fun p => Eq.trans (b := fieldModulusFoldB p.1 p.2.1 p.2.2) (by kernel_rfl) (fieldModulusFold_eq p.1 p.2.1 p.2.2).symm)

noncomputable def fieldModulusAddE : Entry := mkE [.st [.u256, .u256], .u256, .u256] [.u256] fun p => fieldModulusAdd p.1 p.2.1 p.2.2

noncomputable def fieldModulusAddX : Cx := mkCx Tryd.prog 20 globsF [(48, u256FromE), (81, fieldModulusFoldE), (114, u256AddE)] [] []

theorem fieldModulusAddC : CxOk fieldModulusAddX (Glob globsF) := cx_ok (by kernel_rfl) (by kernel_rfl) ⟨u256FromK, fieldModulusFoldK, u256AddK, trivial⟩

theorem fieldModulusAddK : CallOk Tryd.prog (Glob globsF) 97 fieldModulusAddE :=
  fun_ok (cx := fieldModulusAddX) fieldModulusAddC (fn := Tryd.f97) Tryd.func97 (by kernel_rfl) Tryd.ntmps97 Tryd.call97 _ _ _ (by kernel_rfl) (by kernel_rfl) (by kernel_rfl)
    (fun w0 hG => lall_of lall_nil (by kernel_rfl : loopsOf (bodyOf Tryd.f97) = _)) (fun p => Eq.trans (b := fieldModulusAddB p.1 p.2.1 p.2.2) (by kernel_rfl) (fieldModulusAdd_eq p.1 p.2.1 p.2.2).symm)

noncomputable def fieldAddE : Entry := mkE [.int .i64, .u256, .u256] [.u256, .int .i64] fun p => fieldAdd p.1 p.2.1 p.2.2

noncomputable def fieldAddX : Cx := mkCx Tryd.prog 23 globsF [(47, fieldIOfE), (97, fieldModulusAddE)] [] []

theorem fieldAddC : CxOk fieldAddX (Glob globsF) := cx_ok (by kernel_rfl) (by kernel_rfl) ⟨fieldIOfK, fieldModulusAddK, trivial⟩

theorem fieldAddK : CallOk Tryd.prog (Glob globsF) 62 fieldAddE :=
  fun_ok (cx := fieldAddX) fieldAddC (fn := Tryd.f62) Tryd.func62 (by kernel_rfl) Tryd.ntmps62 Tryd.call62 _ _ _ (by kernel_rfl) (by kernel_rfl) (by kernel_rfl)
    (fun w0 hG => lall_of lall_nil (by kernel_rfl : loopsOf (bodyOf Tryd.f62) = _)) (fun p => Eq.trans (b := fieldAddB p.1 p.2.1 p.2.2) (by kernel_rfl) (fieldAdd_eq p.1 p.2.1 p.2.2).symm)

noncomputable def fieldModulusOneE : Entry := mkE [.st [.u256, .u256], .u256] [.u256] fun p => fieldModulusOne p.1 p.2

noncomputable def fieldModulusOneX : Cx := mkCx Tryd.prog 9 globsF [(81, fieldModulusFoldE)] [] []

theorem fieldModulusOneC : CxOk fieldModulusOneX (Glob globsF) := cx_ok (by kernel_rfl) (by kernel_rfl) ⟨fieldModulusFoldK, trivial⟩

theorem fieldModulusOneK : CallOk Tryd.prog (Glob globsF) 49 fieldModulusOneE :=
  fun_ok (cx := fieldModulusOneX) fieldModulusOneC (fn := Tryd.f49) Tryd.func49 (by kernel_rfl) Tryd.ntmps49 Tryd.call49 _ _ _ (by kernel_rfl) (by kernel_rfl) (by kernel_rfl)
    (fun w0 hG => lall_of lall_nil (by kernel_rfl : loopsOf (bodyOf Tryd.f49) = _)) (fun p => Eq.trans (b := fieldModulusOneB p.1 p.2) (by kernel_rfl) (fieldModulusOne_eq p.1 p.2).symm)

noncomputable def fieldModulusNegE : Entry := mkE [.st [.u256, .u256], .u256] [.u256] fun p => fieldModulusNeg p.1 p.2

noncomputable def fieldModulusNegX : Cx := mkCx Tryd.prog 19 globsF [(49, fieldModulusOneE), (83, u256SubE)] [] []

theorem fieldModulusNegC : CxOk fieldModulusNegX (Glob globsF) := cx_ok (by kernel_rfl) (by kernel_rfl) ⟨fieldModulusOneK, u256SubK, trivial⟩

theorem fieldModulusNegK : CallOk Tryd.prog (Glob globsF) 99 fieldModulusNegE :=
  fun_ok (cx := fieldModulusNegX) fieldModulusNegC (fn := Tryd.f99) Tryd.func99 (by kernel_rfl) Tryd.ntmps99 Tryd.call99 _ _ _ (by kernel_rfl) (by kernel_rfl) (by kernel_rfl)
    (fun w0 hG => lall_of lall_nil (by kernel_rfl : loopsOf (bodyOf Tryd.f99) = _)) (fun p => Eq.trans (b := fieldModulusNegB p.1 p.2) (by kernel_rfl) (fieldModulusNeg_eq p.1 p.2).symm)

noncomputable def fieldSubE : Entry := mkE [.int .i64, .u256, .u256] [.u256, .int .i64] fun p => fieldSub p.1 p.2.1 p.2.2

noncomputable def fieldSubX : Cx := mkCx Tryd.prog 25 globsF [(47, fieldIOfE), (97, fieldModulusAddE), (99, fieldModulusNegE)] [] []

theorem fieldSubC : CxOk fieldSubX (Glob globsF) := cx_ok (by kernel_rfl) (by kernel_rfl) ⟨fieldIOfK, fieldModulusAddK, fieldModulusNegK, trivial⟩

theorem fieldSubK : CallOk Tryd.prog (Glob globsF) 131 fieldSubE :=
  fun_ok (cx := fieldSubX) fieldSubC (fn := Tryd.f131) Tryd.func131 (by kernel_rfl) Tryd.ntmps131 Tryd.call131 _ _ _ (by kernel_rfl) (by kernel_rfl) (by kernel_rfl)
    (fun w0 hG => lall_of lall_nil (by kernel_rfl : loopsOf (bodyOf Tryd.f131) = _)) (fun p => Eq.trans (b := fieldSubB p.1 p.2.1 p.2.2) (by kernel_rfl) (fieldSub_eq p.1 p.2.1 p.2.2).symm)

noncomputable def fieldNegE : Entry := mkE [.int .i64, .u256] [.u256, .int .i64] fun p => fieldNeg p.1 p.2

noncomputable def fieldNegX : Cx := mkCx Tryd.prog 20 globsF [(47, fieldIOfE), (99, fieldModulusNegE)] [] []

theorem fieldNegC : CxOk fieldNegX (Glob globsF) := cx_ok (by kernel_rfl) (by kernel_rfl) ⟨fieldIOfK, fieldModulusNegK, trivial⟩

theorem fieldNegK : CallOk Tryd.prog (Glob globsF) 66 fieldNegE :=
  fun_ok (cx := fieldNegX) fieldNegC (fn := Tryd.f66) Tryd.func66 (by kernel_rfl) Tryd.ntmps66 Tryd.call66 _ _ _ (by kernel_rfl) (by kernel_rfl) (by kernel_rfl)
    (fun w0 hG => lall_of lall_nil (by kernel_rfl : loopsOf (bodyOf Tryd.f66) = _)) (fun p => Eq.trans (b := fieldNegB p.1 p.2) (by kernel_rfl) (fieldNeg_eq p.1 p.2).symm)

noncomputable def fieldModulusMulE : Entry := mkE [.st [.u256, .u256], .u256, .u256] [.u256] fun p => fieldModulusMul p.1 p.2.1 p.2.2

noncomputable def fieldModulusMulX : Cx := mkCx Tryd.prog 14 globsF [(81, fieldModulusFoldE), (82, u256MulE)] [] []

theorem fieldModulusMulC : CxOk fieldModulusMulX (Glob globsF) := cx_ok (by kernel_rfl) (by kernel_rfl) ⟨fieldModulusFoldK, u256MulK, trivial⟩

theorem fieldModulusMulK : CallOk Tryd.prog (Glob globsF) 50 fieldModulusMulE :=
  fun_ok (cx := fieldModulusMulX) fieldModulusMulC (fn := Tryd.f50) Tryd.func50 (by kernel_rfl) Tryd.ntmps50 Tryd.call50 _ _ _ (by kernel_rfl) (by kernel_rfl) (by kernel_rfl)
    (fun w0 hG => lall_of lall_nil (by kernel_rfl : loopsOf (bodyOf Tryd.f50) = _)) (fun p => Eq.trans (b := fieldModulusMulB p.1 p.2.1 p.2.2) (by kernel_rfl) (fieldModulusMul_eq p.1 p.2.1 p.2.2).symm)

noncomputable def fieldMulE : Entry := mkE [.int .i64, .u256, .u256] [.u256, .int .i64] fun p => fieldMul p.1 p.2.1 p.2.2

noncomputable def fieldMulX : Cx := mkCx Tryd.prog 23 globsF [(47, fieldIOfE), (50, fieldModulusMulE)] [] []

theorem fieldMulC : CxOk fieldMulX (Glob globsF) := cx_ok (by kernel_rfl) (by kernel_rfl) ⟨fieldIOfK, fieldModulusMulK, trivial⟩

theorem fieldMulK : CallOk Tryd.prog (Glob globsF) 61 fieldMulE :=
  fun_ok (cx := fieldMulX) fieldMulC (fn := Tryd.f61) Tryd.func61 (by kernel_rfl) Tryd.ntmps61 Tryd.call61 _ _ _ (by kernel_rfl) (by kernel_rfl) (by kernel_rfl)
    (fun w0 hG => lall_of lall_nil (by kernel_rfl : loopsOf (bodyOf Tryd.f61) = _)) (fun p => Eq.trans (b := fieldMulB p.1 p.2.1 p.2.2) (by kernel_rfl) (fieldMul_eq p.1 p.2.1 p.2.2).symm)

noncomputable def bitsLen64E : Entry := mkE [.int .u64] [.int .i64] fun p => bitsLen64 p

noncomputable def bitsLen64X : Cx := mkCx Tryd.prog 25 globsF [] [] []

theorem bitsLen64C : CxOk bitsLen64X (Glob globsF) := cx_ok (by kernel_rfl) (by kernel_rfl) trivial

theorem bitsLen64K : CallOk Tryd.prog (Glob globsF) 138 bitsLen64E :=
  fun_ok (cx := bitsLen64X) bitsLen64C (fn := Tryd.f138) Tryd.func138 (by kernel_rfl) Tryd.ntmps138 Tryd.call138 _ _ _ (by kernel_rfl) (by kernel_rfl) (by kernel_rfl)
    (fun w0 hG => lall_of lall_nil (by kernel_rfl : loopsOf (bodyOf Tryd.f138) = _)) (fun p => Eq.trans (b := bitsLen64B p) (by kernel_rfl) (bitsLen64_eq p).symm)

noncomputable def u256LenE : Entry := mkE [.u256] [.int .i64] fun p => u256Len p

def u256LenL0Y : Lay := ⟨[(false, 1, .ptr 1001 [])], [(false, 3, .int .i64), (true, 1001, .u256)], [⟨[(1001, 1001)], []⟩]⟩

def u256LenL0Z : List (Ex × Lay) := [(.ret, ⟨[], [(false, 2, .int .i64)], [⟨[], []⟩]⟩), (.exit 0, ⟨[], [], [⟨[], []⟩]⟩)]

noncomputable def u256LenL0E : LEntry := mkL u256LenL0Y u256LenL0Z fun p => u256LenL0 p.1 p.2

noncomputable def u256LenX : Cx := mkCx Tryd.prog 19 globsF [(138, bitsLen64E)] [(2, u256LenL0E)] []

theorem u256LenC : CxOk u256LenX (Glob globsF) := cx_ok (by kernel_rfl) (by kernel_rfl) ⟨bitsLen64K, trivial⟩

theorem u256LenL0K (w0 : Ini) (hG : Glob globsF w0) : LoopOk u256LenX w0 (loopAt Tryd.f118 0) u256LenL0E :=
  loop_okH u256LenC hG (loopAt Tryd.f118 0) (lall_of lall_nil (by kernel_rfl : loopsOf (loopAt Tryd.f118 0) = _))
    u256LenL0Y u256LenL0Z (by kernel_rfl) (fun p => u256LenL0R p.1 p.2) (fun p => 1000) (fun p => by kernel_rfl) _ (fun p => u256LenL0_eq p.1 p.2)

theorem u256LenK : CallOk Tryd.prog (Glob globsF) 118 u256LenE :=
  fun_ok (cx := u256LenX) u256LenC (fn := Tryd.f118) Tryd.func118 (by kernel_rfl) Tryd.ntmps118 Tryd.call118 _ _ _ (by kernel_rfl) (by kernel_rfl) (by kernel_rfl)
    (fun w0 hG => lall_of (lall_cut (b := loopAt Tryd.f118 0) (u256LenL0K w0 hG) (by kernel_rfl) (lall_nil)) (by kernel_rfl : loopsOf (bodyOf Tryd.f118) = _)) (fun p => Eq.trans (b := u256LenB p) (by kernel_rfl) (u256Len_eq p).symm)

noncomputable def u256BitE : Entry := mkE [.u256, .int .i64] [.int .i64] fun p => u256Bit p.1 p.2

noncomputable def u256BitX : Cx := mkCx Tryd.prog 20 globsF [] [] []

theorem u256BitC : CxOk u256BitX (Glob globsF) := cx_ok (by kernel_rfl) (by kernel_rfl) trivial

theorem u256BitK : CallOk Tryd.prog (Glob globsF) 65 u256BitE :=
  fun_ok (cx := u256BitX) u256BitC (fn := Tryd.f65) Tryd.func65 (by kernel_rfl) Tryd.ntmps65 Tryd.call65 _ _ _ (by kernel_rfl) (by kernel_rfl) (by kernel_rfl)
    (fun w0 hG => lall_of lall_nil (by kernel_rfl : loopsOf (bodyOf Tryd.f65) = _)) (fun p => Eq.trans (b := u256BitB p.1 p.2) (by kernel_rfl) (u256Bit_eq p.1 p.2).symm)

noncomputable def fieldModulusExpE : Entry := mkE [.st [.u256, .u256], .u256, .u256] [.u256] fun p => fieldModulusExp p.1 p.2.1 p.2.2

def fieldModulusExpL0Y : Lay := ⟨[(false, 3, .ptr 1003 []), (false, 4, .ptr 1004 []), (false, 5, .ptr 1005 []), (false, 6, .ptr 1006 []), (false, 7, .ptr 1007 [])], [(false, 8, .int .i64), (true, 1003, .st [.u256, .u256]), (true, 1004, .u256), (true, 1005, .u256), (true, 1006, .u256), (true, 1007, .u256)], [⟨[(1003, 1003), (1004, 1004), (1005, 1005), (1006, 1006), (1007, 1007)], []⟩]⟩

def fieldModulusExpL0Z : List (Ex × Lay) := [(.exit 0, ⟨[(false, 6, .ptr 1006 []), (false, 7, .ptr 1007 [])], [(true, 1006, .u256), (true, 1007, .u256)], [⟨[(1006, 1006), (1007, 1007)], []⟩]⟩)]

noncomputable def fieldModulusExpL0E : LEntry := mkL fieldModulusExpL0Y fieldModulusExpL0Z fun p => fieldModulusExpL0 p.1 p.2.1 p.2.2.1 p.2.2.2.1 p.2.2.2.2.1 p.2.2.2.2.2

noncomputable def fieldModulusExpX : Cx := mkCx Tryd.prog 32 globsF [(48, u256FromE), (49, fieldModulusOneE), (50, fieldModulusMulE), (65, u256BitE), (118, u256LenE)] [(3, fieldModulusExpL0E)] []

theorem fieldModulusExpC : CxOk fieldModulusExpX (Glob globsF) := cx_ok (by kernel_rfl) (by kernel_rfl) ⟨u256FromK, fieldModulusOneK, fieldModulusMulK, u256BitK, u256LenK, trivial⟩

theorem fieldModulusExpL0K (w0 : Ini) (hG : Glob globsF w0) : LoopOk fieldModulusExpX w0 (loopAt Tryd.f84 0) fieldModulusExpL0E :=
  loop_okH fieldModulusExpC hG (loopAt Tryd.f84 0) (lall_of lall_nil (by kernel_rfl : loopsOf (loopAt Tryd.f84 0) = _))
    fieldModulusExpL0Y fieldModulusExpL0Z (by kernel_rfl) (fun p => fieldModulusExpL0R p.1 p.2.1 p.2.2.1 p.2.2.2.1 p.2.2.2.2.1 p.2.2.2.2.2) (fun p => 1000) (fun p => by kernel_rfl) _ (fun p => fieldModulusExpL0_eq p.1 p.2.1 p.2.2.1 p.2.2.2.1 p.2.2.2.2.1 p.2.2.2.2.2)

theorem fieldModulusExpK : CallOk Tryd.prog (Glob globsF) 84 fieldModulusExpE :=
  fun_ok (cx := fieldModulusExpX) fieldModulusExpC (fn := Tryd.f84) Tryd.func84 (by kernel_rfl) Tryd.ntmps84 Tryd.call84 _ _ _ (by kernel_rfl) (by kernel_rfl) (by kernel_rfl)
    (fun w0 hG => lall_of (lall_cut (b := loopAt Tryd.f84 0) (fieldModulusExpL0K w0 hG) (by kernel_rfl) (lall_nil)) (by kernel_rfl : loopsOf (bodyOf Tryd.f84) = _)) (fun p => Eq.trans (b := fieldModulusExpB p.1 p.2.1 p.2.2) (by kernel_rfl) (fieldModulusExp_eq p.1 p.2.1 p.2.2).symm)

noncomputable def fieldModulusInverseE : Entry := mkE [.st [.u256, .u256], .u256] [.u256] fun p => fieldModulusInverse p.1 p.2

noncomputable def fieldModulusInverseX : Cx := mkCx Tryd.prog 18 globsF [(48, u256FromE), (83, u256SubE), (84, fieldModulusExpE)] [] []

theorem fieldModulusInverseC : CxOk fieldModulusInverseX (Glob globsF) := cx_ok (by kernel_rfl) (by kernel_rfl) ⟨u256FromK, u256SubK, fieldModulusExpK, trivial⟩

theorem fieldModulusInverseK : CallOk Tryd.prog (Glob globsF) 51 fieldModulusInverseE :=
  fun_ok (cx := fieldModulusInverseX) fieldModulusInverseC (fn := Tryd.f51) Tryd.func51 (by kernel_rfl) Tryd.ntmps51 Tryd.call51 _ _ _ (by kernel_rfl) (by kernel_rfl) (by kernel_rfl)
    (fun w0 hG => lall_of lall_nil (by kernel_rfl : loopsOf (bodyOf Tryd.f51) = _)) (fun p => Eq.trans (b := fieldModulusInverseB p.1 p.2) (by kernel_rfl) (fieldModulusInverse_eq p.1 p.2).symm)

noncomputable def fieldInverseE : Entry := mkE [.int .i64, .u256] [.u256, .int .i64] fun p => fieldInverse p.1 p.2

noncomputable def fieldInverseX : Cx := mkCx Tryd.prog 26 globsF [(47, fieldIOfE), (49, fieldModulusOneE), (51, fieldModulusInverseE)] [] []

theorem fieldInverseC : CxOk fieldInverseX (Glob globsF) := cx_ok (by kernel_rfl) (by kernel_rfl) ⟨fieldIOfK, fieldModulusOneK, fieldModulusInverseK, trivial⟩

theorem fieldInverseK : CallOk Tryd.prog (Glob globsF) 64 fieldInverseE :=
  fun_ok (cx := fieldInverseX) fieldInverseC (fn := Tryd.f64) Tryd.func64 (by kernel_rfl) Tryd.ntmps64 Tryd.call64 _ _ _ (by kernel_rfl) (by kernel_rfl) (by kernel_rfl)
    (fun w0 hG => lall_of lall_nil (by kernel_rfl : loopsOf (bodyOf Tryd.f64) = _)) (fun p => Eq.trans (b := fieldInverseB p.1 p.2) (by kernel_rfl) (fieldInverse_eq p.1 p.2).symm)

noncomputable def u256ShlE : Entry := mkE [.u256, .int .i64] [.u256] fun p => u256Shl p.1 p.2

def u256ShlL0Y : Lay := ⟨[(false, 2, .ptr 1002 []), (false, 4, .ptr 1004 []), (false, 5, .ptr 1005 [])], [(false, 1, .int .i64), (false, 6, .int .i64), (true, 1002, .u256), (true, 1004, .u256), (true, 1005, .u256)], [⟨[(1002, 1002), (1004, 1004), (1005, 1005)], []⟩]⟩

def u256ShlL0Z : List (Ex × Lay) := [(.exit 0, ⟨[(false, 4, .ptr 1004 []), (false, 5, .ptr 1005 [])], [(true, 1004, .u256), (true, 1005, .u256)], [⟨[(1004, 1004), (1005, 1005)], []⟩]⟩)]

noncomputable def u256ShlL0E : LEntry := mkL u256ShlL0Y u256ShlL0Z fun p => u256ShlL0 p.1 p.2.1 p.2.2.1 p.2.2.2.1 p.2.2.2.2

noncomputable def u256ShlX : Cx := mkCx Tryd.prog 63 globsF [] [(7, u256ShlL0E)] []

theorem u256ShlC : CxOk u256ShlX (Glob globsF) := cx_ok (by kernel_rfl) (by kernel_rfl) trivial

theorem u256ShlL0K (w0 : Ini) (hG : Glob globsF w0) : LoopOk u256ShlX w0 (loopAt Tryd.f108 0) u256ShlL0E :=
  loop_okH u256ShlC hG (loopAt Tryd.f108 0) (lall_of lall_nil (by kernel_rfl : loopsOf (loopAt Tryd.f108 0) = _))
    u256ShlL0Y u256ShlL0Z (by kernel_rfl) (fun p => u256ShlL0R p.1 p.2.1 p.2.2.1 p.2.2.2.1 p.2.2.2.2) (fun p => 1000) (fun p => by kernel_rfl) _ (fun p => u256ShlL0_eq p.1 p.2.1 p.2.2.1 p.2.2.2.1 p.2.2.2.2)

theorem u256ShlK : CallOk Tryd.prog (Glob globsF) 108 u256ShlE :=
  fun_ok (cx := u256ShlX) u256ShlC (fn := Tryd.f108) Tryd.func108 (by kernel_rfl) Tryd.ntmps108 Tryd.call108 _ _ _ (by kernel_rfl) (by kernel_rfl) (by kernel_rfl)
    (fun w0 hG => lall_of (lall_cut (b := loopAt Tryd.f108 0) (u256ShlL0K w0 hG) (by kernel_rfl) (lall_nil)) (by kernel_rfl : loopsOf (bodyOf Tryd.f108) = _)) (fun p => Eq.trans (b := u256ShlB p.1 p.2) (by kernel_rfl) (u256Shl_eq p.1 p.2).symm)

noncomputable def u256ShrE : Entry := mkE [.u256, .int .i64] [.u256] fun p => u256Shr p.1 p.2

def u256ShrL0Y : Lay := ⟨[(false, 2, .ptr 1002 []), (false, 4, .ptr 1004 []), (false, 5, .ptr 1005 [])], [(false, 1, .int .i64), (false, 6, .int .i64), (true, 1002, .u256), (true, 1004, .u256), (true, 1005, .u256)], [⟨[(1002, 1002), (1004, 1004), (1005, 1005)], []⟩]⟩

def u256ShrL0Z : List (Ex × Lay) := [(.exit 0, ⟨[(false, 4, .ptr 1004 []), (false, 5, .ptr 1005 [])], [(true, 1004, .u256), (true, 1005, .u256)], [⟨[(1004, 1004), (1005, 1005)], []⟩]⟩)]

noncomputable def u256ShrL0E : LEntry := mkL u256ShrL0Y u256ShrL0Z fun p => u256ShrL0 p.1 p.2.1 p.2.2.1 p.2.2.2.1 p.2.2.2.2

noncomputable def u256ShrX : Cx := mkCx Tryd.prog 65 globsF [(108, u256ShlE)] [(7, u256ShrL0E)] []

theorem u256ShrC : CxOk u256ShrX (Glob globsF) := cx_ok (by kernel_rfl) (by kernel_rfl) ⟨u256ShlK, trivial⟩

theorem u256ShrL0K (w0 : Ini) (hG : Glob globsF w0) : LoopOk u256ShrX w0 (loopAt Tryd.f72 0) u256ShrL0E :=
  loop_okH u256ShrC hG (loopAt Tryd.f72 0) (lall_of lall_nil (by kernel_rfl : loopsOf (loopAt Tryd.f72 0) = _))
    u256ShrL0Y u256ShrL0Z (by kernel_rfl) (fun p => u256ShrL0R p.1 p.2.1 p.2.2.1 p.2.2.2.1 p.2.2.2.2) (fun p => 1000) (fun p => by kernel_rfl) _ (fun p => u256ShrL0_eq p.1 p.2.1 p.2.2.1 p.2.2.2.1 p.2.2.2.2)

theorem u256ShrK : CallOk Tryd.prog (Glob globsF) 72 u256ShrE :=
  fun_ok (cx := u256ShrX) u256ShrC (fn := Tryd.f72) Tryd.func72 (by kernel_rfl) Tryd.ntmps72 Tryd.call72 _ _ _ (by kernel_rfl) (by kernel_rfl) (by kernel_rfl)
    (fun w0 hG => lall_of (lall_cut (b := loopAt Tryd.f72 0) (u256ShrL0K w0 hG) (by kernel_rfl) (lall_nil)) (by kernel_rfl : loopsOf (bodyOf Tryd.f72) = _)) (fun p => Eq.trans (b := u256ShrB p.1 p.2) (by kernel_rfl) (u256Shr_eq p.1 p.2).symm)

noncomputable def fieldRootE : Entry := mkE [.u256] [.u256, .int .i64] fun p => fieldRoot p

noncomputable def fieldRootX : Cx := mkCx Tryd.prog 39 globsF [(48, u256FromE), (49, fieldModulusOneE), (50, fieldModulusMulE), (72, u256ShrE), (84, fieldModulusExpE), (99, fieldModulusNegE), (114, u256AddE)] [] []

theorem fieldRootC : CxOk fieldRootX (Glob globsF) := cx_ok (by kernel_rfl) (by kernel_rfl) ⟨u256FromK, fieldModulusOneK, fieldModulusMulK, u256ShrK, fieldModulusExpK, fieldModulusNegK, u256AddK, trivial⟩

theorem fieldRootK : CallOk Tryd.prog (Glob globsF) 100 fieldRootE :=
  fun_ok (cx := fieldRootX) fieldRootC (fn := Tryd.f100) Tryd.func100 (by kernel_rfl) Tryd.ntmps100 Tryd.call100 _ _ _ (by kernel_rfl) (by kernel_rfl) (by kernel_rfl)
    (fun w0 hG => lall_of lall_nil (by kernel_rfl : loopsOf (bodyOf Tryd.f100) = _)) (fun p => Eq.trans (b := fieldRootB p) (by kernel_rfl) (fieldRoot_eq p).symm)

noncomputable def fieldSquareE : Entry := mkE [.int .i64, .u256] [.u256, .int .i64] fun p => fieldSquare p.1 p.2

noncomputable def fieldSquareX : Cx := mkCx Tryd.prog 12 globsF [(61, fieldMulE)] [] []

theorem fieldSquareC : CxOk fieldSquareX (Glob globsF) := cx_ok (by kernel_rfl) (by kernel_rfl) ⟨fieldMulK, trivial⟩

theorem fieldSquareK : CallOk Tryd.prog (Glob globsF) 109 fieldSquareE :=
  fun_ok (cx := fieldSquareX) fieldSquareC (fn := Tryd.f109) Tryd.func109 (by kernel_rfl) Tryd.ntmps109 Tryd.call109 _ _ _ (by kernel_rfl) (by kernel_rfl) (by kernel_rfl)
    (fun w0 hG => lall_of lall_nil (by kernel_rfl : loopsOf (bodyOf Tryd.f109) = _)) (fun p => Eq.trans (b := fieldSquareB p.1 p.2) (by kernel_rfl) (fieldSquare_eq p.1 p.2).symm)

noncomputable def fieldReduceE : Entry := mkE [.int .i64, .u256, .u256] [.u256, .int .i64] fun p => fieldReduce p.1 p.2.1 p.2.2

noncomputable def fieldReduceX : Cx := mkCx Tryd.prog 23 globsF [(47, fieldIOfE), (81, fieldModulusFoldE)] [] []

theorem fieldReduceC : CxOk fieldReduceX (Glob globsF) := cx_ok (by kernel_rfl) (by kernel_rfl) ⟨fieldIOfK, fieldModulusFoldK, trivial⟩

theorem fieldReduceK : CallOk Tryd.prog (Glob globsF) 98 fieldReduceE :=
  fun_ok (cx := fieldReduceX) fieldReduceC (fn := Tryd.f98) Tryd.func98 (by kernel_rfl) Tryd.ntmps98 Tryd.call98 _ _ _ (by kernel_rfl) (by kernel_rfl) (by kernel_rfl)
    (fun w0 hG => lall_of lall_nil (by kernel_rfl : loopsOf (bodyOf Tryd.f98) = _)) (fun p => Eq.trans (b := fieldReduceB p.1 p.2.1 p.2.2) (by kernel_rfl) (fieldReduce_eq p.1 p.2.1 p.2.2).symm)

noncomputable def u256GetE : Entry := mkE [.isl false (.int .u8)] [.u256, .int .i64] fun p => u256Get p

def u256GetL0Y : Lay := ⟨[(false, 2, .ptr 1002 []), (false, 4, .ptr 1004 [])], [(false, 0, .isl false (.int .u8)), (false, 12, .int .i64), (false, 13, .int .i64), (true, 1002, .u256), (true, 1004, .u256)], [⟨[(1002, 1002), (1004, 1004)], []⟩]⟩

def u256GetL0Z : List (Ex × Lay) := [(.exit 0, ⟨[(false, 2, .ptr 1002 []), (false, 4, .ptr 1004 [])], [(true, 1002, .u256), (true, 1004, .u256)], [⟨[(1002, 1002), (1004, 1004)], []⟩]⟩)]

noncomputable def u256GetL0E : LEntry := mkL u256GetL0Y u256GetL0Z fun p => u256GetL0 p.1 p.2.1 p.2.2.1 p.2.2.2.1 p.2.2.2.2

noncomputable def u256GetX : Cx := mkCx Tryd.prog 38 globsF [] [(5, u256GetL0E)] []

theorem u256GetC : CxOk u256GetX (Glob globsF) := cx_ok (by kernel_rfl) (by kernel_rfl) trivial

theorem u256GetL0K (w0 : Ini) (hG : Glob globsF w0) : LoopOk u256GetX w0 (loopAt Tryd.f41 0) u256GetL0E :=
  loop_okH u256GetC hG (loopAt Tryd.f41 0) (lall_of lall_nil (by kernel_rfl : loopsOf (loopAt Tryd.f41 0) = _))
    u256GetL0Y u256GetL0Z (by kernel_rfl) (fun p => u256GetL0R p.1 p.2.1 p.2.2.1 p.2.2.2.1 p.2.2.2.2) (fun p => 1000) (fun p => by kernel_rfl) _ (fun p => u256GetL0_eq p.1 p.2.1 p.2.2.1 p.2.2.2.1 p.2.2.2.2)

theorem u256GetK : CallOk Tryd.prog (Glob globsF) 41 u256GetE :=
  fun_ok (cx := u256GetX) u256GetC (fn := Tryd.f41) Tryd.func41 (by kernel_rfl) Tryd.ntmps41 Tryd.call41 _ _ _ (by kernel_rfl) (by kernel_rfl) (by kernel_rfl)
    (fun w0 hG => lall_of (lall_cut (b := loopAt Tryd.f41 0) (u256GetL0K w0 hG) (by kernel_rfl) (lall_nil)) (by kernel_rfl : loopsOf (bodyOf Tryd.f41) = _)) (fun p => Eq.trans (b := u256GetB p) (by kernel_rfl) (u256Get_eq p).symm)

noncomputable def u256PutE : Entry := mkE [.u256] [.arr (.int .u8) 32] fun p => u256Put p

def u256PutL0Y : Lay := ⟨[(false, 1, .ptr 1001 []), (false, 2, .ptr 1002 []), (false, 3, .ptr 1003 [])], [(false, 5, .int .i64), (true, 1001, .u256), (true, 1002, .arr (.int .u8) 32), (true, 1003, .arr (.int .u8) 32)], [⟨[(1001, 1001), (1002, 1002), (1003, 1003)], []⟩]⟩

def u256PutL0Z : List (Ex × Lay) := [(.exit 0, ⟨[(false, 2, .ptr 1002 []), (false, 3, .ptr 1003 [])], [(true, 1002, .arr (.int .u8) 32), (true, 1003, .arr (.int .u8) 32)], [⟨[(1002, 1002), (1003, 1003)], []⟩]⟩)]

noncomputable def u256PutL0E : LEntry := mkL u256PutL0Y u256PutL0Z fun p => u256PutL0 p.1 p.2.1 p.2.2.1 p.2.2.2

noncomputable def u256PutX : Cx := mkCx Tryd.prog 22 globsF [] [(3, u256PutL0E)] []

theorem u256PutC : CxOk u256PutX (Glob globsF) := cx_ok (by kernel_rfl) (by kernel_rfl) trivial

theorem u256PutL0K (w0 : Ini) (hG : Glob globsF w0) : LoopOk u256PutX w0 (loopAt Tryd.f38 0) u256PutL0E :=
  loop_okH u256PutC hG (loopAt Tryd.f38 0) (lall_of lall_nil (by kernel_rfl : loopsOf (loopAt Tryd.f38 0) = _))
    u256PutL0Y u256PutL0Z (by kernel_rfl) (fun p => u256PutL0R p.1 p.2.1 p.2.2.1 p.2.2.2) (fun p => 1000) (fun p => by kernel_rfl) _ (fun p => u256PutL0_eq p.1 p.2.1 p.2.2.1 p.2.2.2)

theorem u256PutK : CallOk Tryd.prog (Glob globsF) 38 u256PutE :=
  fun_ok (cx := u256PutX) u256PutC (fn := Tryd.f38) Tryd.func38 (by kernel_rfl) Tryd.ntmps38 Tryd.call38 _ _ _ (by kernel_rfl) (by kernel_rfl) (by kernel_rfl)
    (fun w0 hG => lall_of (lall_cut (b := loopAt Tryd.f38 0) (u256PutL0K w0 hG) (by kernel_rfl) (lall_nil)) (by kernel_rfl : loopsOf (bodyOf Tryd.f38) = _)) (fun p => Eq.trans (b := u256PutB p) (by kernel_rfl) (u256Put_eq p).symm)

noncomputable def ecdsaIOrderE : Entry := mkE [] [.u256] fun _ => ecdsaIOrder

noncomputable def ecdsaIOrderX : Cx := mkCx Tryd.prog 8 globsF [(58, fieldModulusE)] [] []

theorem ecdsaIOrderC : CxOk ecdsaIOrderX (Glob globsF) := cx_ok (by kernel_rfl) (by kernel_rfl) ⟨fieldModulusK, trivial⟩

theorem ecdsaIOrderK : CallOk Tryd.prog (Glob globsF) 60 ecdsaIOrderE :=
  fun_ok (cx := ecdsaIOrderX) ecdsaIOrderC (fn := Tryd.f60) Tryd.func60 (by kernel_rfl) Tryd.ntmps60 Tryd.call60 _ _ _ (by kernel_rfl) (by kernel_rfl) (by kernel_rfl)
    (fun w0 hG => lall_of lall_nil (by kernel_rfl : loopsOf (bodyOf Tryd.f60) = _)) (fun p => Eq.trans (b := ecdsaIOrderB ) (by kernel_rfl) (ecdsaIOrder_eq ).symm)

noncomputable def ecdsaIFitE : Entry := mkE [.u256] [.bool] fun p => ecdsaIFit p

noncomputable def ecdsaIFitX : Cx := mkCx Tryd.prog 12 globsF [(59, u256CmpE), (60, ecdsaIOrderE)] [] []

theorem ecdsaIFitC : CxOk ecdsaIFitX (Glob globsF) := cx_ok (by kernel_rfl) (by kernel_rfl) ⟨u256CmpK, ecdsaIOrderK, trivial⟩

theorem ecdsaIFitK : CallOk Tryd.prog (Glob globsF) 43 ecdsaIFitE :=
  fun_ok (cx := ecdsaIFitX) ecdsaIFitC (fn := Tryd.f43) Tryd.func43 (by kernel_rfl) Tryd.ntmps43 Tryd.call43 _ _ _ (by kernel_rfl) (by kernel_rfl) (by kernel_rfl)
    (fun w0 hG => lall_of lall_nil (by kernel_rfl : loopsOf (bodyOf Tryd.f43) = _)) (fun p => Eq.trans (b := ecdsaIFitB p) (by kernel_rfl) (ecdsaIFit_eq p).symm)

noncomputable def ecdsaILowE : Entry := mkE [.u256] [.bool] fun p => ecdsaILow p

noncomputable def ecdsaILowX : Cx := mkCx Tryd.prog 8 globsF [(59, u256CmpE), (60, ecdsaIOrderE), (72, u256ShrE)] [] []

theorem ecdsaILowC : CxOk ecdsaILowX (Glob globsF) := cx_ok (by kernel_rfl) (by kernel_rfl) ⟨u256CmpK, ecdsaIOrderK, u256ShrK, trivial⟩

theorem ecdsaILowK : CallOk Tryd.prog (Glob globsF) 44 ecdsaILowE :=
  fun_ok (cx := ecdsaILowX) ecdsaILowC (fn := Tryd.f44) Tryd.func44 (by kernel_rfl) Tryd.ntmps44 Tryd.call44 _ _ _ (by kernel_rfl) (by kernel_rfl) (by kernel_rfl)
    (fun w0 hG => lall_of lall_nil (by kernel_rfl : loopsOf (bodyOf Tryd.f44) = _)) (fun p => Eq.trans (b := ecdsaILowB p) (by kernel_rfl) (ecdsaILow_eq p).symm)

noncomputable def ecdsaCheckE : Entry := mkE [.st [.u256, .u256, .bool]] [.int .i64] fun p => ecdsaCheck p

noncomputable def ecdsaCheckX : Cx := mkCx Tryd.prog 18 globsF [(43, ecdsaIFitE), (44, ecdsaILowE)] [] []

theorem ecdsaCheckC : CxOk ecdsaCheckX (Glob globsF) := cx_ok (by kernel_rfl) (by kernel_rfl) ⟨ecdsaIFitK, ecdsaILowK, trivial⟩

theorem ecdsaCheckK : CallOk Tryd.prog (Glob globsF) 19 ecdsaCheckE :=
  fun_ok (cx := ecdsaCheckX) ecdsaCheckC (fn := Tryd.f19) Tryd.func19 (by kernel_rfl) Tryd.ntmps19 Tryd.call19 _ _ _ (by kernel_rfl) (by kernel_rfl) (by kernel_rfl)
    (fun w0 hG => lall_of lall_nil (by kernel_rfl : loopsOf (bodyOf Tryd.f19) = _)) (fun p => Eq.trans (b := ecdsaCheckB p) (by kernel_rfl) (ecdsaCheck_eq p).symm)

end Go.Sy
