/- The links: each typed function is what the code computes. Printed by a program. -/
import Derived.Test.YtfappeeggccicaaGreatDoorSyVT
import Derived.Test.YtfappeeggccicaaGreatDoorSyKf
import Derived.Test.YtfappeeggccicaaGreatDoorProg
set_option linter.unusedVariables false
set_option maxRecDepth 100000
noncomputable section
namespace Go.Sy
open Go Go.Proofs
def globs0x1 : List (Nat × AV) := [(0, .arr .u2 2 fieldModuli), (1, .arr (.int .u64) 8 curveBase)]
def globs0x2 : List (Nat × AV) := [(0, .arr .u2 2 fieldModuli), (2, .arr (.int .u32) 8 shaStartT)]
def globs0x2x3 : List (Nat × AV) := [(0, .arr .u2 2 fieldModuli), (2, .arr (.int .u32) 8 shaStartT), (3, .arr (.int .u32) 64 shaConstsT)]
def globs0x3 : List (Nat × AV) := [(0, .arr .u2 2 fieldModuli), (3, .arr (.int .u32) 64 shaConstsT)]
def globsF : List (Nat × AV) := [(0, .arr .u2 2 fieldModuli)]
def globsG : List (Nat × AV) := [(0, .arr .u2 2 fieldModuli), (1, .arr (.int .u64) 8 curveBase), (2, .arr (.int .u32) 8 shaStartT), (3, .arr (.int .u32) 64 shaConstsT)]
theorem globs0x1_globsG : ∀ x ∈ globs0x1, x ∈ globsG := by intro x hx; simp only [globs0x1, globsG, List.mem_cons, List.not_mem_nil, or_false] at hx ⊢; rcases hx with h | h <;> simp [h]
theorem globs0x2_globs0x2x3 : ∀ x ∈ globs0x2, x ∈ globs0x2x3 := by intro x hx; simp only [globs0x2, globs0x2x3, List.mem_cons, List.not_mem_nil, or_false] at hx ⊢; rcases hx with h | h <;> simp [h]
theorem globs0x2x3_globsG : ∀ x ∈ globs0x2x3, x ∈ globsG := by intro x hx; simp only [globs0x2x3, globsG, List.mem_cons, List.not_mem_nil, or_false] at hx ⊢; rcases hx with h | h | h <;> simp [h]
theorem globs0x3_globs0x2x3 : ∀ x ∈ globs0x3, x ∈ globs0x2x3 := by intro x hx; simp only [globs0x3, globs0x2x3, List.mem_cons, List.not_mem_nil, or_false] at hx ⊢; rcases hx with h | h <;> simp [h]
theorem globsF_globs0x1 : ∀ x ∈ globsF, x ∈ globs0x1 := by intro x hx; simp only [globsF, globs0x1, List.mem_cons, List.not_mem_nil, or_false] at hx ⊢; simp [hx]
theorem globsF_globs0x2x3 : ∀ x ∈ globsF, x ∈ globs0x2x3 := by intro x hx; simp only [globsF, globs0x2x3, List.mem_cons, List.not_mem_nil, or_false] at hx ⊢; simp [hx]
theorem globsF_globs0x3 : ∀ x ∈ globsF, x ∈ globs0x3 := by intro x hx; simp only [globsF, globs0x3, List.mem_cons, List.not_mem_nil, or_false] at hx ⊢; simp [hx]
theorem globsF_globsG : ∀ x ∈ globsF, x ∈ globsG := by intro x hx; simp only [globsF, globsG, List.mem_cons, List.not_mem_nil, or_false] at hx ⊢; simp [hx]
theorem bitsAdd64K : CallOk Tryz.prog (Glob globsF) 100 bitsAdd64E := bitsAdd64_ok (fn := Tryz.f100) Tryz.func100 (by kernel_rfl) (by kernel_rfl) (by kernel_rfl) (by kernel_rfl)
theorem bitsSub64K : CallOk Tryz.prog (Glob globsF) 60 bitsSub64E := bitsSub64_ok (fn := Tryz.f60) Tryz.func60 (by kernel_rfl) (by kernel_rfl) (by kernel_rfl) (by kernel_rfl)
def fieldIOfE : Entry := mkE [.int .i64] [.st [.u256, .u256], .int .i64] fun p => fieldIOf p
def fieldIOfX : Cx := mkCx Tryz.prog 14 globsF [] [] []
theorem fieldIOfC : CxOk fieldIOfX (Glob globsF) := cx_ok (by kernel_rfl) (by kernel_rfl) trivial
theorem fieldIOfK : CallOk Tryz.prog (Glob globsF) 39 fieldIOfE :=
 fun_ok (cx := fieldIOfX) fieldIOfC (fn := Tryz.f39) Tryz.func39 (by kernel_rfl) Tryz.ntmps39 Tryz.call39 _ _ _ (by kernel_rfl) (by kernel_rfl) (by kernel_rfl)
  (fun w0 hG => lall_of lall_nil (by kernel_rfl : loopsOf (bodyOf Tryz.f39) = _)) (fun p => Eq.trans (b := fieldIOfB p) (by kernel_rfl) (fieldIOf_eq p).symm)
def fieldModulusE : Entry := mkE [.int .i64] [.u256, .int .i64] fun p => fieldModulus p
def fieldModulusX : Cx := mkCx Tryz.prog 14 globsF [(39, fieldIOfE)] [] []
theorem fieldModulusC : CxOk fieldModulusX (Glob globsF) := cx_ok (by kernel_rfl) (by kernel_rfl) ⟨fieldIOfK, trivial⟩
theorem fieldModulusK : CallOk Tryz.prog (Glob globsF) 32 fieldModulusE :=
 fun_ok (cx := fieldModulusX) fieldModulusC (fn := Tryz.f32) Tryz.func32 (by kernel_rfl) Tryz.ntmps32 Tryz.call32 _ _ _ (by kernel_rfl) (by kernel_rfl) (by kernel_rfl)
  (fun w0 hG => lall_of lall_nil (by kernel_rfl : loopsOf (bodyOf Tryz.f32) = _)) (fun p => Eq.trans (b := fieldModulusB p) (by kernel_rfl) (fieldModulus_eq p).symm)
def u256AddE : Entry := mkE [.u256, .u256] [.u256, .int .u64] fun p => u256Add p.1 p.2
def u256AddX : Cx := mkCx Tryz.prog 28 globsF [(100, bitsAdd64E)] [] []
theorem u256AddC : CxOk u256AddX (Glob globsF) := cx_ok (by kernel_rfl) (by kernel_rfl) ⟨bitsAdd64K, trivial⟩
theorem u256AddK : CallOk Tryz.prog (Glob globsF) 73 u256AddE :=
 fun_ok (cx := u256AddX) u256AddC (fn := Tryz.f73) Tryz.func73 (by kernel_rfl) Tryz.ntmps73 Tryz.call73 _ _ _ (by kernel_rfl) (by kernel_rfl) (by kernel_rfl)
  (fun w0 hG => lall_of (lall_free (b := loopAt Tryz.f73 0) (by kernel_rfl) (lall_nil)) (by kernel_rfl : loopsOf (bodyOf Tryz.f73) = _)) (fun p => Eq.trans (b := u256AddB p.1 p.2) (by kernel_rfl) (u256Add_eq p.1 p.2).symm)
def u256FromE : Entry := mkE [.int .u64] [.u256] fun p => u256From p
def u256FromX : Cx := mkCx Tryz.prog 5 globsF [] [] []
theorem u256FromC : CxOk u256FromX (Glob globsF) := cx_ok (by kernel_rfl) (by kernel_rfl) trivial
theorem u256FromK : CallOk Tryz.prog (Glob globsF) 74 u256FromE :=
 fun_ok (cx := u256FromX) u256FromC (fn := Tryz.f74) Tryz.func74 (by kernel_rfl) Tryz.ntmps74 Tryz.call74 _ _ _ (by kernel_rfl) (by kernel_rfl) (by kernel_rfl)
  (fun w0 hG => lall_of lall_nil (by kernel_rfl : loopsOf (bodyOf Tryz.f74) = _)) (fun p => Eq.trans (b := u256FromB p) (by kernel_rfl) (u256From_eq p).symm)
def bitsMul64E : Entry := mkE [.int .u64, .int .u64] [.int .u64, .int .u64] fun p => bitsMul64 p.1 p.2
def bitsMul64X : Cx := mkCx Tryz.prog 51 globsF [] [] []
theorem bitsMul64C : CxOk bitsMul64X (Glob globsF) := cx_ok (by kernel_rfl) (by kernel_rfl) trivial
theorem bitsMul64K : CallOk Tryz.prog (Glob globsF) 99 bitsMul64E :=
 fun_ok (cx := bitsMul64X) bitsMul64C (fn := Tryz.f99) Tryz.func99 (by kernel_rfl) Tryz.ntmps99 Tryz.call99 _ _ _ (by kernel_rfl) (by kernel_rfl) (by kernel_rfl)
  (fun w0 hG => lall_of lall_nil (by kernel_rfl : loopsOf (bodyOf Tryz.f99) = _)) (fun p => Eq.trans (b := bitsMul64B p.1 p.2) (by kernel_rfl) (bitsMul64_eq p.1 p.2).symm)
def u256MulE : Entry := mkE [.u256, .u256] [.u256, .u256] fun p => u256Mul p.1 p.2
def u256MulL1Y : Lay := ⟨[(false, 2, .ptr 1002 []), (false, 3, .ptr 1003 []), (false, 4, .ptr 1004 []), (false, 5, .ptr 1005 []), (false, 6, .ptr 1006 [])], [(false, 7, .int .i64), (false, 8, .int .u64), (false, 13, .int .i64), (false, 16, .int .i64), (true, 1002, .u256), (true, 1003, .u256), (true, 1004, .u256), (true, 1005, .u256), (true, 1006, .arr (.int .u64) 8)], [⟨[(1002, 1002), (1003, 1003), (1004, 1004), (1005, 1005), (1006, 1006)], []⟩]⟩
def u256MulL1Z : List (Ex × Lay) := [(.exit 2, ⟨[(false, 2, .ptr 1002 []), (false, 3, .ptr 1003 []), (false, 4, .ptr 1004 []), (false, 5, .ptr 1005 []), (false, 6, .ptr 1006 [])], [(false, 7, .int .i64), (false, 8, .int .u64), (false, 13, .int .i64), (true, 1002, .u256), (true, 1003, .u256), (true, 1004, .u256), (true, 1005, .u256), (true, 1006, .arr (.int .u64) 8)], [⟨[(1002, 1002), (1003, 1003), (1004, 1004), (1005, 1005), (1006, 1006)], []⟩]⟩)]
def u256MulL1E : LEntry := mkL u256MulL1Y u256MulL1Z fun p => u256MulL1 p.1 p.2.1 p.2.2.1 p.2.2.2.1 p.2.2.2.2.1 p.2.2.2.2.2.1 p.2.2.2.2.2.2.1 p.2.2.2.2.2.2.2.1 p.2.2.2.2.2.2.2.2
def u256MulL0Y : Lay := ⟨[(false, 2, .ptr 1002 []), (false, 3, .ptr 1003 []), (false, 4, .ptr 1004 []), (false, 5, .ptr 1005 []), (false, 6, .ptr 1006 [])], [(false, 13, .int .i64), (true, 1002, .u256), (true, 1003, .u256), (true, 1004, .u256), (true, 1005, .u256), (true, 1006, .arr (.int .u64) 8)], [⟨[(1002, 1002), (1003, 1003), (1004, 1004), (1005, 1005), (1006, 1006)], []⟩]⟩
def u256MulL0Z : List (Ex × Lay) := [(.exit 0, ⟨[(false, 4, .ptr 1004 []), (false, 5, .ptr 1005 []), (false, 6, .ptr 1006 [])], [(true, 1004, .u256), (true, 1005, .u256), (true, 1006, .arr (.int .u64) 8)], [⟨[(1004, 1004), (1005, 1005), (1006, 1006)], []⟩]⟩)]
def u256MulL0E : LEntry := mkL u256MulL0Y u256MulL0Z fun p => u256MulL0 p.1 p.2.1 p.2.2.1 p.2.2.2.1 p.2.2.2.2.1 p.2.2.2.2.2
def u256MulX : Cx := mkCx Tryz.prog 70 globsF [(99, bitsMul64E), (100, bitsAdd64E)] [(3, u256MulL0E), (7, u256MulL1E)] []
theorem u256MulC : CxOk u256MulX (Glob globsF) := cx_ok (by kernel_rfl) (by kernel_rfl) ⟨bitsMul64K, bitsAdd64K, trivial⟩
theorem u256MulL1K (w0 : Ini) (hG : Glob globsF w0) : LoopOk u256MulX w0 (loopAt Tryz.f72 1) u256MulL1E :=
 loop_okH u256MulC hG (loopAt Tryz.f72 1) (lall_of lall_nil (by kernel_rfl : loopsOf (loopAt Tryz.f72 1) = _))
  u256MulL1Y u256MulL1Z (by kernel_rfl) (fun p => u256MulL1R p.1 p.2.1 p.2.2.1 p.2.2.2.1 p.2.2.2.2.1 p.2.2.2.2.2.1 p.2.2.2.2.2.2.1 p.2.2.2.2.2.2.2.1 p.2.2.2.2.2.2.2.2) (fun p => 1000) (fun p => by kernel_rfl) _ (fun p => u256MulL1_eq p.1 p.2.1 p.2.2.1 p.2.2.2.1 p.2.2.2.2.1 p.2.2.2.2.2.1 p.2.2.2.2.2.2.1 p.2.2.2.2.2.2.2.1 p.2.2.2.2.2.2.2.2)
theorem u256MulL0K (w0 : Ini) (hG : Glob globsF w0) : LoopOk u256MulX w0 (loopAt Tryz.f72 0) u256MulL0E :=
 loop_okH u256MulC hG (loopAt Tryz.f72 0) (lall_of (lall_cut (b := loopAt Tryz.f72 1) (u256MulL1K w0 hG) (by kernel_rfl) (lall_nil)) (by kernel_rfl : loopsOf (loopAt Tryz.f72 0) = _))
  u256MulL0Y u256MulL0Z (by kernel_rfl) (fun p => u256MulL0R p.1 p.2.1 p.2.2.1 p.2.2.2.1 p.2.2.2.2.1 p.2.2.2.2.2) (fun p => 1000) (fun p => by kernel_rfl) _ (fun p => u256MulL0_eq p.1 p.2.1 p.2.2.1 p.2.2.2.1 p.2.2.2.2.1 p.2.2.2.2.2)
theorem u256MulK : CallOk Tryz.prog (Glob globsF) 72 u256MulE :=
 fun_ok (cx := u256MulX) u256MulC (fn := Tryz.f72) Tryz.func72 (by kernel_rfl) Tryz.ntmps72 Tryz.call72 _ _ _ (by kernel_rfl) (by kernel_rfl) (by kernel_rfl)
  (fun w0 hG => lall_of (lall_cut (b := loopAt Tryz.f72 0) (u256MulL0K w0 hG) (by kernel_rfl) (lall_cut (b := loopAt Tryz.f72 1) (u256MulL1K w0 hG) (by kernel_rfl) (lall_nil))) (by kernel_rfl : loopsOf (bodyOf Tryz.f72) = _)) (fun p => Eq.trans (b := u256MulB p.1 p.2) (by kernel_rfl) (u256Mul_eq p.1 p.2).symm)
def u256SubE : Entry := mkE [.u256, .u256] [.u256, .int .u64] fun p => u256Sub p.1 p.2
def u256SubX : Cx := mkCx Tryz.prog 28 globsF [(60, bitsSub64E)] [] []
theorem u256SubC : CxOk u256SubX (Glob globsF) := cx_ok (by kernel_rfl) (by kernel_rfl) ⟨bitsSub64K, trivial⟩
theorem u256SubK : CallOk Tryz.prog (Glob globsF) 31 u256SubE :=
 fun_ok (cx := u256SubX) u256SubC (fn := Tryz.f31) Tryz.func31 (by kernel_rfl) Tryz.ntmps31 Tryz.call31 _ _ _ (by kernel_rfl) (by kernel_rfl) (by kernel_rfl)
  (fun w0 hG => lall_of (lall_free (b := loopAt Tryz.f31 0) (by kernel_rfl) (lall_nil)) (by kernel_rfl : loopsOf (bodyOf Tryz.f31) = _)) (fun p => Eq.trans (b := u256SubB p.1 p.2) (by kernel_rfl) (u256Sub_eq p.1 p.2).symm)
def u256CmpE : Entry := mkE [.u256, .u256] [.int .i64] fun p => u256Cmp p.1 p.2
def u256CmpX : Cx := mkCx Tryz.prog 18 globsF [(31, u256SubE)] [] []
theorem u256CmpC : CxOk u256CmpX (Glob globsF) := cx_ok (by kernel_rfl) (by kernel_rfl) ⟨u256SubK, trivial⟩
theorem u256CmpK : CallOk Tryz.prog (Glob globsF) 13 u256CmpE :=
 fun_ok (cx := u256CmpX) u256CmpC (fn := Tryz.f13) Tryz.func13 (by kernel_rfl) Tryz.ntmps13 Tryz.call13 _ _ _ (by kernel_rfl) (by kernel_rfl) (by kernel_rfl)
  (fun w0 hG => lall_of lall_nil (by kernel_rfl : loopsOf (bodyOf Tryz.f13) = _)) (fun p => Eq.trans (b := u256CmpB p.1 p.2) (by kernel_rfl) (u256Cmp_eq p.1 p.2).symm)
def fieldModulusFoldE : Entry := mkE [.st [.u256, .u256], .u256, .u256] [.u256] fun p => fieldModulusFold p.1 p.2.1 p.2.2
def fieldModulusFoldL0Y : Lay := ⟨[(false, 3, .ptr 1003 []), (false, 4, .ptr 1004 []), (false, 5, .ptr 1005 []), (false, 6, .ptr 1006 [])], [(true, 1003, .st [.u256, .u256]), (true, 1004, .u256), (true, 1005, .u256), (true, 1006, .u256)], [⟨[(1003, 1003), (1004, 1004), (1005, 1005), (1006, 1006)], []⟩]⟩
def fieldModulusFoldL0Z : List (Ex × Lay) := [(.exit 0, ⟨[(false, 3, .ptr 1003 []), (false, 5, .ptr 1005 []), (false, 6, .ptr 1006 [])], [(true, 1003, .st [.u256, .u256]), (true, 1005, .u256), (true, 1006, .u256)], [⟨[(1003, 1003), (1005, 1005), (1006, 1006)], []⟩]⟩)]
def fieldModulusFoldL0E : LEntry := mkL fieldModulusFoldL0Y fieldModulusFoldL0Z fun p => fieldModulusFoldL0 p.1 p.2.1 p.2.2.1 p.2.2.2
def fieldModulusFoldL1Y : Lay := ⟨[(false, 3, .ptr 1003 []), (false, 5, .ptr 1005 []), (false, 6, .ptr 1006 [])], [(true, 1003, .st [.u256, .u256]), (true, 1005, .u256), (true, 1006, .u256)], [⟨[(1003, 1003), (1005, 1005), (1006, 1006)], []⟩]⟩
def fieldModulusFoldL1Z : List (Ex × Lay) := [(.exit 2, ⟨[(false, 5, .ptr 1005 []), (false, 6, .ptr 1006 [])], [(true, 1005, .u256), (true, 1006, .u256)], [⟨[(1005, 1005), (1006, 1006)], []⟩]⟩)]
def fieldModulusFoldL1E : LEntry := mkL fieldModulusFoldL1Y fieldModulusFoldL1Z fun p => fieldModulusFoldL1 p.1 p.2.1 p.2.2
def fieldModulusFoldX : Cx := mkCx Tryz.prog 46 globsF [(13, u256CmpE), (31, u256SubE), (72, u256MulE), (73, u256AddE), (74, u256FromE)] [(1, fieldModulusFoldL0E), (6, fieldModulusFoldL1E)] []
theorem fieldModulusFoldC : CxOk fieldModulusFoldX (Glob globsF) := cx_ok (by kernel_rfl) (by kernel_rfl) ⟨u256CmpK, u256SubK, u256MulK, u256AddK, u256FromK, trivial⟩
theorem fieldModulusFoldL0K (w0 : Ini) (hG : Glob globsF w0) : LoopOk fieldModulusFoldX w0 (loopAt Tryz.f71 0) fieldModulusFoldL0E :=
 loop_okH fieldModulusFoldC hG (loopAt Tryz.f71 0) (lall_of lall_nil (by kernel_rfl : loopsOf (loopAt Tryz.f71 0) = _))
  fieldModulusFoldL0Y fieldModulusFoldL0Z (by kernel_rfl) (fun p => fieldModulusFoldL0R p.1 p.2.1 p.2.2.1 p.2.2.2) (fun p => 1000) (fun p => by kernel_rfl) _ (fun p => fieldModulusFoldL0_eq p.1 p.2.1 p.2.2.1 p.2.2.2)
theorem fieldModulusFoldL1K (w0 : Ini) (hG : Glob globsF w0) : LoopOk fieldModulusFoldX w0 (loopAt Tryz.f71 1) fieldModulusFoldL1E :=
 loop_okH fieldModulusFoldC hG (loopAt Tryz.f71 1) (lall_of lall_nil (by kernel_rfl : loopsOf (loopAt Tryz.f71 1) = _))
  fieldModulusFoldL1Y fieldModulusFoldL1Z (by kernel_rfl) (fun p => fieldModulusFoldL1R p.1 p.2.1 p.2.2) (fun p => 1000) (fun p => by kernel_rfl) _ (fun p => fieldModulusFoldL1_eq p.1 p.2.1 p.2.2)
theorem fieldModulusFoldK : CallOk Tryz.prog (Glob globsF) 71 fieldModulusFoldE :=
 fun_ok (cx := fieldModulusFoldX) fieldModulusFoldC (fn := Tryz.f71) Tryz.func71 (by kernel_rfl) Tryz.ntmps71 Tryz.call71 _ _ _ (by kernel_rfl) (by kernel_rfl) (by kernel_rfl)
  (fun w0 hG => lall_of (lall_cut (b := loopAt Tryz.f71 0) (fieldModulusFoldL0K w0 hG) (by kernel_rfl) (lall_cut (b := loopAt Tryz.f71 1) (fieldModulusFoldL1K w0 hG) (by kernel_rfl) (lall_nil))) (by kernel_rfl : loopsOf (bodyOf Tryz.f71) = _)) (fun p => Eq.trans (b := fieldModulusFoldB p.1 p.2.1 p.2.2) (by kernel_rfl) (fieldModulusFold_eq p.1 p.2.1 p.2.2).symm)
def fieldModulusAddE : Entry := mkE [.st [.u256, .u256], .u256, .u256] [.u256] fun p => fieldModulusAdd p.1 p.2.1 p.2.2
def fieldModulusAddX : Cx := mkCx Tryz.prog 20 globsF [(71, fieldModulusFoldE), (73, u256AddE), (74, u256FromE)] [] []
theorem fieldModulusAddC : CxOk fieldModulusAddX (Glob globsF) := cx_ok (by kernel_rfl) (by kernel_rfl) ⟨fieldModulusFoldK, u256AddK, u256FromK, trivial⟩
theorem fieldModulusAddK : CallOk Tryz.prog (Glob globsF) 41 fieldModulusAddE :=
 fun_ok (cx := fieldModulusAddX) fieldModulusAddC (fn := Tryz.f41) Tryz.func41 (by kernel_rfl) Tryz.ntmps41 Tryz.call41 _ _ _ (by kernel_rfl) (by kernel_rfl) (by kernel_rfl)
  (fun w0 hG => lall_of lall_nil (by kernel_rfl : loopsOf (bodyOf Tryz.f41) = _)) (fun p => Eq.trans (b := fieldModulusAddB p.1 p.2.1 p.2.2) (by kernel_rfl) (fieldModulusAdd_eq p.1 p.2.1 p.2.2).symm)
def fieldAddE : Entry := mkE [.int .i64, .u256, .u256] [.u256, .int .i64] fun p => fieldAdd p.1 p.2.1 p.2.2
def fieldAddX : Cx := mkCx Tryz.prog 23 globsF [(39, fieldIOfE), (41, fieldModulusAddE)] [] []
theorem fieldAddC : CxOk fieldAddX (Glob globsF) := cx_ok (by kernel_rfl) (by kernel_rfl) ⟨fieldIOfK, fieldModulusAddK, trivial⟩
theorem fieldAddK : CallOk Tryz.prog (Glob globsF) 18 fieldAddE :=
 fun_ok (cx := fieldAddX) fieldAddC (fn := Tryz.f18) Tryz.func18 (by kernel_rfl) Tryz.ntmps18 Tryz.call18 _ _ _ (by kernel_rfl) (by kernel_rfl) (by kernel_rfl)
  (fun w0 hG => lall_of lall_nil (by kernel_rfl : loopsOf (bodyOf Tryz.f18) = _)) (fun p => Eq.trans (b := fieldAddB p.1 p.2.1 p.2.2) (by kernel_rfl) (fieldAdd_eq p.1 p.2.1 p.2.2).symm)
def fieldModulusOneE : Entry := mkE [.st [.u256, .u256], .u256] [.u256] fun p => fieldModulusOne p.1 p.2
def fieldModulusOneX : Cx := mkCx Tryz.prog 9 globsF [(71, fieldModulusFoldE)] [] []
theorem fieldModulusOneC : CxOk fieldModulusOneX (Glob globsF) := cx_ok (by kernel_rfl) (by kernel_rfl) ⟨fieldModulusFoldK, trivial⟩
theorem fieldModulusOneK : CallOk Tryz.prog (Glob globsF) 43 fieldModulusOneE :=
 fun_ok (cx := fieldModulusOneX) fieldModulusOneC (fn := Tryz.f43) Tryz.func43 (by kernel_rfl) Tryz.ntmps43 Tryz.call43 _ _ _ (by kernel_rfl) (by kernel_rfl) (by kernel_rfl)
  (fun w0 hG => lall_of lall_nil (by kernel_rfl : loopsOf (bodyOf Tryz.f43) = _)) (fun p => Eq.trans (b := fieldModulusOneB p.1 p.2) (by kernel_rfl) (fieldModulusOne_eq p.1 p.2).symm)
def fieldModulusNegE : Entry := mkE [.st [.u256, .u256], .u256] [.u256] fun p => fieldModulusNeg p.1 p.2
def fieldModulusNegX : Cx := mkCx Tryz.prog 19 globsF [(31, u256SubE), (43, fieldModulusOneE)] [] []
theorem fieldModulusNegC : CxOk fieldModulusNegX (Glob globsF) := cx_ok (by kernel_rfl) (by kernel_rfl) ⟨u256SubK, fieldModulusOneK, trivial⟩
theorem fieldModulusNegK : CallOk Tryz.prog (Glob globsF) 46 fieldModulusNegE :=
 fun_ok (cx := fieldModulusNegX) fieldModulusNegC (fn := Tryz.f46) Tryz.func46 (by kernel_rfl) Tryz.ntmps46 Tryz.call46 _ _ _ (by kernel_rfl) (by kernel_rfl) (by kernel_rfl)
  (fun w0 hG => lall_of lall_nil (by kernel_rfl : loopsOf (bodyOf Tryz.f46) = _)) (fun p => Eq.trans (b := fieldModulusNegB p.1 p.2) (by kernel_rfl) (fieldModulusNeg_eq p.1 p.2).symm)
def fieldSubE : Entry := mkE [.int .i64, .u256, .u256] [.u256, .int .i64] fun p => fieldSub p.1 p.2.1 p.2.2
def fieldSubX : Cx := mkCx Tryz.prog 25 globsF [(39, fieldIOfE), (41, fieldModulusAddE), (46, fieldModulusNegE)] [] []
theorem fieldSubC : CxOk fieldSubX (Glob globsF) := cx_ok (by kernel_rfl) (by kernel_rfl) ⟨fieldIOfK, fieldModulusAddK, fieldModulusNegK, trivial⟩
theorem fieldSubK : CallOk Tryz.prog (Glob globsF) 131 fieldSubE :=
 fun_ok (cx := fieldSubX) fieldSubC (fn := Tryz.f131) Tryz.func131 (by kernel_rfl) Tryz.ntmps131 Tryz.call131 _ _ _ (by kernel_rfl) (by kernel_rfl) (by kernel_rfl)
  (fun w0 hG => lall_of lall_nil (by kernel_rfl : loopsOf (bodyOf Tryz.f131) = _)) (fun p => Eq.trans (b := fieldSubB p.1 p.2.1 p.2.2) (by kernel_rfl) (fieldSub_eq p.1 p.2.1 p.2.2).symm)
def fieldNegE : Entry := mkE [.int .i64, .u256] [.u256, .int .i64] fun p => fieldNeg p.1 p.2
def fieldNegX : Cx := mkCx Tryz.prog 20 globsF [(39, fieldIOfE), (46, fieldModulusNegE)] [] []
theorem fieldNegC : CxOk fieldNegX (Glob globsF) := cx_ok (by kernel_rfl) (by kernel_rfl) ⟨fieldIOfK, fieldModulusNegK, trivial⟩
theorem fieldNegK : CallOk Tryz.prog (Glob globsF) 23 fieldNegE :=
 fun_ok (cx := fieldNegX) fieldNegC (fn := Tryz.f23) Tryz.func23 (by kernel_rfl) Tryz.ntmps23 Tryz.call23 _ _ _ (by kernel_rfl) (by kernel_rfl) (by kernel_rfl)
  (fun w0 hG => lall_of lall_nil (by kernel_rfl : loopsOf (bodyOf Tryz.f23) = _)) (fun p => Eq.trans (b := fieldNegB p.1 p.2) (by kernel_rfl) (fieldNeg_eq p.1 p.2).symm)
def fieldModulusMulE : Entry := mkE [.st [.u256, .u256], .u256, .u256] [.u256] fun p => fieldModulusMul p.1 p.2.1 p.2.2
def fieldModulusMulX : Cx := mkCx Tryz.prog 14 globsF [(71, fieldModulusFoldE), (72, u256MulE)] [] []
theorem fieldModulusMulC : CxOk fieldModulusMulX (Glob globsF) := cx_ok (by kernel_rfl) (by kernel_rfl) ⟨fieldModulusFoldK, u256MulK, trivial⟩
theorem fieldModulusMulK : CallOk Tryz.prog (Glob globsF) 40 fieldModulusMulE :=
 fun_ok (cx := fieldModulusMulX) fieldModulusMulC (fn := Tryz.f40) Tryz.func40 (by kernel_rfl) Tryz.ntmps40 Tryz.call40 _ _ _ (by kernel_rfl) (by kernel_rfl) (by kernel_rfl)
  (fun w0 hG => lall_of lall_nil (by kernel_rfl : loopsOf (bodyOf Tryz.f40) = _)) (fun p => Eq.trans (b := fieldModulusMulB p.1 p.2.1 p.2.2) (by kernel_rfl) (fieldModulusMul_eq p.1 p.2.1 p.2.2).symm)
def fieldMulE : Entry := mkE [.int .i64, .u256, .u256] [.u256, .int .i64] fun p => fieldMul p.1 p.2.1 p.2.2
def fieldMulX : Cx := mkCx Tryz.prog 23 globsF [(39, fieldIOfE), (40, fieldModulusMulE)] [] []
theorem fieldMulC : CxOk fieldMulX (Glob globsF) := cx_ok (by kernel_rfl) (by kernel_rfl) ⟨fieldIOfK, fieldModulusMulK, trivial⟩
theorem fieldMulK : CallOk Tryz.prog (Glob globsF) 17 fieldMulE :=
 fun_ok (cx := fieldMulX) fieldMulC (fn := Tryz.f17) Tryz.func17 (by kernel_rfl) Tryz.ntmps17 Tryz.call17 _ _ _ (by kernel_rfl) (by kernel_rfl) (by kernel_rfl)
  (fun w0 hG => lall_of lall_nil (by kernel_rfl : loopsOf (bodyOf Tryz.f17) = _)) (fun p => Eq.trans (b := fieldMulB p.1 p.2.1 p.2.2) (by kernel_rfl) (fieldMul_eq p.1 p.2.1 p.2.2).symm)
def bitsLen64E : Entry := mkE [.int .u64] [.int .i64] fun p => bitsLen64 p
def bitsLen64X : Cx := mkCx Tryz.prog 25 globsF [] [] []
theorem bitsLen64C : CxOk bitsLen64X (Glob globsF) := cx_ok (by kernel_rfl) (by kernel_rfl) trivial
theorem bitsLen64K : CallOk Tryz.prog (Glob globsF) 119 bitsLen64E :=
 fun_ok (cx := bitsLen64X) bitsLen64C (fn := Tryz.f119) Tryz.func119 (by kernel_rfl) Tryz.ntmps119 Tryz.call119 _ _ _ (by kernel_rfl) (by kernel_rfl) (by kernel_rfl)
  (fun w0 hG => lall_of lall_nil (by kernel_rfl : loopsOf (bodyOf Tryz.f119) = _)) (fun p => Eq.trans (b := bitsLen64B p) (by kernel_rfl) (bitsLen64_eq p).symm)
def u256LenE : Entry := mkE [.u256] [.int .i64] fun p => u256Len p
def u256LenL0Y : Lay := ⟨[(false, 1, .ptr 1001 [])], [(false, 3, .int .i64), (true, 1001, .u256)], [⟨[(1001, 1001)], []⟩]⟩
def u256LenL0Z : List (Ex × Lay) := [(.ret, ⟨[], [(false, 2, .int .i64)], [⟨[], []⟩]⟩), (.exit 0, ⟨[], [], [⟨[], []⟩]⟩)]
def u256LenL0E : LEntry := mkL u256LenL0Y u256LenL0Z fun p => u256LenL0 p.1 p.2
def u256LenX : Cx := mkCx Tryz.prog 19 globsF [(119, bitsLen64E)] [(2, u256LenL0E)] []
theorem u256LenC : CxOk u256LenX (Glob globsF) := cx_ok (by kernel_rfl) (by kernel_rfl) ⟨bitsLen64K, trivial⟩
theorem u256LenL0K (w0 : Ini) (hG : Glob globsF w0) : LoopOk u256LenX w0 (loopAt Tryz.f94 0) u256LenL0E :=
 loop_okH u256LenC hG (loopAt Tryz.f94 0) (lall_of lall_nil (by kernel_rfl : loopsOf (loopAt Tryz.f94 0) = _))
  u256LenL0Y u256LenL0Z (by kernel_rfl) (fun p => u256LenL0R p.1 p.2) (fun p => 1000) (fun p => by kernel_rfl) _ (fun p => u256LenL0_eq p.1 p.2)
theorem u256LenK : CallOk Tryz.prog (Glob globsF) 94 u256LenE :=
 fun_ok (cx := u256LenX) u256LenC (fn := Tryz.f94) Tryz.func94 (by kernel_rfl) Tryz.ntmps94 Tryz.call94 _ _ _ (by kernel_rfl) (by kernel_rfl) (by kernel_rfl)
  (fun w0 hG => lall_of (lall_cut (b := loopAt Tryz.f94 0) (u256LenL0K w0 hG) (by kernel_rfl) (lall_nil)) (by kernel_rfl : loopsOf (bodyOf Tryz.f94) = _)) (fun p => Eq.trans (b := u256LenB p) (by kernel_rfl) (u256Len_eq p).symm)
def u256BitE : Entry := mkE [.u256, .int .i64] [.int .i64] fun p => u256Bit p.1 p.2
def u256BitX : Cx := mkCx Tryz.prog 20 globsF [] [] []
theorem u256BitC : CxOk u256BitX (Glob globsF) := cx_ok (by kernel_rfl) (by kernel_rfl) trivial
theorem u256BitK : CallOk Tryz.prog (Glob globsF) 21 u256BitE :=
 fun_ok (cx := u256BitX) u256BitC (fn := Tryz.f21) Tryz.func21 (by kernel_rfl) Tryz.ntmps21 Tryz.call21 _ _ _ (by kernel_rfl) (by kernel_rfl) (by kernel_rfl)
  (fun w0 hG => lall_of lall_nil (by kernel_rfl : loopsOf (bodyOf Tryz.f21) = _)) (fun p => Eq.trans (b := u256BitB p.1 p.2) (by kernel_rfl) (u256Bit_eq p.1 p.2).symm)
def fieldModulusExpE : Entry := mkE [.st [.u256, .u256], .u256, .u256] [.u256] fun p => fieldModulusExp p.1 p.2.1 p.2.2
def fieldModulusExpL0Y : Lay := ⟨[(false, 3, .ptr 1003 []), (false, 4, .ptr 1004 []), (false, 5, .ptr 1005 []), (false, 6, .ptr 1006 []), (false, 7, .ptr 1007 [])], [(false, 8, .int .i64), (true, 1003, .st [.u256, .u256]), (true, 1004, .u256), (true, 1005, .u256), (true, 1006, .u256), (true, 1007, .u256)], [⟨[(1003, 1003), (1004, 1004), (1005, 1005), (1006, 1006), (1007, 1007)], []⟩]⟩
def fieldModulusExpL0Z : List (Ex × Lay) := [(.exit 0, ⟨[(false, 6, .ptr 1006 []), (false, 7, .ptr 1007 [])], [(true, 1006, .u256), (true, 1007, .u256)], [⟨[(1006, 1006), (1007, 1007)], []⟩]⟩)]
def fieldModulusExpL0E : LEntry := mkL fieldModulusExpL0Y fieldModulusExpL0Z fun p => fieldModulusExpL0 p.1 p.2.1 p.2.2.1 p.2.2.2.1 p.2.2.2.2.1 p.2.2.2.2.2
def fieldModulusExpX : Cx := mkCx Tryz.prog 32 globsF [(21, u256BitE), (40, fieldModulusMulE), (43, fieldModulusOneE), (74, u256FromE), (94, u256LenE)] [(3, fieldModulusExpL0E)] []
theorem fieldModulusExpC : CxOk fieldModulusExpX (Glob globsF) := cx_ok (by kernel_rfl) (by kernel_rfl) ⟨u256BitK, fieldModulusMulK, fieldModulusOneK, u256FromK, u256LenK, trivial⟩
theorem fieldModulusExpL0K (w0 : Ini) (hG : Glob globsF w0) : LoopOk fieldModulusExpX w0 (loopAt Tryz.f75 0) fieldModulusExpL0E :=
 loop_okH fieldModulusExpC hG (loopAt Tryz.f75 0) (lall_of lall_nil (by kernel_rfl : loopsOf (loopAt Tryz.f75 0) = _))
  fieldModulusExpL0Y fieldModulusExpL0Z (by kernel_rfl) (fun p => fieldModulusExpL0R p.1 p.2.1 p.2.2.1 p.2.2.2.1 p.2.2.2.2.1 p.2.2.2.2.2) (fun p => 1000) (fun p => by kernel_rfl) _ (fun p => fieldModulusExpL0_eq p.1 p.2.1 p.2.2.1 p.2.2.2.1 p.2.2.2.2.1 p.2.2.2.2.2)
theorem fieldModulusExpK : CallOk Tryz.prog (Glob globsF) 75 fieldModulusExpE :=
 fun_ok (cx := fieldModulusExpX) fieldModulusExpC (fn := Tryz.f75) Tryz.func75 (by kernel_rfl) Tryz.ntmps75 Tryz.call75 _ _ _ (by kernel_rfl) (by kernel_rfl) (by kernel_rfl)
  (fun w0 hG => lall_of (lall_cut (b := loopAt Tryz.f75 0) (fieldModulusExpL0K w0 hG) (by kernel_rfl) (lall_nil)) (by kernel_rfl : loopsOf (bodyOf Tryz.f75) = _)) (fun p => Eq.trans (b := fieldModulusExpB p.1 p.2.1 p.2.2) (by kernel_rfl) (fieldModulusExp_eq p.1 p.2.1 p.2.2).symm)
def fieldModulusInverseE : Entry := mkE [.st [.u256, .u256], .u256] [.u256] fun p => fieldModulusInverse p.1 p.2
def fieldModulusInverseX : Cx := mkCx Tryz.prog 18 globsF [(31, u256SubE), (74, u256FromE), (75, fieldModulusExpE)] [] []
theorem fieldModulusInverseC : CxOk fieldModulusInverseX (Glob globsF) := cx_ok (by kernel_rfl) (by kernel_rfl) ⟨u256SubK, u256FromK, fieldModulusExpK, trivial⟩
theorem fieldModulusInverseK : CallOk Tryz.prog (Glob globsF) 44 fieldModulusInverseE :=
 fun_ok (cx := fieldModulusInverseX) fieldModulusInverseC (fn := Tryz.f44) Tryz.func44 (by kernel_rfl) Tryz.ntmps44 Tryz.call44 _ _ _ (by kernel_rfl) (by kernel_rfl) (by kernel_rfl)
  (fun w0 hG => lall_of lall_nil (by kernel_rfl : loopsOf (bodyOf Tryz.f44) = _)) (fun p => Eq.trans (b := fieldModulusInverseB p.1 p.2) (by kernel_rfl) (fieldModulusInverse_eq p.1 p.2).symm)
def fieldInverseE : Entry := mkE [.int .i64, .u256] [.u256, .int .i64] fun p => fieldInverse p.1 p.2
def fieldInverseX : Cx := mkCx Tryz.prog 26 globsF [(39, fieldIOfE), (43, fieldModulusOneE), (44, fieldModulusInverseE)] [] []
theorem fieldInverseC : CxOk fieldInverseX (Glob globsF) := cx_ok (by kernel_rfl) (by kernel_rfl) ⟨fieldIOfK, fieldModulusOneK, fieldModulusInverseK, trivial⟩
theorem fieldInverseK : CallOk Tryz.prog (Glob globsF) 20 fieldInverseE :=
 fun_ok (cx := fieldInverseX) fieldInverseC (fn := Tryz.f20) Tryz.func20 (by kernel_rfl) Tryz.ntmps20 Tryz.call20 _ _ _ (by kernel_rfl) (by kernel_rfl) (by kernel_rfl)
  (fun w0 hG => lall_of lall_nil (by kernel_rfl : loopsOf (bodyOf Tryz.f20) = _)) (fun p => Eq.trans (b := fieldInverseB p.1 p.2) (by kernel_rfl) (fieldInverse_eq p.1 p.2).symm)
def fieldSquareE : Entry := mkE [.int .i64, .u256] [.u256, .int .i64] fun p => fieldSquare p.1 p.2
def fieldSquareX : Cx := mkCx Tryz.prog 12 globsF [(17, fieldMulE)] [] []
theorem fieldSquareC : CxOk fieldSquareX (Glob globsF) := cx_ok (by kernel_rfl) (by kernel_rfl) ⟨fieldMulK, trivial⟩
theorem fieldSquareK : CallOk Tryz.prog (Glob globsF) 98 fieldSquareE :=
 fun_ok (cx := fieldSquareX) fieldSquareC (fn := Tryz.f98) Tryz.func98 (by kernel_rfl) Tryz.ntmps98 Tryz.call98 _ _ _ (by kernel_rfl) (by kernel_rfl) (by kernel_rfl)
  (fun w0 hG => lall_of lall_nil (by kernel_rfl : loopsOf (bodyOf Tryz.f98) = _)) (fun p => Eq.trans (b := fieldSquareB p.1 p.2) (by kernel_rfl) (fieldSquare_eq p.1 p.2).symm)
def fieldReduceE : Entry := mkE [.int .i64, .u256, .u256] [.u256, .int .i64] fun p => fieldReduce p.1 p.2.1 p.2.2
def fieldReduceX : Cx := mkCx Tryz.prog 23 globsF [(39, fieldIOfE), (71, fieldModulusFoldE)] [] []
theorem fieldReduceC : CxOk fieldReduceX (Glob globsF) := cx_ok (by kernel_rfl) (by kernel_rfl) ⟨fieldIOfK, fieldModulusFoldK, trivial⟩
theorem fieldReduceK : CallOk Tryz.prog (Glob globsF) 42 fieldReduceE :=
 fun_ok (cx := fieldReduceX) fieldReduceC (fn := Tryz.f42) Tryz.func42 (by kernel_rfl) Tryz.ntmps42 Tryz.call42 _ _ _ (by kernel_rfl) (by kernel_rfl) (by kernel_rfl)
  (fun w0 hG => lall_of lall_nil (by kernel_rfl : loopsOf (bodyOf Tryz.f42) = _)) (fun p => Eq.trans (b := fieldReduceB p.1 p.2.1 p.2.2) (by kernel_rfl) (fieldReduce_eq p.1 p.2.1 p.2.2).symm)
def ref04IGoodE : Entry := mkE [.int .i64] [.bool] fun p => ref04IGood p
def ref04IGoodX : Cx := mkCx Tryz.prog 9 globsF [] [] []
theorem ref04IGoodC : CxOk ref04IGoodX (Glob globsF) := cx_ok (by kernel_rfl) (by kernel_rfl) trivial
theorem ref04IGoodK : CallOk Tryz.prog (Glob globsF) 77 ref04IGoodE :=
 fun_ok (cx := ref04IGoodX) ref04IGoodC (fn := Tryz.f77) Tryz.func77 (by kernel_rfl) Tryz.ntmps77 Tryz.call77 _ _ _ (by kernel_rfl) (by kernel_rfl) (by kernel_rfl)
  (fun w0 hG => lall_of lall_nil (by kernel_rfl : loopsOf (bodyOf Tryz.f77) = _)) (fun p => Eq.trans (b := ref04IGoodB p) (by kernel_rfl) (ref04IGood_eq p).symm)
def ref04IModulusE : Entry := mkE [.int .i64] [.u256] fun p => ref04IModulus p
def ref04IModulusX : Cx := mkCx Tryz.prog 7 globsF [] [] []
theorem ref04IModulusC : CxOk ref04IModulusX (Glob globsF) := cx_ok (by kernel_rfl) (by kernel_rfl) trivial
theorem ref04IModulusK : CallOk Tryz.prog (Glob globsF) 78 ref04IModulusE :=
 fun_ok (cx := ref04IModulusX) ref04IModulusC (fn := Tryz.f78) Tryz.func78 (by kernel_rfl) Tryz.ntmps78 Tryz.call78 _ _ _ (by kernel_rfl) (by kernel_rfl) (by kernel_rfl)
  (fun w0 hG => lall_of lall_nil (by kernel_rfl : loopsOf (bodyOf Tryz.f78) = _)) (fun p => Eq.trans (b := ref04IModulusB p) (by kernel_rfl) (ref04IModulus_eq p).symm)
def ref04ModulusE : Entry := mkE [.int .i64] [.u256, .int .i64] fun p => ref04Modulus p
def ref04ModulusX : Cx := mkCx Tryz.prog 12 globsF [(77, ref04IGoodE), (78, ref04IModulusE)] [] []
theorem ref04ModulusC : CxOk ref04ModulusX (Glob globsF) := cx_ok (by kernel_rfl) (by kernel_rfl) ⟨ref04IGoodK, ref04IModulusK, trivial⟩
theorem ref04ModulusK : CallOk Tryz.prog (Glob globsF) 47 ref04ModulusE :=
 fun_ok (cx := ref04ModulusX) ref04ModulusC (fn := Tryz.f47) Tryz.func47 (by kernel_rfl) Tryz.ntmps47 Tryz.call47 _ _ _ (by kernel_rfl) (by kernel_rfl) (by kernel_rfl)
  (fun w0 hG => lall_of lall_nil (by kernel_rfl : loopsOf (bodyOf Tryz.f47) = _)) (fun p => Eq.trans (b := ref04ModulusB p) (by kernel_rfl) (ref04Modulus_eq p).symm)
def ref01IDigitsE : Entry := mkE [.u256] [.arr (.int .u64) 8] fun p => ref01IDigits p
def ref01IDigitsX : Cx := mkCx Tryz.prog 25 globsF [] [] []
theorem ref01IDigitsC : CxOk ref01IDigitsX (Glob globsF) := cx_ok (by kernel_rfl) (by kernel_rfl) trivial
theorem ref01IDigitsK : CallOk Tryz.prog (Glob globsF) 58 ref01IDigitsE :=
 fun_ok (cx := ref01IDigitsX) ref01IDigitsC (fn := Tryz.f58) Tryz.func58 (by kernel_rfl) Tryz.ntmps58 Tryz.call58 _ _ _ (by kernel_rfl) (by kernel_rfl) (by kernel_rfl)
  (fun w0 hG => lall_of (lall_free (b := loopAt Tryz.f58 0) (by kernel_rfl) (lall_nil)) (by kernel_rfl : loopsOf (bodyOf Tryz.f58) = _)) (fun p => Eq.trans (b := ref01IDigitsB p) (by kernel_rfl) (ref01IDigits_eq p).symm)
def ref01INumberE : Entry := mkE [.arr (.int .u64) 8] [.u256] fun p => ref01INumber p
def ref01INumberX : Cx := mkCx Tryz.prog 23 globsF [] [] []
theorem ref01INumberC : CxOk ref01INumberX (Glob globsF) := cx_ok (by kernel_rfl) (by kernel_rfl) trivial
theorem ref01INumberK : CallOk Tryz.prog (Glob globsF) 59 ref01INumberE :=
 fun_ok (cx := ref01INumberX) ref01INumberC (fn := Tryz.f59) Tryz.func59 (by kernel_rfl) Tryz.ntmps59 Tryz.call59 _ _ _ (by kernel_rfl) (by kernel_rfl) (by kernel_rfl)
  (fun w0 hG => lall_of (lall_free (b := loopAt Tryz.f59 0) (by kernel_rfl) (lall_nil)) (by kernel_rfl : loopsOf (bodyOf Tryz.f59) = _)) (fun p => Eq.trans (b := ref01INumberB p) (by kernel_rfl) (ref01INumber_eq p).symm)
def ref01AddE : Entry := mkE [.u256, .u256] [.u256, .int .u64] fun p => ref01Add p.1 p.2
def ref01AddL0Y : Lay := ⟨[(false, 4, .ptr 1004 []), (false, 6, .ptr 1006 []), (false, 7, .ptr 1007 [])], [(false, 8, .int .u64), (false, 9, .int .i64), (true, 1004, .u256), (true, 1006, .arr (.int .u64) 8), (true, 1007, .arr (.int .u64) 8)], [⟨[(1004, 1004), (1006, 1006), (1007, 1007)], []⟩]⟩
def ref01AddL0Z : List (Ex × Lay) := [(.exit 0, ⟨[(false, 4, .ptr 1004 []), (false, 6, .ptr 1006 [])], [(false, 8, .int .u64), (true, 1004, .u256), (true, 1006, .arr (.int .u64) 8)], [⟨[(1004, 1004), (1006, 1006)], []⟩]⟩)]
def ref01AddL0E : LEntry := mkL ref01AddL0Y ref01AddL0Z fun p => ref01AddL0 p.1 p.2.1 p.2.2.1 p.2.2.2.1 p.2.2.2.2
def ref01AddX : Cx := mkCx Tryz.prog 37 globsF [(58, ref01IDigitsE), (59, ref01INumberE)] [(5, ref01AddL0E)] []
theorem ref01AddC : CxOk ref01AddX (Glob globsF) := cx_ok (by kernel_rfl) (by kernel_rfl) ⟨ref01IDigitsK, ref01INumberK, trivial⟩
theorem ref01AddL0K (w0 : Ini) (hG : Glob globsF w0) : LoopOk ref01AddX w0 (loopAt Tryz.f123 0) ref01AddL0E :=
 loop_okH ref01AddC hG (loopAt Tryz.f123 0) (lall_of lall_nil (by kernel_rfl : loopsOf (loopAt Tryz.f123 0) = _))
  ref01AddL0Y ref01AddL0Z (by kernel_rfl) (fun p => ref01AddL0R p.1 p.2.1 p.2.2.1 p.2.2.2.1 p.2.2.2.2) (fun p => 1000) (fun p => by kernel_rfl) _ (fun p => ref01AddL0_eq p.1 p.2.1 p.2.2.1 p.2.2.2.1 p.2.2.2.2)
theorem ref01AddK : CallOk Tryz.prog (Glob globsF) 123 ref01AddE :=
 fun_ok (cx := ref01AddX) ref01AddC (fn := Tryz.f123) Tryz.func123 (by kernel_rfl) Tryz.ntmps123 Tryz.call123 _ _ _ (by kernel_rfl) (by kernel_rfl) (by kernel_rfl)
  (fun w0 hG => lall_of (lall_cut (b := loopAt Tryz.f123 0) (ref01AddL0K w0 hG) (by kernel_rfl) (lall_nil)) (by kernel_rfl : loopsOf (bodyOf Tryz.f123) = _)) (fun p => Eq.trans (b := ref01AddB p.1 p.2) (by kernel_rfl) (ref01Add_eq p.1 p.2).symm)
def ref01FromE : Entry := mkE [.int .u64] [.u256] fun p => ref01From p
def ref01FromX : Cx := mkCx Tryz.prog 5 globsF [] [] []
theorem ref01FromC : CxOk ref01FromX (Glob globsF) := cx_ok (by kernel_rfl) (by kernel_rfl) trivial
theorem ref01FromK : CallOk Tryz.prog (Glob globsF) 114 ref01FromE :=
 fun_ok (cx := ref01FromX) ref01FromC (fn := Tryz.f114) Tryz.func114 (by kernel_rfl) Tryz.ntmps114 Tryz.call114 _ _ _ (by kernel_rfl) (by kernel_rfl) (by kernel_rfl)
  (fun w0 hG => lall_of lall_nil (by kernel_rfl : loopsOf (bodyOf Tryz.f114) = _)) (fun p => Eq.trans (b := ref01FromB p) (by kernel_rfl) (ref01From_eq p).symm)
def ref01SubE : Entry := mkE [.u256, .u256] [.u256, .int .u64] fun p => ref01Sub p.1 p.2
def ref01SubL0Y : Lay := ⟨[(false, 4, .ptr 1004 []), (false, 6, .ptr 1006 []), (false, 7, .ptr 1007 [])], [(false, 8, .int .u64), (false, 9, .int .i64), (true, 1004, .u256), (true, 1006, .arr (.int .u64) 8), (true, 1007, .arr (.int .u64) 8)], [⟨[(1004, 1004), (1006, 1006), (1007, 1007)], []⟩]⟩
def ref01SubL0Z : List (Ex × Lay) := [(.exit 0, ⟨[(false, 4, .ptr 1004 []), (false, 6, .ptr 1006 [])], [(false, 8, .int .u64), (true, 1004, .u256), (true, 1006, .arr (.int .u64) 8)], [⟨[(1004, 1004), (1006, 1006)], []⟩]⟩)]
def ref01SubL0E : LEntry := mkL ref01SubL0Y ref01SubL0Z fun p => ref01SubL0 p.1 p.2.1 p.2.2.1 p.2.2.2.1 p.2.2.2.2
def ref01SubX : Cx := mkCx Tryz.prog 45 globsF [(58, ref01IDigitsE), (59, ref01INumberE)] [(5, ref01SubL0E)] []
theorem ref01SubC : CxOk ref01SubX (Glob globsF) := cx_ok (by kernel_rfl) (by kernel_rfl) ⟨ref01IDigitsK, ref01INumberK, trivial⟩
theorem ref01SubL0K (w0 : Ini) (hG : Glob globsF w0) : LoopOk ref01SubX w0 (loopAt Tryz.f30 0) ref01SubL0E :=
 loop_okH ref01SubC hG (loopAt Tryz.f30 0) (lall_of lall_nil (by kernel_rfl : loopsOf (loopAt Tryz.f30 0) = _))
  ref01SubL0Y ref01SubL0Z (by kernel_rfl) (fun p => ref01SubL0R p.1 p.2.1 p.2.2.1 p.2.2.2.1 p.2.2.2.2) (fun p => 1000) (fun p => by kernel_rfl) _ (fun p => ref01SubL0_eq p.1 p.2.1 p.2.2.1 p.2.2.2.1 p.2.2.2.2)
theorem ref01SubK : CallOk Tryz.prog (Glob globsF) 30 ref01SubE :=
 fun_ok (cx := ref01SubX) ref01SubC (fn := Tryz.f30) Tryz.func30 (by kernel_rfl) Tryz.ntmps30 Tryz.call30 _ _ _ (by kernel_rfl) (by kernel_rfl) (by kernel_rfl)
  (fun w0 hG => lall_of (lall_cut (b := loopAt Tryz.f30 0) (ref01SubL0K w0 hG) (by kernel_rfl) (lall_nil)) (by kernel_rfl : loopsOf (bodyOf Tryz.f30) = _)) (fun p => Eq.trans (b := ref01SubB p.1 p.2) (by kernel_rfl) (ref01Sub_eq p.1 p.2).symm)
def ref01MulE : Entry := mkE [.u256, .u256] [.u256, .u256] fun p => ref01Mul p.1 p.2
def ref01MulL1Y : Lay := ⟨[(false, 4, .ptr 1004 []), (false, 5, .ptr 1005 []), (false, 6, .ptr 1006 []), (false, 7, .ptr 1007 []), (false, 8, .ptr 1008 [])], [(false, 9, .int .i64), (false, 10, .int .u64), (false, 11, .int .i64), (true, 1004, .u256), (true, 1005, .u256), (true, 1006, .arr (.int .u64) 8), (true, 1007, .arr (.int .u64) 8), (true, 1008, .arr (.int .u64) 16)], [⟨[(1004, 1004), (1005, 1005), (1006, 1006), (1007, 1007), (1008, 1008)], []⟩]⟩
def ref01MulL1Z : List (Ex × Lay) := [(.exit 2, ⟨[(false, 4, .ptr 1004 []), (false, 5, .ptr 1005 []), (false, 6, .ptr 1006 []), (false, 7, .ptr 1007 []), (false, 8, .ptr 1008 [])], [(false, 9, .int .i64), (false, 10, .int .u64), (true, 1004, .u256), (true, 1005, .u256), (true, 1006, .arr (.int .u64) 8), (true, 1007, .arr (.int .u64) 8), (true, 1008, .arr (.int .u64) 16)], [⟨[(1004, 1004), (1005, 1005), (1006, 1006), (1007, 1007), (1008, 1008)], []⟩]⟩)]
def ref01MulL1E : LEntry := mkL ref01MulL1Y ref01MulL1Z fun p => ref01MulL1 p.1 p.2.1 p.2.2.1 p.2.2.2.1 p.2.2.2.2.1 p.2.2.2.2.2.1 p.2.2.2.2.2.2.1 p.2.2.2.2.2.2.2
def ref01MulL0Y : Lay := ⟨[(false, 4, .ptr 1004 []), (false, 5, .ptr 1005 []), (false, 6, .ptr 1006 []), (false, 7, .ptr 1007 []), (false, 8, .ptr 1008 [])], [(false, 9, .int .i64), (true, 1004, .u256), (true, 1005, .u256), (true, 1006, .arr (.int .u64) 8), (true, 1007, .arr (.int .u64) 8), (true, 1008, .arr (.int .u64) 16)], [⟨[(1004, 1004), (1005, 1005), (1006, 1006), (1007, 1007), (1008, 1008)], []⟩]⟩
def ref01MulL0Z : List (Ex × Lay) := [(.exit 0, ⟨[(false, 4, .ptr 1004 []), (false, 5, .ptr 1005 []), (false, 8, .ptr 1008 [])], [(true, 1004, .u256), (true, 1005, .u256), (true, 1008, .arr (.int .u64) 16)], [⟨[(1004, 1004), (1005, 1005), (1008, 1008)], []⟩]⟩)]
def ref01MulL0E : LEntry := mkL ref01MulL0Y ref01MulL0Z fun p => ref01MulL0 p.1 p.2.1 p.2.2.1 p.2.2.2.1 p.2.2.2.2.1 p.2.2.2.2.2
def ref01MulL2Y : Lay := ⟨[(false, 4, .ptr 1004 []), (false, 5, .ptr 1005 []), (false, 8, .ptr 1008 []), (false, 13, .ptr 1013 []), (false, 14, .ptr 1014 [])], [(false, 15, .int .i64), (true, 1004, .u256), (true, 1005, .u256), (true, 1008, .arr (.int .u64) 16), (true, 1013, .arr (.int .u64) 8), (true, 1014, .arr (.int .u64) 8)], [⟨[(1004, 1004), (1005, 1005), (1008, 1008), (1013, 1013), (1014, 1014)], []⟩]⟩
def ref01MulL2Z : List (Ex × Lay) := [(.exit 4, ⟨[(false, 4, .ptr 1004 []), (false, 5, .ptr 1005 []), (false, 13, .ptr 1013 []), (false, 14, .ptr 1014 [])], [(true, 1004, .u256), (true, 1005, .u256), (true, 1013, .arr (.int .u64) 8), (true, 1014, .arr (.int .u64) 8)], [⟨[(1004, 1004), (1005, 1005), (1013, 1013), (1014, 1014)], []⟩]⟩)]
def ref01MulL2E : LEntry := mkL ref01MulL2Y ref01MulL2Z fun p => ref01MulL2 p.1 p.2.1 p.2.2.1 p.2.2.2.1 p.2.2.2.2.1 p.2.2.2.2.2
def ref01MulX : Cx := mkCx Tryz.prog 74 globsF [(58, ref01IDigitsE), (59, ref01INumberE)] [(5, ref01MulL0E), (9, ref01MulL1E), (17, ref01MulL2E)] []
theorem ref01MulC : CxOk ref01MulX (Glob globsF) := cx_ok (by kernel_rfl) (by kernel_rfl) ⟨ref01IDigitsK, ref01INumberK, trivial⟩
theorem ref01MulL1K (w0 : Ini) (hG : Glob globsF w0) : LoopOk ref01MulX w0 (loopAt Tryz.f122 1) ref01MulL1E :=
 loop_okH ref01MulC hG (loopAt Tryz.f122 1) (lall_of lall_nil (by kernel_rfl : loopsOf (loopAt Tryz.f122 1) = _))
  ref01MulL1Y ref01MulL1Z (by kernel_rfl) (fun p => ref01MulL1R p.1 p.2.1 p.2.2.1 p.2.2.2.1 p.2.2.2.2.1 p.2.2.2.2.2.1 p.2.2.2.2.2.2.1 p.2.2.2.2.2.2.2) (fun p => 1000) (fun p => by kernel_rfl) _ (fun p => ref01MulL1_eq p.1 p.2.1 p.2.2.1 p.2.2.2.1 p.2.2.2.2.1 p.2.2.2.2.2.1 p.2.2.2.2.2.2.1 p.2.2.2.2.2.2.2)
theorem ref01MulL0K (w0 : Ini) (hG : Glob globsF w0) : LoopOk ref01MulX w0 (loopAt Tryz.f122 0) ref01MulL0E :=
 loop_okH ref01MulC hG (loopAt Tryz.f122 0) (lall_of (lall_cut (b := loopAt Tryz.f122 1) (ref01MulL1K w0 hG) (by kernel_rfl) (lall_nil)) (by kernel_rfl : loopsOf (loopAt Tryz.f122 0) = _))
  ref01MulL0Y ref01MulL0Z (by kernel_rfl) (fun p => ref01MulL0R p.1 p.2.1 p.2.2.1 p.2.2.2.1 p.2.2.2.2.1 p.2.2.2.2.2) (fun p => 1000) (fun p => by kernel_rfl) _ (fun p => ref01MulL0_eq p.1 p.2.1 p.2.2.1 p.2.2.2.1 p.2.2.2.2.1 p.2.2.2.2.2)
theorem ref01MulL2K (w0 : Ini) (hG : Glob globsF w0) : LoopOk ref01MulX w0 (loopAt Tryz.f122 2) ref01MulL2E :=
 loop_okH ref01MulC hG (loopAt Tryz.f122 2) (lall_of lall_nil (by kernel_rfl : loopsOf (loopAt Tryz.f122 2) = _))
  ref01MulL2Y ref01MulL2Z (by kernel_rfl) (fun p => ref01MulL2R p.1 p.2.1 p.2.2.1 p.2.2.2.1 p.2.2.2.2.1 p.2.2.2.2.2) (fun p => 1000) (fun p => by kernel_rfl) _ (fun p => ref01MulL2_eq p.1 p.2.1 p.2.2.1 p.2.2.2.1 p.2.2.2.2.1 p.2.2.2.2.2)
theorem ref01MulK : CallOk Tryz.prog (Glob globsF) 122 ref01MulE :=
 fun_ok (cx := ref01MulX) ref01MulC (fn := Tryz.f122) Tryz.func122 (by kernel_rfl) Tryz.ntmps122 Tryz.call122 _ _ _ (by kernel_rfl) (by kernel_rfl) (by kernel_rfl)
  (fun w0 hG => lall_of (lall_cut (b := loopAt Tryz.f122 0) (ref01MulL0K w0 hG) (by kernel_rfl) (lall_cut (b := loopAt Tryz.f122 1) (ref01MulL1K w0 hG) (by kernel_rfl) (lall_cut (b := loopAt Tryz.f122 2) (ref01MulL2K w0 hG) (by kernel_rfl) (lall_nil)))) (by kernel_rfl : loopsOf (bodyOf Tryz.f122) = _)) (fun p => Eq.trans (b := ref01MulB p.1 p.2) (by kernel_rfl) (ref01Mul_eq p.1 p.2).symm)
def ref01CmpE : Entry := mkE [.u256, .u256] [.int .i64] fun p => ref01Cmp p.1 p.2
def ref01CmpL0Y : Lay := ⟨[(false, 2, .ptr 1002 []), (false, 3, .ptr 1003 [])], [(false, 5, .int .i64), (true, 1002, .u256), (true, 1003, .u256)], [⟨[(1002, 1002), (1003, 1003)], []⟩]⟩
def ref01CmpL0Z : List (Ex × Lay) := [(.ret, ⟨[], [(false, 4, .int .i64)], [⟨[], []⟩]⟩), (.exit 0, ⟨[], [], [⟨[], []⟩]⟩)]
def ref01CmpL0E : LEntry := mkL ref01CmpL0Y ref01CmpL0Z fun p => ref01CmpL0 p.1 p.2.1 p.2.2
def ref01CmpX : Cx := mkCx Tryz.prog 24 globsF [] [(2, ref01CmpL0E)] []
theorem ref01CmpC : CxOk ref01CmpX (Glob globsF) := cx_ok (by kernel_rfl) (by kernel_rfl) trivial
theorem ref01CmpL0K (w0 : Ini) (hG : Glob globsF w0) : LoopOk ref01CmpX w0 (loopAt Tryz.f24 0) ref01CmpL0E :=
 loop_okH ref01CmpC hG (loopAt Tryz.f24 0) (lall_of lall_nil (by kernel_rfl : loopsOf (loopAt Tryz.f24 0) = _))
  ref01CmpL0Y ref01CmpL0Z (by kernel_rfl) (fun p => ref01CmpL0R p.1 p.2.1 p.2.2) (fun p => 1000) (fun p => by kernel_rfl) _ (fun p => ref01CmpL0_eq p.1 p.2.1 p.2.2)
theorem ref01CmpK : CallOk Tryz.prog (Glob globsF) 24 ref01CmpE :=
 fun_ok (cx := ref01CmpX) ref01CmpC (fn := Tryz.f24) Tryz.func24 (by kernel_rfl) Tryz.ntmps24 Tryz.call24 _ _ _ (by kernel_rfl) (by kernel_rfl) (by kernel_rfl)
  (fun w0 hG => lall_of (lall_cut (b := loopAt Tryz.f24 0) (ref01CmpL0K w0 hG) (by kernel_rfl) (lall_nil)) (by kernel_rfl : loopsOf (bodyOf Tryz.f24) = _)) (fun p => Eq.trans (b := ref01CmpB p.1 p.2) (by kernel_rfl) (ref01Cmp_eq p.1 p.2).symm)
def ref04IFoldE : Entry := mkE [.int .i64, .u256, .u256] [.u256] fun p => ref04IFold p.1 p.2.1 p.2.2
def ref04IFoldL0Y : Lay := ⟨[(false, 4, .ptr 1004 []), (false, 5, .ptr 1005 []), (false, 6, .ptr 1006 []), (false, 7, .ptr 1007 []), (false, 8, .ptr 1008 []), (false, 9, .ptr 1009 [])], [(true, 1004, .u256), (true, 1005, .u256), (true, 1006, .u256), (true, 1007, .u256), (true, 1008, .u256), (true, 1009, .u256)], [⟨[(1004, 1004), (1005, 1005), (1006, 1006), (1007, 1007), (1008, 1008), (1009, 1009)], []⟩]⟩
def ref04IFoldL0Z : List (Ex × Lay) := [(.exit 0, ⟨[(false, 5, .ptr 1005 []), (false, 6, .ptr 1006 []), (false, 8, .ptr 1008 [])], [(true, 1005, .u256), (true, 1006, .u256), (true, 1008, .u256)], [⟨[(1005, 1005), (1006, 1006), (1008, 1008)], []⟩]⟩)]
def ref04IFoldL0E : LEntry := mkL ref04IFoldL0Y ref04IFoldL0Z fun p => ref04IFoldL0 p.1 p.2.1 p.2.2.1 p.2.2.2.1 p.2.2.2.2.1 p.2.2.2.2.2
def ref04IFoldL1Y : Lay := ⟨[(false, 5, .ptr 1005 []), (false, 6, .ptr 1006 []), (false, 8, .ptr 1008 [])], [(true, 1005, .u256), (true, 1006, .u256), (true, 1008, .u256)], [⟨[(1005, 1005), (1006, 1006), (1008, 1008)], []⟩]⟩
def ref04IFoldL1Z : List (Ex × Lay) := [(.exit 2, ⟨[(false, 5, .ptr 1005 []), (false, 6, .ptr 1006 [])], [(true, 1005, .u256), (true, 1006, .u256)], [⟨[(1005, 1005), (1006, 1006)], []⟩]⟩)]
def ref04IFoldL1E : LEntry := mkL ref04IFoldL1Y ref04IFoldL1Z fun p => ref04IFoldL1 p.1 p.2.1 p.2.2
def ref04IFoldX : Cx := mkCx Tryz.prog 64 globsF [(24, ref01CmpE), (30, ref01SubE), (78, ref04IModulusE), (114, ref01FromE), (122, ref01MulE), (123, ref01AddE)] [(4, ref04IFoldL0E), (10, ref04IFoldL1E)] []
theorem ref04IFoldC : CxOk ref04IFoldX (Glob globsF) := cx_ok (by kernel_rfl) (by kernel_rfl) ⟨ref01CmpK, ref01SubK, ref04IModulusK, ref01FromK, ref01MulK, ref01AddK, trivial⟩
theorem ref04IFoldL0K (w0 : Ini) (hG : Glob globsF w0) : LoopOk ref04IFoldX w0 (loopAt Tryz.f101 0) ref04IFoldL0E :=
 loop_okH ref04IFoldC hG (loopAt Tryz.f101 0) (lall_of lall_nil (by kernel_rfl : loopsOf (loopAt Tryz.f101 0) = _))
  ref04IFoldL0Y ref04IFoldL0Z (by kernel_rfl) (fun p => ref04IFoldL0R p.1 p.2.1 p.2.2.1 p.2.2.2.1 p.2.2.2.2.1 p.2.2.2.2.2) (fun p => 1000) (fun p => by kernel_rfl) _ (fun p => ref04IFoldL0_eq p.1 p.2.1 p.2.2.1 p.2.2.2.1 p.2.2.2.2.1 p.2.2.2.2.2)
theorem ref04IFoldL1K (w0 : Ini) (hG : Glob globsF w0) : LoopOk ref04IFoldX w0 (loopAt Tryz.f101 1) ref04IFoldL1E :=
 loop_okH ref04IFoldC hG (loopAt Tryz.f101 1) (lall_of lall_nil (by kernel_rfl : loopsOf (loopAt Tryz.f101 1) = _))
  ref04IFoldL1Y ref04IFoldL1Z (by kernel_rfl) (fun p => ref04IFoldL1R p.1 p.2.1 p.2.2) (fun p => 1000) (fun p => by kernel_rfl) _ (fun p => ref04IFoldL1_eq p.1 p.2.1 p.2.2)
theorem ref04IFoldK : CallOk Tryz.prog (Glob globsF) 101 ref04IFoldE :=
 fun_ok (cx := ref04IFoldX) ref04IFoldC (fn := Tryz.f101) Tryz.func101 (by kernel_rfl) Tryz.ntmps101 Tryz.call101 _ _ _ (by kernel_rfl) (by kernel_rfl) (by kernel_rfl)
  (fun w0 hG => lall_of (lall_cut (b := loopAt Tryz.f101 0) (ref04IFoldL0K w0 hG) (by kernel_rfl) (lall_cut (b := loopAt Tryz.f101 1) (ref04IFoldL1K w0 hG) (by kernel_rfl) (lall_nil))) (by kernel_rfl : loopsOf (bodyOf Tryz.f101) = _)) (fun p => Eq.trans (b := ref04IFoldB p.1 p.2.1 p.2.2) (by kernel_rfl) (ref04IFold_eq p.1 p.2.1 p.2.2).symm)
def ref04IPlusE : Entry := mkE [.int .i64, .u256, .u256] [.u256] fun p => ref04IPlus p.1 p.2.1 p.2.2
def ref04IPlusX : Cx := mkCx Tryz.prog 20 globsF [(101, ref04IFoldE), (114, ref01FromE), (123, ref01AddE)] [] []
theorem ref04IPlusC : CxOk ref04IPlusX (Glob globsF) := cx_ok (by kernel_rfl) (by kernel_rfl) ⟨ref04IFoldK, ref01FromK, ref01AddK, trivial⟩
theorem ref04IPlusK : CallOk Tryz.prog (Glob globsF) 112 ref04IPlusE :=
 fun_ok (cx := ref04IPlusX) ref04IPlusC (fn := Tryz.f112) Tryz.func112 (by kernel_rfl) Tryz.ntmps112 Tryz.call112 _ _ _ (by kernel_rfl) (by kernel_rfl) (by kernel_rfl)
  (fun w0 hG => lall_of lall_nil (by kernel_rfl : loopsOf (bodyOf Tryz.f112) = _)) (fun p => Eq.trans (b := ref04IPlusB p.1 p.2.1 p.2.2) (by kernel_rfl) (ref04IPlus_eq p.1 p.2.1 p.2.2).symm)
def ref04AddE : Entry := mkE [.int .i64, .u256, .u256] [.u256, .int .i64] fun p => ref04Add p.1 p.2.1 p.2.2
def ref04AddX : Cx := mkCx Tryz.prog 18 globsF [(77, ref04IGoodE), (112, ref04IPlusE)] [] []
theorem ref04AddC : CxOk ref04AddX (Glob globsF) := cx_ok (by kernel_rfl) (by kernel_rfl) ⟨ref04IGoodK, ref04IPlusK, trivial⟩
theorem ref04AddK : CallOk Tryz.prog (Glob globsF) 86 ref04AddE :=
 fun_ok (cx := ref04AddX) ref04AddC (fn := Tryz.f86) Tryz.func86 (by kernel_rfl) Tryz.ntmps86 Tryz.call86 _ _ _ (by kernel_rfl) (by kernel_rfl) (by kernel_rfl)
  (fun w0 hG => lall_of lall_nil (by kernel_rfl : loopsOf (bodyOf Tryz.f86) = _)) (fun p => Eq.trans (b := ref04AddB p.1 p.2.1 p.2.2) (by kernel_rfl) (ref04Add_eq p.1 p.2.1 p.2.2).symm)
def ref04IBelowE : Entry := mkE [.int .i64, .u256] [.u256] fun p => ref04IBelow p.1 p.2
def ref04IBelowX : Cx := mkCx Tryz.prog 9 globsF [(101, ref04IFoldE)] [] []
theorem ref04IBelowC : CxOk ref04IBelowX (Glob globsF) := cx_ok (by kernel_rfl) (by kernel_rfl) ⟨ref04IFoldK, trivial⟩
theorem ref04IBelowK : CallOk Tryz.prog (Glob globsF) 113 ref04IBelowE :=
 fun_ok (cx := ref04IBelowX) ref04IBelowC (fn := Tryz.f113) Tryz.func113 (by kernel_rfl) Tryz.ntmps113 Tryz.call113 _ _ _ (by kernel_rfl) (by kernel_rfl) (by kernel_rfl)
  (fun w0 hG => lall_of lall_nil (by kernel_rfl : loopsOf (bodyOf Tryz.f113) = _)) (fun p => Eq.trans (b := ref04IBelowB p.1 p.2) (by kernel_rfl) (ref04IBelow_eq p.1 p.2).symm)
def ref04ILessE : Entry := mkE [.int .i64, .u256] [.u256] fun p => ref04ILess p.1 p.2
def ref04ILessX : Cx := mkCx Tryz.prog 19 globsF [(30, ref01SubE), (78, ref04IModulusE), (113, ref04IBelowE)] [] []
theorem ref04ILessC : CxOk ref04ILessX (Glob globsF) := cx_ok (by kernel_rfl) (by kernel_rfl) ⟨ref01SubK, ref04IModulusK, ref04IBelowK, trivial⟩
theorem ref04ILessK : CallOk Tryz.prog (Glob globsF) 141 ref04ILessE :=
 fun_ok (cx := ref04ILessX) ref04ILessC (fn := Tryz.f141) Tryz.func141 (by kernel_rfl) Tryz.ntmps141 Tryz.call141 _ _ _ (by kernel_rfl) (by kernel_rfl) (by kernel_rfl)
  (fun w0 hG => lall_of lall_nil (by kernel_rfl : loopsOf (bodyOf Tryz.f141) = _)) (fun p => Eq.trans (b := ref04ILessB p.1 p.2) (by kernel_rfl) (ref04ILess_eq p.1 p.2).symm)
def ref04SubE : Entry := mkE [.int .i64, .u256, .u256] [.u256, .int .i64] fun p => ref04Sub p.1 p.2.1 p.2.2
def ref04SubX : Cx := mkCx Tryz.prog 20 globsF [(77, ref04IGoodE), (112, ref04IPlusE), (141, ref04ILessE)] [] []
theorem ref04SubC : CxOk ref04SubX (Glob globsF) := cx_ok (by kernel_rfl) (by kernel_rfl) ⟨ref04IGoodK, ref04IPlusK, ref04ILessK, trivial⟩
theorem ref04SubK : CallOk Tryz.prog (Glob globsF) 136 ref04SubE :=
 fun_ok (cx := ref04SubX) ref04SubC (fn := Tryz.f136) Tryz.func136 (by kernel_rfl) Tryz.ntmps136 Tryz.call136 _ _ _ (by kernel_rfl) (by kernel_rfl) (by kernel_rfl)
  (fun w0 hG => lall_of lall_nil (by kernel_rfl : loopsOf (bodyOf Tryz.f136) = _)) (fun p => Eq.trans (b := ref04SubB p.1 p.2.1 p.2.2) (by kernel_rfl) (ref04Sub_eq p.1 p.2.1 p.2.2).symm)
def ref04ITimesE : Entry := mkE [.int .i64, .u256, .u256] [.u256] fun p => ref04ITimes p.1 p.2.1 p.2.2
def ref04ITimesX : Cx := mkCx Tryz.prog 19 globsF [(101, ref04IFoldE), (122, ref01MulE)] [] []
theorem ref04ITimesC : CxOk ref04ITimesX (Glob globsF) := cx_ok (by kernel_rfl) (by kernel_rfl) ⟨ref04IFoldK, ref01MulK, trivial⟩
theorem ref04ITimesK : CallOk Tryz.prog (Glob globsF) 111 ref04ITimesE :=
 fun_ok (cx := ref04ITimesX) ref04ITimesC (fn := Tryz.f111) Tryz.func111 (by kernel_rfl) Tryz.ntmps111 Tryz.call111 _ _ _ (by kernel_rfl) (by kernel_rfl) (by kernel_rfl)
  (fun w0 hG => lall_of lall_nil (by kernel_rfl : loopsOf (bodyOf Tryz.f111) = _)) (fun p => Eq.trans (b := ref04ITimesB p.1 p.2.1 p.2.2) (by kernel_rfl) (ref04ITimes_eq p.1 p.2.1 p.2.2).symm)
def ref04MulE : Entry := mkE [.int .i64, .u256, .u256] [.u256, .int .i64] fun p => ref04Mul p.1 p.2.1 p.2.2
def ref04MulX : Cx := mkCx Tryz.prog 18 globsF [(77, ref04IGoodE), (111, ref04ITimesE)] [] []
theorem ref04MulC : CxOk ref04MulX (Glob globsF) := cx_ok (by kernel_rfl) (by kernel_rfl) ⟨ref04IGoodK, ref04ITimesK, trivial⟩
theorem ref04MulK : CallOk Tryz.prog (Glob globsF) 85 ref04MulE :=
 fun_ok (cx := ref04MulX) ref04MulC (fn := Tryz.f85) Tryz.func85 (by kernel_rfl) Tryz.ntmps85 Tryz.call85 _ _ _ (by kernel_rfl) (by kernel_rfl) (by kernel_rfl)
  (fun w0 hG => lall_of lall_nil (by kernel_rfl : loopsOf (bodyOf Tryz.f85) = _)) (fun p => Eq.trans (b := ref04MulB p.1 p.2.1 p.2.2) (by kernel_rfl) (ref04Mul_eq p.1 p.2.1 p.2.2).symm)
def ref01BitE : Entry := mkE [.u256, .int .i64] [.int .i64] fun p => ref01Bit p.1 p.2
def ref01BitX : Cx := mkCx Tryz.prog 21 globsF [] [] []
theorem ref01BitC : CxOk ref01BitX (Glob globsF) := cx_ok (by kernel_rfl) (by kernel_rfl) trivial
theorem ref01BitK : CallOk Tryz.prog (Glob globsF) 109 ref01BitE :=
 fun_ok (cx := ref01BitX) ref01BitC (fn := Tryz.f109) Tryz.func109 (by kernel_rfl) Tryz.ntmps109 Tryz.call109 _ _ _ (by kernel_rfl) (by kernel_rfl) (by kernel_rfl)
  (fun w0 hG => lall_of lall_nil (by kernel_rfl : loopsOf (bodyOf Tryz.f109) = _)) (fun p => Eq.trans (b := ref01BitB p.1 p.2) (by kernel_rfl) (ref01Bit_eq p.1 p.2).symm)
def ref01LenE : Entry := mkE [.u256] [.int .i64] fun p => ref01Len p
def ref01LenL0Y : Lay := ⟨[(false, 1, .ptr 1001 [])], [(false, 3, .int .i64), (true, 1001, .u256)], [⟨[(1001, 1001)], []⟩]⟩
def ref01LenL0Z : List (Ex × Lay) := [(.ret, ⟨[], [(false, 2, .int .i64)], [⟨[], []⟩]⟩), (.exit 0, ⟨[], [], [⟨[], []⟩]⟩)]
def ref01LenL0E : LEntry := mkL ref01LenL0Y ref01LenL0Z fun p => ref01LenL0 p.1 p.2
def ref01LenX : Cx := mkCx Tryz.prog 14 globsF [(109, ref01BitE)] [(2, ref01LenL0E)] []
theorem ref01LenC : CxOk ref01LenX (Glob globsF) := cx_ok (by kernel_rfl) (by kernel_rfl) ⟨ref01BitK, trivial⟩
theorem ref01LenL0K (w0 : Ini) (hG : Glob globsF w0) : LoopOk ref01LenX w0 (loopAt Tryz.f130 0) ref01LenL0E :=
 loop_okH ref01LenC hG (loopAt Tryz.f130 0) (lall_of lall_nil (by kernel_rfl : loopsOf (loopAt Tryz.f130 0) = _))
  ref01LenL0Y ref01LenL0Z (by kernel_rfl) (fun p => ref01LenL0R p.1 p.2) (fun p => 1000) (fun p => by kernel_rfl) _ (fun p => ref01LenL0_eq p.1 p.2)
theorem ref01LenK : CallOk Tryz.prog (Glob globsF) 130 ref01LenE :=
 fun_ok (cx := ref01LenX) ref01LenC (fn := Tryz.f130) Tryz.func130 (by kernel_rfl) Tryz.ntmps130 Tryz.call130 _ _ _ (by kernel_rfl) (by kernel_rfl) (by kernel_rfl)
  (fun w0 hG => lall_of (lall_cut (b := loopAt Tryz.f130 0) (ref01LenL0K w0 hG) (by kernel_rfl) (lall_nil)) (by kernel_rfl : loopsOf (bodyOf Tryz.f130) = _)) (fun p => Eq.trans (b := ref01LenB p) (by kernel_rfl) (ref01Len_eq p).symm)
def ref04IPowerE : Entry := mkE [.int .i64, .u256, .u256] [.u256] fun p => ref04IPower p.1 p.2.1 p.2.2
def ref04IPowerL0Y : Lay := ⟨[(false, 4, .ptr 1004 []), (false, 5, .ptr 1005 []), (false, 6, .ptr 1006 []), (false, 7, .ptr 1007 [])], [(false, 0, .int .i64), (false, 8, .int .i64), (true, 1004, .u256), (true, 1005, .u256), (true, 1006, .u256), (true, 1007, .u256)], [⟨[(1004, 1004), (1005, 1005), (1006, 1006), (1007, 1007)], []⟩]⟩
def ref04IPowerL0Z : List (Ex × Lay) := [(.exit 0, ⟨[(false, 6, .ptr 1006 []), (false, 7, .ptr 1007 [])], [(true, 1006, .u256), (true, 1007, .u256)], [⟨[(1006, 1006), (1007, 1007)], []⟩]⟩)]
def ref04IPowerL0E : LEntry := mkL ref04IPowerL0Y ref04IPowerL0Z fun p => ref04IPowerL0 p.1 p.2.1 p.2.2.1 p.2.2.2.1 p.2.2.2.2.1 p.2.2.2.2.2
def ref04IPowerX : Cx := mkCx Tryz.prog 30 globsF [(109, ref01BitE), (111, ref04ITimesE), (114, ref01FromE), (130, ref01LenE)] [(3, ref04IPowerL0E)] []
theorem ref04IPowerC : CxOk ref04IPowerX (Glob globsF) := cx_ok (by kernel_rfl) (by kernel_rfl) ⟨ref01BitK, ref04ITimesK, ref01FromK, ref01LenK, trivial⟩
theorem ref04IPowerL0K (w0 : Ini) (hG : Glob globsF w0) : LoopOk ref04IPowerX w0 (loopAt Tryz.f115 0) ref04IPowerL0E :=
 loop_okH ref04IPowerC hG (loopAt Tryz.f115 0) (lall_of lall_nil (by kernel_rfl : loopsOf (loopAt Tryz.f115 0) = _))
  ref04IPowerL0Y ref04IPowerL0Z (by kernel_rfl) (fun p => ref04IPowerL0R p.1 p.2.1 p.2.2.1 p.2.2.2.1 p.2.2.2.2.1 p.2.2.2.2.2) (fun p => 1000) (fun p => by kernel_rfl) _ (fun p => ref04IPowerL0_eq p.1 p.2.1 p.2.2.1 p.2.2.2.1 p.2.2.2.2.1 p.2.2.2.2.2)
theorem ref04IPowerK : CallOk Tryz.prog (Glob globsF) 115 ref04IPowerE :=
 fun_ok (cx := ref04IPowerX) ref04IPowerC (fn := Tryz.f115) Tryz.func115 (by kernel_rfl) Tryz.ntmps115 Tryz.call115 _ _ _ (by kernel_rfl) (by kernel_rfl) (by kernel_rfl)
  (fun w0 hG => lall_of (lall_cut (b := loopAt Tryz.f115 0) (ref04IPowerL0K w0 hG) (by kernel_rfl) (lall_nil)) (by kernel_rfl : loopsOf (bodyOf Tryz.f115) = _)) (fun p => Eq.trans (b := ref04IPowerB p.1 p.2.1 p.2.2) (by kernel_rfl) (ref04IPower_eq p.1 p.2.1 p.2.2).symm)
def ref04InverseE : Entry := mkE [.int .i64, .u256] [.u256, .int .i64] fun p => ref04Inverse p.1 p.2
def ref04InverseX : Cx := mkCx Tryz.prog 31 globsF [(30, ref01SubE), (77, ref04IGoodE), (78, ref04IModulusE), (113, ref04IBelowE), (114, ref01FromE), (115, ref04IPowerE)] [] []
theorem ref04InverseC : CxOk ref04InverseX (Glob globsF) := cx_ok (by kernel_rfl) (by kernel_rfl) ⟨ref01SubK, ref04IGoodK, ref04IModulusK, ref04IBelowK, ref01FromK, ref04IPowerK, trivial⟩
theorem ref04InverseK : CallOk Tryz.prog (Glob globsF) 87 ref04InverseE :=
 fun_ok (cx := ref04InverseX) ref04InverseC (fn := Tryz.f87) Tryz.func87 (by kernel_rfl) Tryz.ntmps87 Tryz.call87 _ _ _ (by kernel_rfl) (by kernel_rfl) (by kernel_rfl)
  (fun w0 hG => lall_of lall_nil (by kernel_rfl : loopsOf (bodyOf Tryz.f87) = _)) (fun p => Eq.trans (b := ref04InverseB p.1 p.2) (by kernel_rfl) (ref04Inverse_eq p.1 p.2).symm)
def ref04ReduceE : Entry := mkE [.int .i64, .u256, .u256] [.u256, .int .i64] fun p => ref04Reduce p.1 p.2.1 p.2.2
def ref04ReduceX : Cx := mkCx Tryz.prog 18 globsF [(77, ref04IGoodE), (101, ref04IFoldE)] [] []
theorem ref04ReduceC : CxOk ref04ReduceX (Glob globsF) := cx_ok (by kernel_rfl) (by kernel_rfl) ⟨ref04IGoodK, ref04IFoldK, trivial⟩
theorem ref04ReduceK : CallOk Tryz.prog (Glob globsF) 80 ref04ReduceE :=
 fun_ok (cx := ref04ReduceX) ref04ReduceC (fn := Tryz.f80) Tryz.func80 (by kernel_rfl) Tryz.ntmps80 Tryz.call80 _ _ _ (by kernel_rfl) (by kernel_rfl) (by kernel_rfl)
  (fun w0 hG => lall_of lall_nil (by kernel_rfl : loopsOf (bodyOf Tryz.f80) = _)) (fun p => Eq.trans (b := ref04ReduceB p.1 p.2.1 p.2.2) (by kernel_rfl) (ref04Reduce_eq p.1 p.2.1 p.2.2).symm)
def u256GetE : Entry := mkE [.isl false (.int .u8)] [.u256, .int .i64] fun p => u256Get p
def u256GetL0Y : Lay := ⟨[(false, 2, .ptr 1002 []), (false, 4, .ptr 1004 [])], [(false, 0, .isl false (.int .u8)), (false, 12, .int .i64), (false, 13, .int .i64), (true, 1002, .u256), (true, 1004, .u256)], [⟨[(1002, 1002), (1004, 1004)], []⟩]⟩
def u256GetL0Z : List (Ex × Lay) := [(.exit 0, ⟨[(false, 2, .ptr 1002 []), (false, 4, .ptr 1004 [])], [(true, 1002, .u256), (true, 1004, .u256)], [⟨[(1002, 1002), (1004, 1004)], []⟩]⟩)]
def u256GetL0E : LEntry := mkL u256GetL0Y u256GetL0Z fun p => u256GetL0 p.1 p.2.1 p.2.2.1 p.2.2.2.1 p.2.2.2.2
def u256GetX : Cx := mkCx Tryz.prog 38 globsF [] [(5, u256GetL0E)] []
theorem u256GetC : CxOk u256GetX (Glob globsF) := cx_ok (by kernel_rfl) (by kernel_rfl) trivial
theorem u256GetL0K (w0 : Ini) (hG : Glob globsF w0) : LoopOk u256GetX w0 (loopAt Tryz.f36 0) u256GetL0E :=
 loop_okH u256GetC hG (loopAt Tryz.f36 0) (lall_of lall_nil (by kernel_rfl : loopsOf (loopAt Tryz.f36 0) = _))
  u256GetL0Y u256GetL0Z (by kernel_rfl) (fun p => u256GetL0R p.1 p.2.1 p.2.2.1 p.2.2.2.1 p.2.2.2.2) (fun p => 1000) (fun p => by kernel_rfl) _ (fun p => u256GetL0_eq p.1 p.2.1 p.2.2.1 p.2.2.2.1 p.2.2.2.2)
theorem u256GetK : CallOk Tryz.prog (Glob globsF) 36 u256GetE :=
 fun_ok (cx := u256GetX) u256GetC (fn := Tryz.f36) Tryz.func36 (by kernel_rfl) Tryz.ntmps36 Tryz.call36 _ _ _ (by kernel_rfl) (by kernel_rfl) (by kernel_rfl)
  (fun w0 hG => lall_of (lall_cut (b := loopAt Tryz.f36 0) (u256GetL0K w0 hG) (by kernel_rfl) (lall_nil)) (by kernel_rfl : loopsOf (bodyOf Tryz.f36) = _)) (fun p => Eq.trans (b := u256GetB p) (by kernel_rfl) (u256Get_eq p).symm)
def u256PutE : Entry := mkE [.u256] [.arr (.int .u8) 32] fun p => u256Put p
def u256PutL0Y : Lay := ⟨[(false, 1, .ptr 1001 []), (false, 2, .ptr 1002 []), (false, 3, .ptr 1003 [])], [(false, 5, .int .i64), (true, 1001, .u256), (true, 1002, .arr (.int .u8) 32), (true, 1003, .arr (.int .u8) 32)], [⟨[(1001, 1001), (1002, 1002), (1003, 1003)], []⟩]⟩
def u256PutL0Z : List (Ex × Lay) := [(.exit 0, ⟨[(false, 2, .ptr 1002 []), (false, 3, .ptr 1003 [])], [(true, 1002, .arr (.int .u8) 32), (true, 1003, .arr (.int .u8) 32)], [⟨[(1002, 1002), (1003, 1003)], []⟩]⟩)]
def u256PutL0E : LEntry := mkL u256PutL0Y u256PutL0Z fun p => u256PutL0 p.1 p.2.1 p.2.2.1 p.2.2.2
def u256PutX : Cx := mkCx Tryz.prog 22 globsF [] [(3, u256PutL0E)] []
theorem u256PutC : CxOk u256PutX (Glob globsF) := cx_ok (by kernel_rfl) (by kernel_rfl) trivial
theorem u256PutL0K (w0 : Ini) (hG : Glob globsF w0) : LoopOk u256PutX w0 (loopAt Tryz.f33 0) u256PutL0E :=
 loop_okH u256PutC hG (loopAt Tryz.f33 0) (lall_of lall_nil (by kernel_rfl : loopsOf (loopAt Tryz.f33 0) = _))
  u256PutL0Y u256PutL0Z (by kernel_rfl) (fun p => u256PutL0R p.1 p.2.1 p.2.2.1 p.2.2.2) (fun p => 1000) (fun p => by kernel_rfl) _ (fun p => u256PutL0_eq p.1 p.2.1 p.2.2.1 p.2.2.2)
theorem u256PutK : CallOk Tryz.prog (Glob globsF) 33 u256PutE :=
 fun_ok (cx := u256PutX) u256PutC (fn := Tryz.f33) Tryz.func33 (by kernel_rfl) Tryz.ntmps33 Tryz.call33 _ _ _ (by kernel_rfl) (by kernel_rfl) (by kernel_rfl)
  (fun w0 hG => lall_of (lall_cut (b := loopAt Tryz.f33 0) (u256PutL0K w0 hG) (by kernel_rfl) (lall_nil)) (by kernel_rfl : loopsOf (bodyOf Tryz.f33) = _)) (fun p => Eq.trans (b := u256PutB p) (by kernel_rfl) (u256Put_eq p).symm)
def u256ShrE : Entry := mkE [.u256, .int .i64] [.u256] fun p => u256Shr p.1 p.2
def u256ShrL0Y : Lay := ⟨[(false, 2, .ptr 1002 []), (false, 4, .ptr 1004 []), (false, 5, .ptr 1005 [])], [(false, 1, .int .i64), (false, 6, .int .i64), (true, 1002, .u256), (true, 1004, .u256), (true, 1005, .u256)], [⟨[(1002, 1002), (1004, 1004), (1005, 1005)], []⟩]⟩
def u256ShrL0Z : List (Ex × Lay) := [(.exit 0, ⟨[(false, 4, .ptr 1004 []), (false, 5, .ptr 1005 [])], [(true, 1004, .u256), (true, 1005, .u256)], [⟨[(1004, 1004), (1005, 1005)], []⟩]⟩)]
def u256ShrL0E : LEntry := mkL u256ShrL0Y u256ShrL0Z fun p => u256ShrL0 p.1 p.2.1 p.2.2.1 p.2.2.2.1 p.2.2.2.2
def u256ShrX : Cx := mkCx Tryz.prog 65 globsF [] [(7, u256ShrL0E)] []
theorem u256ShrC : CxOk u256ShrX (Glob globsF) := cx_ok (by kernel_rfl) (by kernel_rfl) trivial
theorem u256ShrL0K (w0 : Ini) (hG : Glob globsF w0) : LoopOk u256ShrX w0 (loopAt Tryz.f45 0) u256ShrL0E :=
 loop_okH u256ShrC hG (loopAt Tryz.f45 0) (lall_of lall_nil (by kernel_rfl : loopsOf (loopAt Tryz.f45 0) = _))
  u256ShrL0Y u256ShrL0Z (by kernel_rfl) (fun p => u256ShrL0R p.1 p.2.1 p.2.2.1 p.2.2.2.1 p.2.2.2.2) (fun p => 1000) (fun p => by kernel_rfl) _ (fun p => u256ShrL0_eq p.1 p.2.1 p.2.2.1 p.2.2.2.1 p.2.2.2.2)
theorem u256ShrK : CallOk Tryz.prog (Glob globsF) 45 u256ShrE :=
 fun_ok (cx := u256ShrX) u256ShrC (fn := Tryz.f45) Tryz.func45 (by kernel_rfl) Tryz.ntmps45 Tryz.call45 _ _ _ (by kernel_rfl) (by kernel_rfl) (by kernel_rfl)
  (fun w0 hG => lall_of (lall_cut (b := loopAt Tryz.f45 0) (u256ShrL0K w0 hG) (by kernel_rfl) (lall_nil)) (by kernel_rfl : loopsOf (bodyOf Tryz.f45) = _)) (fun p => Eq.trans (b := u256ShrB p.1 p.2) (by kernel_rfl) (u256Shr_eq p.1 p.2).symm)
def ref01GetE : Entry := mkE [.isl false (.int .u8)] [.u256, .int .i64] fun p => ref01Get p
def ref01GetL0Y : Lay := ⟨[(false, 2, .ptr 1002 []), (false, 4, .ptr 1004 [])], [(false, 0, .isl false (.int .u8)), (false, 5, .int .i64), (true, 1002, .u256), (true, 1004, .u256)], [⟨[(1002, 1002), (1004, 1004)], []⟩]⟩
def ref01GetL0Z : List (Ex × Lay) := [(.exit 0, ⟨[(false, 2, .ptr 1002 []), (false, 4, .ptr 1004 [])], [(true, 1002, .u256), (true, 1004, .u256)], [⟨[(1002, 1002), (1004, 1004)], []⟩]⟩)]
def ref01GetL0E : LEntry := mkL ref01GetL0Y ref01GetL0Z fun p => ref01GetL0 p.1 p.2.1 p.2.2.1 p.2.2.2
def ref01GetX : Cx := mkCx Tryz.prog 41 globsF [] [(5, ref01GetL0E)] []
theorem ref01GetC : CxOk ref01GetX (Glob globsF) := cx_ok (by kernel_rfl) (by kernel_rfl) trivial
theorem ref01GetL0K (w0 : Ini) (hG : Glob globsF w0) : LoopOk ref01GetX w0 (loopAt Tryz.f51 0) ref01GetL0E :=
 loop_okH ref01GetC hG (loopAt Tryz.f51 0) (lall_of lall_nil (by kernel_rfl : loopsOf (loopAt Tryz.f51 0) = _))
  ref01GetL0Y ref01GetL0Z (by kernel_rfl) (fun p => ref01GetL0R p.1 p.2.1 p.2.2.1 p.2.2.2) (fun p => 1000) (fun p => by kernel_rfl) _ (fun p => ref01GetL0_eq p.1 p.2.1 p.2.2.1 p.2.2.2)
theorem ref01GetK : CallOk Tryz.prog (Glob globsF) 51 ref01GetE :=
 fun_ok (cx := ref01GetX) ref01GetC (fn := Tryz.f51) Tryz.func51 (by kernel_rfl) Tryz.ntmps51 Tryz.call51 _ _ _ (by kernel_rfl) (by kernel_rfl) (by kernel_rfl)
  (fun w0 hG => lall_of (lall_cut (b := loopAt Tryz.f51 0) (ref01GetL0K w0 hG) (by kernel_rfl) (lall_nil)) (by kernel_rfl : loopsOf (bodyOf Tryz.f51) = _)) (fun p => Eq.trans (b := ref01GetB p) (by kernel_rfl) (ref01Get_eq p).symm)
def ref01PutE : Entry := mkE [.u256] [.arr (.int .u8) 32] fun p => ref01Put p
def ref01PutL0Y : Lay := ⟨[(false, 1, .ptr 1001 []), (false, 2, .ptr 1002 []), (false, 3, .ptr 1003 [])], [(false, 4, .int .i64), (true, 1001, .u256), (true, 1002, .arr (.int .u8) 32), (true, 1003, .arr (.int .u8) 32)], [⟨[(1001, 1001), (1002, 1002), (1003, 1003)], []⟩]⟩
def ref01PutL0Z : List (Ex × Lay) := [(.exit 0, ⟨[(false, 2, .ptr 1002 []), (false, 3, .ptr 1003 [])], [(true, 1002, .arr (.int .u8) 32), (true, 1003, .arr (.int .u8) 32)], [⟨[(1002, 1002), (1003, 1003)], []⟩]⟩)]
def ref01PutL0E : LEntry := mkL ref01PutL0Y ref01PutL0Z fun p => ref01PutL0 p.1 p.2.1 p.2.2.1 p.2.2.2
def ref01PutX : Cx := mkCx Tryz.prog 23 globsF [] [(3, ref01PutL0E)] []
theorem ref01PutC : CxOk ref01PutX (Glob globsF) := cx_ok (by kernel_rfl) (by kernel_rfl) trivial
theorem ref01PutL0K (w0 : Ini) (hG : Glob globsF w0) : LoopOk ref01PutX w0 (loopAt Tryz.f79 0) ref01PutL0E :=
 loop_okH ref01PutC hG (loopAt Tryz.f79 0) (lall_of lall_nil (by kernel_rfl : loopsOf (loopAt Tryz.f79 0) = _))
  ref01PutL0Y ref01PutL0Z (by kernel_rfl) (fun p => ref01PutL0R p.1 p.2.1 p.2.2.1 p.2.2.2) (fun p => 1000) (fun p => by kernel_rfl) _ (fun p => ref01PutL0_eq p.1 p.2.1 p.2.2.1 p.2.2.2)
theorem ref01PutK : CallOk Tryz.prog (Glob globsF) 79 ref01PutE :=
 fun_ok (cx := ref01PutX) ref01PutC (fn := Tryz.f79) Tryz.func79 (by kernel_rfl) Tryz.ntmps79 Tryz.call79 _ _ _ (by kernel_rfl) (by kernel_rfl) (by kernel_rfl)
  (fun w0 hG => lall_of (lall_cut (b := loopAt Tryz.f79 0) (ref01PutL0K w0 hG) (by kernel_rfl) (lall_nil)) (by kernel_rfl : loopsOf (bodyOf Tryz.f79) = _)) (fun p => Eq.trans (b := ref01PutB p) (by kernel_rfl) (ref01Put_eq p).symm)
def ref01IWithE : Entry := mkE [.u256, .int .i64] [.u256] fun p => ref01IWith p.1 p.2
def ref01IWithX : Cx := mkCx Tryz.prog 18 globsF [] [] []
theorem ref01IWithC : CxOk ref01IWithX (Glob globsF) := cx_ok (by kernel_rfl) (by kernel_rfl) trivial
theorem ref01IWithK : CallOk Tryz.prog (Glob globsF) 116 ref01IWithE :=
 fun_ok (cx := ref01IWithX) ref01IWithC (fn := Tryz.f116) Tryz.func116 (by kernel_rfl) Tryz.ntmps116 Tryz.call116 _ _ _ (by kernel_rfl) (by kernel_rfl) (by kernel_rfl)
  (fun w0 hG => lall_of lall_nil (by kernel_rfl : loopsOf (bodyOf Tryz.f116) = _)) (fun p => Eq.trans (b := ref01IWithB p.1 p.2) (by kernel_rfl) (ref01IWith_eq p.1 p.2).symm)
def ref01ShlE : Entry := mkE [.u256, .int .i64] [.u256] fun p => ref01Shl p.1 p.2
def ref01ShlL0Y : Lay := ⟨[(false, 2, .ptr 1002 []), (false, 4, .ptr 1004 []), (false, 5, .ptr 1005 [])], [(false, 1, .int .i64), (false, 6, .int .i64), (true, 1002, .u256), (true, 1004, .u256), (true, 1005, .u256)], [⟨[(1002, 1002), (1004, 1004), (1005, 1005)], []⟩]⟩
def ref01ShlL0Z : List (Ex × Lay) := [(.exit 0, ⟨[(false, 4, .ptr 1004 []), (false, 5, .ptr 1005 [])], [(true, 1004, .u256), (true, 1005, .u256)], [⟨[(1004, 1004), (1005, 1005)], []⟩]⟩)]
def ref01ShlL0E : LEntry := mkL ref01ShlL0Y ref01ShlL0Z fun p => ref01ShlL0 p.1 p.2.1 p.2.2.1 p.2.2.2.1 p.2.2.2.2
def ref01ShlX : Cx := mkCx Tryz.prog 28 globsF [(109, ref01BitE), (116, ref01IWithE)] [(5, ref01ShlL0E)] []
theorem ref01ShlC : CxOk ref01ShlX (Glob globsF) := cx_ok (by kernel_rfl) (by kernel_rfl) ⟨ref01BitK, ref01IWithK, trivial⟩
theorem ref01ShlL0K (w0 : Ini) (hG : Glob globsF w0) : LoopOk ref01ShlX w0 (loopAt Tryz.f88 0) ref01ShlL0E :=
 loop_okH ref01ShlC hG (loopAt Tryz.f88 0) (lall_of lall_nil (by kernel_rfl : loopsOf (loopAt Tryz.f88 0) = _))
  ref01ShlL0Y ref01ShlL0Z (by kernel_rfl) (fun p => ref01ShlL0R p.1 p.2.1 p.2.2.1 p.2.2.2.1 p.2.2.2.2) (fun p => 1000) (fun p => by kernel_rfl) _ (fun p => ref01ShlL0_eq p.1 p.2.1 p.2.2.1 p.2.2.2.1 p.2.2.2.2)
theorem ref01ShlK : CallOk Tryz.prog (Glob globsF) 88 ref01ShlE :=
 fun_ok (cx := ref01ShlX) ref01ShlC (fn := Tryz.f88) Tryz.func88 (by kernel_rfl) Tryz.ntmps88 Tryz.call88 _ _ _ (by kernel_rfl) (by kernel_rfl) (by kernel_rfl)
  (fun w0 hG => lall_of (lall_cut (b := loopAt Tryz.f88 0) (ref01ShlL0K w0 hG) (by kernel_rfl) (lall_nil)) (by kernel_rfl : loopsOf (bodyOf Tryz.f88) = _)) (fun p => Eq.trans (b := ref01ShlB p.1 p.2) (by kernel_rfl) (ref01Shl_eq p.1 p.2).symm)
def ref01ShrE : Entry := mkE [.u256, .int .i64] [.u256] fun p => ref01Shr p.1 p.2
def ref01ShrX : Cx := mkCx Tryz.prog 16 globsF [(88, ref01ShlE)] [] []
theorem ref01ShrC : CxOk ref01ShrX (Glob globsF) := cx_ok (by kernel_rfl) (by kernel_rfl) ⟨ref01ShlK, trivial⟩
theorem ref01ShrK : CallOk Tryz.prog (Glob globsF) 57 ref01ShrE :=
 fun_ok (cx := ref01ShrX) ref01ShrC (fn := Tryz.f57) Tryz.func57 (by kernel_rfl) Tryz.ntmps57 Tryz.call57 _ _ _ (by kernel_rfl) (by kernel_rfl) (by kernel_rfl)
  (fun w0 hG => lall_of lall_nil (by kernel_rfl : loopsOf (bodyOf Tryz.f57) = _)) (fun p => Eq.trans (b := ref01ShrB p.1 p.2) (by kernel_rfl) (ref01Shr_eq p.1 p.2).symm)
def law06INumE : Entry := mkE [.int .i64] [.int .i64] fun p => law06INum p
def law06INumX : Cx := mkCx Tryz.prog 4 globsF [] [] []
theorem law06INumC : CxOk law06INumX (Glob globsF) := cx_ok (by kernel_rfl) (by kernel_rfl) trivial
theorem law06INumK : CallOk Tryz.prog (Glob globsF) 6 law06INumE :=
 fun_ok (cx := law06INumX) law06INumC (fn := Tryz.f6) Tryz.func6 (by kernel_rfl) Tryz.ntmps6 Tryz.call6 _ _ _ (by kernel_rfl) (by kernel_rfl) (by kernel_rfl)
  (fun w0 hG => lall_of lall_nil (by kernel_rfl : loopsOf (bodyOf Tryz.f6) = _)) (fun p => Eq.trans (b := law06INumB p) (by kernel_rfl) (law06INum_eq p).symm)
def ecdsaIOrderE : Entry := mkE [] [.u256] fun _ => ecdsaIOrder
def ecdsaIOrderX : Cx := mkCx Tryz.prog 8 globsF [(32, fieldModulusE)] [] []
theorem ecdsaIOrderC : CxOk ecdsaIOrderX (Glob globsF) := cx_ok (by kernel_rfl) (by kernel_rfl) ⟨fieldModulusK, trivial⟩
theorem ecdsaIOrderK : CallOk Tryz.prog (Glob globsF) 14 ecdsaIOrderE :=
 fun_ok (cx := ecdsaIOrderX) ecdsaIOrderC (fn := Tryz.f14) Tryz.func14 (by kernel_rfl) Tryz.ntmps14 Tryz.call14 _ _ _ (by kernel_rfl) (by kernel_rfl) (by kernel_rfl)
  (fun w0 hG => lall_of lall_nil (by kernel_rfl : loopsOf (bodyOf Tryz.f14) = _)) (fun p => Eq.trans (b := ecdsaIOrderB ) (by kernel_rfl) (ecdsaIOrder_eq ).symm)
def ecdsaIFitE : Entry := mkE [.u256] [.bool] fun p => ecdsaIFit p
def ecdsaIFitX : Cx := mkCx Tryz.prog 12 globsF [(13, u256CmpE), (14, ecdsaIOrderE)] [] []
theorem ecdsaIFitC : CxOk ecdsaIFitX (Glob globsF) := cx_ok (by kernel_rfl) (by kernel_rfl) ⟨u256CmpK, ecdsaIOrderK, trivial⟩
theorem ecdsaIFitK : CallOk Tryz.prog (Glob globsF) 7 ecdsaIFitE :=
 fun_ok (cx := ecdsaIFitX) ecdsaIFitC (fn := Tryz.f7) Tryz.func7 (by kernel_rfl) Tryz.ntmps7 Tryz.call7 _ _ _ (by kernel_rfl) (by kernel_rfl) (by kernel_rfl)
  (fun w0 hG => lall_of lall_nil (by kernel_rfl : loopsOf (bodyOf Tryz.f7) = _)) (fun p => Eq.trans (b := ecdsaIFitB p) (by kernel_rfl) (ecdsaIFit_eq p).symm)
def ecdsaILowE : Entry := mkE [.u256] [.bool] fun p => ecdsaILow p
def ecdsaILowX : Cx := mkCx Tryz.prog 8 globsF [(13, u256CmpE), (14, ecdsaIOrderE), (45, u256ShrE)] [] []
theorem ecdsaILowC : CxOk ecdsaILowX (Glob globsF) := cx_ok (by kernel_rfl) (by kernel_rfl) ⟨u256CmpK, ecdsaIOrderK, u256ShrK, trivial⟩
theorem ecdsaILowK : CallOk Tryz.prog (Glob globsF) 22 ecdsaILowE :=
 fun_ok (cx := ecdsaILowX) ecdsaILowC (fn := Tryz.f22) Tryz.func22 (by kernel_rfl) Tryz.ntmps22 Tryz.call22 _ _ _ (by kernel_rfl) (by kernel_rfl) (by kernel_rfl)
  (fun w0 hG => lall_of lall_nil (by kernel_rfl : loopsOf (bodyOf Tryz.f22) = _)) (fun p => Eq.trans (b := ecdsaILowB p) (by kernel_rfl) (ecdsaILow_eq p).symm)
def ref06IOrderE : Entry := mkE [] [.u256] fun _ => ref06IOrder
def ref06IOrderX : Cx := mkCx Tryz.prog 8 globsF [(47, ref04ModulusE)] [] []
theorem ref06IOrderC : CxOk ref06IOrderX (Glob globsF) := cx_ok (by kernel_rfl) (by kernel_rfl) ⟨ref04ModulusK, trivial⟩
theorem ref06IOrderK : CallOk Tryz.prog (Glob globsF) 25 ref06IOrderE :=
 fun_ok (cx := ref06IOrderX) ref06IOrderC (fn := Tryz.f25) Tryz.func25 (by kernel_rfl) Tryz.ntmps25 Tryz.call25 _ _ _ (by kernel_rfl) (by kernel_rfl) (by kernel_rfl)
  (fun w0 hG => lall_of lall_nil (by kernel_rfl : loopsOf (bodyOf Tryz.f25) = _)) (fun p => Eq.trans (b := ref06IOrderB ) (by kernel_rfl) (ref06IOrder_eq ).symm)
def ref06FitE : Entry := mkE [.u256] [.bool] fun p => ref06Fit p
def ref06FitX : Cx := mkCx Tryz.prog 12 globsF [(24, ref01CmpE), (25, ref06IOrderE)] [] []
theorem ref06FitC : CxOk ref06FitX (Glob globsF) := cx_ok (by kernel_rfl) (by kernel_rfl) ⟨ref01CmpK, ref06IOrderK, trivial⟩
theorem ref06FitK : CallOk Tryz.prog (Glob globsF) 10 ref06FitE :=
 fun_ok (cx := ref06FitX) ref06FitC (fn := Tryz.f10) Tryz.func10 (by kernel_rfl) Tryz.ntmps10 Tryz.call10 _ _ _ (by kernel_rfl) (by kernel_rfl) (by kernel_rfl)
  (fun w0 hG => lall_of lall_nil (by kernel_rfl : loopsOf (bodyOf Tryz.f10) = _)) (fun p => Eq.trans (b := ref06FitB p) (by kernel_rfl) (ref06Fit_eq p).symm)
def ref06LowE : Entry := mkE [.u256] [.bool] fun p => ref06Low p
def ref06LowX : Cx := mkCx Tryz.prog 10 globsF [(24, ref01CmpE), (25, ref06IOrderE), (57, ref01ShrE)] [] []
theorem ref06LowC : CxOk ref06LowX (Glob globsF) := cx_ok (by kernel_rfl) (by kernel_rfl) ⟨ref01CmpK, ref06IOrderK, ref01ShrK, trivial⟩
theorem ref06LowK : CallOk Tryz.prog (Glob globsF) 29 ref06LowE :=
 fun_ok (cx := ref06LowX) ref06LowC (fn := Tryz.f29) Tryz.func29 (by kernel_rfl) Tryz.ntmps29 Tryz.call29 _ _ _ (by kernel_rfl) (by kernel_rfl) (by kernel_rfl)
  (fun w0 hG => lall_of lall_nil (by kernel_rfl : loopsOf (bodyOf Tryz.f29) = _)) (fun p => Eq.trans (b := ref06LowB p) (by kernel_rfl) (ref06Low_eq p).symm)
end Go.Sy
