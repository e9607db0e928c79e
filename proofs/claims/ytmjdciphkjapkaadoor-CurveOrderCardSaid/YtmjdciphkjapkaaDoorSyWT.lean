/- The links: each typed function is what the code computes. Printed by a program. -/
import Derived.Test.YtmjdciphkjapkaaDoorSyVT
import Derived.Test.YtmjdciphkjapkaaDoorSyKf
import Derived.Test.YtmjdciphkjapkaaDoorProg
set_option linter.unusedVariables false
set_option maxRecDepth 100000
namespace Go.Sy
open Go Go.Proofs

def globsF : List (Nat × AV) := [(1, .arr .u2 2 fieldModuli)]

def globsG : List (Nat × AV) := [(0, .arr (.int .u64) 8 curveBase), (1, .arr .u2 2 fieldModuli)]

theorem globsFG : ∀ x ∈ globsF, x ∈ globsG := by intro x hx; rw [globsF, List.mem_singleton] at hx; subst hx; simp [globsG]

theorem bitsAdd64K : CallOk Tryd.prog (Glob globsF) 120 bitsAdd64E := bitsAdd64_ok (fn := Tryd.f120) Tryd.func120 (by kernel_rfl) (by kernel_rfl) (by kernel_rfl) (by kernel_rfl)
theorem bitsSub64K : CallOk Tryd.prog (Glob globsF) 122 bitsSub64E := bitsSub64_ok (fn := Tryd.f122) Tryd.func122 (by kernel_rfl) (by kernel_rfl) (by kernel_rfl) (by kernel_rfl)
noncomputable def fieldIOfE : Entry := mkE [.int .i64] [.st [.u256, .u256], .int .i64] fun p => fieldIOf p

noncomputable def fieldIOfX : Cx := mkCx Tryd.prog 14 globsF [] [] []
theorem fieldIOfC : CxOk fieldIOfX (Glob globsF) := cx_ok (by kernel_rfl) (by kernel_rfl) trivial
theorem fieldIOfK : CallOk Tryd.prog (Glob globsF) 123 fieldIOfE :=
  fun_ok (cx := fieldIOfX) fieldIOfC (fn := Tryd.f123) Tryd.func123 (by kernel_rfl) Tryd.ntmps123 Tryd.call123 _ _ _ (by kernel_rfl) (by kernel_rfl) (by kernel_rfl)
    (fun w0 hG => lall_of lall_nil (by kernel_rfl : loopsOf (bodyOf Tryd.f123) = _)) (fun p => Eq.trans (b := fieldIOfB p) (by kernel_rfl) (fieldIOf_eq p).symm)

noncomputable def fieldModulusE : Entry := mkE [.int .i64] [.u256, .int .i64] fun p => fieldModulus p

noncomputable def fieldModulusX : Cx := mkCx Tryd.prog 14 globsF [(123, fieldIOfE)] [] []
theorem fieldModulusC : CxOk fieldModulusX (Glob globsF) := cx_ok (by kernel_rfl) (by kernel_rfl) ⟨fieldIOfK, trivial⟩
theorem fieldModulusK : CallOk Tryd.prog (Glob globsF) 88 fieldModulusE :=
  fun_ok (cx := fieldModulusX) fieldModulusC (fn := Tryd.f88) Tryd.func88 (by kernel_rfl) Tryd.ntmps88 Tryd.call88 _ _ _ (by kernel_rfl) (by kernel_rfl) (by kernel_rfl)
    (fun w0 hG => lall_of lall_nil (by kernel_rfl : loopsOf (bodyOf Tryd.f88) = _)) (fun p => Eq.trans (b := fieldModulusB p) (by kernel_rfl) (fieldModulus_eq p).symm)

noncomputable def u256AddE : Entry := mkE [.u256, .u256] [.u256, .int .u64] fun p => u256Add p.1 p.2

noncomputable def u256AddX : Cx := mkCx Tryd.prog 28 globsF [(120, bitsAdd64E)] [] []
theorem u256AddC : CxOk u256AddX (Glob globsF) := cx_ok (by kernel_rfl) (by kernel_rfl) ⟨bitsAdd64K, trivial⟩
theorem u256AddK : CallOk Tryd.prog (Glob globsF) 85 u256AddE :=
  fun_ok (cx := u256AddX) u256AddC (fn := Tryd.f85) Tryd.func85 (by kernel_rfl) Tryd.ntmps85 Tryd.call85 _ _ _ (by kernel_rfl) (by kernel_rfl) (by kernel_rfl)
    (fun w0 hG => lall_of (lall_free (b := loopAt Tryd.f85 0) (by kernel_rfl) (lall_nil)) (by kernel_rfl : loopsOf (bodyOf Tryd.f85) = _)) (fun p => Eq.trans (b := u256AddB p.1 p.2) (by kernel_rfl) (u256Add_eq p.1 p.2).symm)

noncomputable def u256FromE : Entry := mkE [.int .u64] [.u256] fun p => u256From p

noncomputable def u256FromX : Cx := mkCx Tryd.prog 5 globsF [] [] []
theorem u256FromC : CxOk u256FromX (Glob globsF) := cx_ok (by kernel_rfl) (by kernel_rfl) trivial
theorem u256FromK : CallOk Tryd.prog (Glob globsF) 53 u256FromE :=
  fun_ok (cx := u256FromX) u256FromC (fn := Tryd.f53) Tryd.func53 (by kernel_rfl) Tryd.ntmps53 Tryd.call53 _ _ _ (by kernel_rfl) (by kernel_rfl) (by kernel_rfl)
    (fun w0 hG => lall_of lall_nil (by kernel_rfl : loopsOf (bodyOf Tryd.f53) = _)) (fun p => Eq.trans (b := u256FromB p) (by kernel_rfl) (u256From_eq p).symm)

noncomputable def bitsMul64E : Entry := mkE [.int .u64, .int .u64] [.int .u64, .int .u64] fun p => bitsMul64 p.1 p.2

noncomputable def bitsMul64X : Cx := mkCx Tryd.prog 51 globsF [] [] []
theorem bitsMul64C : CxOk bitsMul64X (Glob globsF) := cx_ok (by kernel_rfl) (by kernel_rfl) trivial
theorem bitsMul64K : CallOk Tryd.prog (Glob globsF) 141 bitsMul64E :=
  fun_ok (cx := bitsMul64X) bitsMul64C (fn := Tryd.f141) Tryd.func141 (by kernel_rfl) Tryd.ntmps141 Tryd.call141 _ _ _ (by kernel_rfl) (by kernel_rfl) (by kernel_rfl)
    (fun w0 hG => lall_of lall_nil (by kernel_rfl : loopsOf (bodyOf Tryd.f141) = _)) (fun p => Eq.trans (b := bitsMul64B p.1 p.2) (by kernel_rfl) (bitsMul64_eq p.1 p.2).symm)

noncomputable def u256MulE : Entry := mkE [.u256, .u256] [.u256, .u256] fun p => u256Mul p.1 p.2

def u256MulL1Y : Lay := ⟨[(false, 2, .ptr 1002 []), (false, 3, .ptr 1003 []), (false, 4, .ptr 1004 []), (false, 5, .ptr 1005 []), (false, 6, .ptr 1006 [])], [(false, 7, .int .i64), (false, 8, .int .u64), (false, 13, .int .i64), (false, 16, .int .i64), (true, 1002, .u256), (true, 1003, .u256), (true, 1004, .u256), (true, 1005, .u256), (true, 1006, .arr (.int .u64) 8)], [⟨[(1002, 1002), (1003, 1003), (1004, 1004), (1005, 1005), (1006, 1006)], []⟩]⟩
def u256MulL1Z : List (Ex × Lay) := [(.exit 2, ⟨[(false, 2, .ptr 1002 []), (false, 3, .ptr 1003 []), (false, 4, .ptr 1004 []), (false, 5, .ptr 1005 []), (false, 6, .ptr 1006 [])], [(false, 7, .int .i64), (false, 8, .int .u64), (false, 13, .int .i64), (true, 1002, .u256), (true, 1003, .u256), (true, 1004, .u256), (true, 1005, .u256), (true, 1006, .arr (.int .u64) 8)], [⟨[(1002, 1002), (1003, 1003), (1004, 1004), (1005, 1005), (1006, 1006)], []⟩]⟩)]
noncomputable def u256MulL1E : LEntry := mkL u256MulL1Y u256MulL1Z fun p => u256MulL1 p.1 p.2.1 p.2.2.1 p.2.2.2.1 p.2.2.2.2.1 p.2.2.2.2.2.1 p.2.2.2.2.2.2.1 p.2.2.2.2.2.2.2.1 p.2.2.2.2.2.2.2.2
def u256MulL0Y : Lay := ⟨[(false, 2, .ptr 1002 []), (false, 3, .ptr 1003 []), (false, 4, .ptr 1004 []), (false, 5, .ptr 1005 []), (false, 6, .ptr 1006 [])], [(false, 13, .int .i64), (true, 1002, .u256), (true, 1003, .u256), (true, 1004, .u256), (true, 1005, .u256), (true, 1006, .arr (.int .u64) 8)], [⟨[(1002, 1002), (1003, 1003), (1004, 1004), (1005, 1005), (1006, 1006)], []⟩]⟩
def u256MulL0Z : List (Ex × Lay) := [(.exit 0, ⟨[(false, 4, .ptr 1004 []), (false, 5, .ptr 1005 []), (false, 6, .ptr 1006 [])], [(true, 1004, .u256), (true, 1005, .u256), (true, 1006, .arr (.int .u64) 8)], [⟨[(1004, 1004), (1005, 1005), (1006, 1006)], []⟩]⟩)]
noncomputable def u256MulL0E : LEntry := mkL u256MulL0Y u256MulL0Z fun p => u256MulL0 p.1 p.2.1 p.2.2.1 p.2.2.2.1 p.2.2.2.2.1 p.2.2.2.2.2
noncomputable def u256MulX : Cx := mkCx Tryd.prog 70 globsF [(120, bitsAdd64E), (141, bitsMul64E)] [(7, u256MulL1E), (3, u256MulL0E)] []
theorem u256MulC : CxOk u256MulX (Glob globsF) := cx_ok (by kernel_rfl) (by kernel_rfl) ⟨bitsAdd64K, bitsMul64K, trivial⟩
theorem u256MulL1K (w0 : Ini) (hG : Glob globsF w0) : LoopOk u256MulX w0 (loopAt Tryd.f126 1) u256MulL1E :=
  loop_okH u256MulC hG (loopAt Tryd.f126 1) (lall_of lall_nil (by kernel_rfl : loopsOf (loopAt Tryd.f126 1) = _))
    u256MulL1Y u256MulL1Z (by kernel_rfl) (fun p => u256MulL1R p.1 p.2.1 p.2.2.1 p.2.2.2.1 p.2.2.2.2.1 p.2.2.2.2.2.1 p.2.2.2.2.2.2.1 p.2.2.2.2.2.2.2.1 p.2.2.2.2.2.2.2.2) (fun p => 1000) (fun p => by kernel_rfl) _ (fun p => u256MulL1_eq p.1 p.2.1 p.2.2.1 p.2.2.2.1 p.2.2.2.2.1 p.2.2.2.2.2.1 p.2.2.2.2.2.2.1 p.2.2.2.2.2.2.2.1 p.2.2.2.2.2.2.2.2)
theorem u256MulL0K (w0 : Ini) (hG : Glob globsF w0) : LoopOk u256MulX w0 (loopAt Tryd.f126 0) u256MulL0E :=
  loop_okH u256MulC hG (loopAt Tryd.f126 0) (lall_of (lall_cut (b := loopAt Tryd.f126 1) (u256MulL1K w0 hG) (by kernel_rfl) (lall_nil)) (by kernel_rfl : loopsOf (loopAt Tryd.f126 0) = _))
    u256MulL0Y u256MulL0Z (by kernel_rfl) (fun p => u256MulL0R p.1 p.2.1 p.2.2.1 p.2.2.2.1 p.2.2.2.2.1 p.2.2.2.2.2) (fun p => 1000) (fun p => by kernel_rfl) _ (fun p => u256MulL0_eq p.1 p.2.1 p.2.2.1 p.2.2.2.1 p.2.2.2.2.1 p.2.2.2.2.2)
theorem u256MulK : CallOk Tryd.prog (Glob globsF) 126 u256MulE :=
  fun_ok (cx := u256MulX) u256MulC (fn := Tryd.f126) Tryd.func126 (by kernel_rfl) Tryd.ntmps126 Tryd.call126 _ _ _ (by kernel_rfl) (by kernel_rfl) (by kernel_rfl)
    (fun w0 hG => lall_of (lall_cut (b := loopAt Tryd.f126 0) (u256MulL0K w0 hG) (by kernel_rfl) (lall_cut (b := loopAt Tryd.f126 1) (u256MulL1K w0 hG) (by kernel_rfl) (lall_nil))) (by kernel_rfl : loopsOf (bodyOf Tryd.f126) = _)) (fun p => Eq.trans (b := u256MulB p.1 p.2) (by kernel_rfl) (u256Mul_eq p.1 p.2).symm)

noncomputable def u256SubE : Entry := mkE [.u256, .u256] [.u256, .int .u64] fun p => u256Sub p.1 p.2

noncomputable def u256SubX : Cx := mkCx Tryd.prog 28 globsF [(122, bitsSub64E)] [] []
theorem u256SubC : CxOk u256SubX (Glob globsF) := cx_ok (by kernel_rfl) (by kernel_rfl) ⟨bitsSub64K, trivial⟩
theorem u256SubK : CallOk Tryd.prog (Glob globsF) 87 u256SubE :=
  fun_ok (cx := u256SubX) u256SubC (fn := Tryd.f87) Tryd.func87 (by kernel_rfl) Tryd.ntmps87 Tryd.call87 _ _ _ (by kernel_rfl) (by kernel_rfl) (by kernel_rfl)
    (fun w0 hG => lall_of (lall_free (b := loopAt Tryd.f87 0) (by kernel_rfl) (lall_nil)) (by kernel_rfl : loopsOf (bodyOf Tryd.f87) = _)) (fun p => Eq.trans (b := u256SubB p.1 p.2) (by kernel_rfl) (u256Sub_eq p.1 p.2).symm)

noncomputable def u256CmpE : Entry := mkE [.u256, .u256] [.int .i64] fun p => u256Cmp p.1 p.2

noncomputable def u256CmpX : Cx := mkCx Tryd.prog 18 globsF [(87, u256SubE)] [] []
theorem u256CmpC : CxOk u256CmpX (Glob globsF) := cx_ok (by kernel_rfl) (by kernel_rfl) ⟨u256SubK, trivial⟩
theorem u256CmpK : CallOk Tryd.prog (Glob globsF) 58 u256CmpE :=
  fun_ok (cx := u256CmpX) u256CmpC (fn := Tryd.f58) Tryd.func58 (by kernel_rfl) Tryd.ntmps58 Tryd.call58 _ _ _ (by kernel_rfl) (by kernel_rfl) (by kernel_rfl)
    (fun w0 hG => lall_of lall_nil (by kernel_rfl : loopsOf (bodyOf Tryd.f58) = _)) (fun p => Eq.trans (b := u256CmpB p.1 p.2) (by kernel_rfl) (u256Cmp_eq p.1 p.2).symm)

noncomputable def fieldModulusFoldE : Entry := mkE [.st [.u256, .u256], .u256, .u256] [.u256] fun p => fieldModulusFold p.1 p.2.1 p.2.2

def fieldModulusFoldL0Y : Lay := ⟨[(false, 3, .ptr 1003 []), (false, 4, .ptr 1004 []), (false, 5, .ptr 1005 []), (false, 6, .ptr 1006 [])], [(true, 1003, .st [.u256, .u256]), (true, 1004, .u256), (true, 1005, .u256), (true, 1006, .u256)], [⟨[(1003, 1003), (1004, 1004), (1005, 1005), (1006, 1006)], []⟩]⟩
def fieldModulusFoldL0Z : List (Ex × Lay) := [(.exit 0, ⟨[(false, 3, .ptr 1003 []), (false, 5, .ptr 1005 []), (false, 6, .ptr 1006 [])], [(true, 1003, .st [.u256, .u256]), (true, 1005, .u256), (true, 1006, .u256)], [⟨[(1003, 1003), (1005, 1005), (1006, 1006)], []⟩]⟩)]
noncomputable def fieldModulusFoldL0E : LEntry := mkL fieldModulusFoldL0Y fieldModulusFoldL0Z fun p => fieldModulusFoldL0 p.1 p.2.1 p.2.2.1 p.2.2.2
def fieldModulusFoldL1Y : Lay := ⟨[(false, 3, .ptr 1003 []), (false, 5, .ptr 1005 []), (false, 6, .ptr 1006 [])], [(true, 1003, .st [.u256, .u256]), (true, 1005, .u256), (true, 1006, .u256)], [⟨[(1003, 1003), (1005, 1005), (1006, 1006)], []⟩]⟩
def fieldModulusFoldL1Z : List (Ex × Lay) := [(.exit 2, ⟨[(false, 5, .ptr 1005 []), (false, 6, .ptr 1006 [])], [(true, 1005, .u256), (true, 1006, .u256)], [⟨[(1005, 1005), (1006, 1006)], []⟩]⟩)]
noncomputable def fieldModulusFoldL1E : LEntry := mkL fieldModulusFoldL1Y fieldModulusFoldL1Z fun p => fieldModulusFoldL1 p.1 p.2.1 p.2.2
noncomputable def fieldModulusFoldX : Cx := mkCx Tryd.prog 46 globsF [(53, u256FromE), (58, u256CmpE), (85, u256AddE), (87, u256SubE), (126, u256MulE)] [(1, fieldModulusFoldL0E), (6, fieldModulusFoldL1E)] []
theorem fieldModulusFoldC : CxOk fieldModulusFoldX (Glob globsF) := cx_ok (by kernel_rfl) (by kernel_rfl) ⟨u256FromK, u256CmpK, u256AddK, u256SubK, u256MulK, trivial⟩
theorem fieldModulusFoldL0K (w0 : Ini) (hG : Glob globsF w0) : LoopOk fieldModulusFoldX w0 (loopAt Tryd.f125 0) fieldModulusFoldL0E :=
  loop_okH fieldModulusFoldC hG (loopAt Tryd.f125 0) (lall_of lall_nil (by kernel_rfl : loopsOf (loopAt Tryd.f125 0) = _))
    fieldModulusFoldL0Y fieldModulusFoldL0Z (by kernel_rfl) (fun p => fieldModulusFoldL0R p.1 p.2.1 p.2.2.1 p.2.2.2) (fun p => 1000) (fun p => by kernel_rfl) _ (fun p => fieldModulusFoldL0_eq p.1 p.2.1 p.2.2.1 p.2.2.2)
theorem fieldModulusFoldL1K (w0 : Ini) (hG : Glob globsF w0) : LoopOk fieldModulusFoldX w0 (loopAt Tryd.f125 1) fieldModulusFoldL1E :=
  loop_okH fieldModulusFoldC hG (loopAt Tryd.f125 1) (lall_of lall_nil (by kernel_rfl : loopsOf (loopAt Tryd.f125 1) = _))
    fieldModulusFoldL1Y fieldModulusFoldL1Z (by kernel_rfl) (fun p => fieldModulusFoldL1R p.1 p.2.1 p.2.2) (fun p => 1000) (fun p => by kernel_rfl) _ (fun p => fieldModulusFoldL1_eq p.1 p.2.1 p.2.2)
theorem fieldModulusFoldK : CallOk Tryd.prog (Glob globsF) 125 fieldModulusFoldE :=
  fun_ok (cx := fieldModulusFoldX) fieldModulusFoldC (fn := Tryd.f125) Tryd.func125 (by kernel_rfl) Tryd.ntmps125 Tryd.call125 _ _ _ (by kernel_rfl) (by kernel_rfl) (by kernel_rfl)
    (fun w0 hG => lall_of (lall_cut (b := loopAt Tryd.f125 0) (fieldModulusFoldL0K w0 hG) (by kernel_rfl) (lall_cut (b := loopAt Tryd.f125 1) (fieldModulusFoldL1K w0 hG) (by kernel_rfl) (lall_nil))) (by kernel_rfl : loopsOf (bodyOf Tryd.f125) = _)) (fun p => Eq.trans (b := fieldModulusFoldB p.1 p.2.1 p.2.2) (by kernel_rfl) (fieldModulusFold_eq p.1 p.2.1 p.2.2).symm)

noncomputable def fieldModulusAddE : Entry := mkE [.st [.u256, .u256], .u256, .u256] [.u256] fun p => fieldModulusAdd p.1 p.2.1 p.2.2

noncomputable def fieldModulusAddX : Cx := mkCx Tryd.prog 20 globsF [(53, u256FromE), (85, u256AddE), (125, fieldModulusFoldE)] [] []
theorem fieldModulusAddC : CxOk fieldModulusAddX (Glob globsF) := cx_ok (by kernel_rfl) (by kernel_rfl) ⟨u256FromK, u256AddK, fieldModulusFoldK, trivial⟩
theorem fieldModulusAddK : CallOk Tryd.prog (Glob globsF) 129 fieldModulusAddE :=
  fun_ok (cx := fieldModulusAddX) fieldModulusAddC (fn := Tryd.f129) Tryd.func129 (by kernel_rfl) Tryd.ntmps129 Tryd.call129 _ _ _ (by kernel_rfl) (by kernel_rfl) (by kernel_rfl)
    (fun w0 hG => lall_of lall_nil (by kernel_rfl : loopsOf (bodyOf Tryd.f129) = _)) (fun p => Eq.trans (b := fieldModulusAddB p.1 p.2.1 p.2.2) (by kernel_rfl) (fieldModulusAdd_eq p.1 p.2.1 p.2.2).symm)

noncomputable def fieldAddE : Entry := mkE [.int .i64, .u256, .u256] [.u256, .int .i64] fun p => fieldAdd p.1 p.2.1 p.2.2

noncomputable def fieldAddX : Cx := mkCx Tryd.prog 23 globsF [(123, fieldIOfE), (129, fieldModulusAddE)] [] []
theorem fieldAddC : CxOk fieldAddX (Glob globsF) := cx_ok (by kernel_rfl) (by kernel_rfl) ⟨fieldIOfK, fieldModulusAddK, trivial⟩
theorem fieldAddK : CallOk Tryd.prog (Glob globsF) 127 fieldAddE :=
  fun_ok (cx := fieldAddX) fieldAddC (fn := Tryd.f127) Tryd.func127 (by kernel_rfl) Tryd.ntmps127 Tryd.call127 _ _ _ (by kernel_rfl) (by kernel_rfl) (by kernel_rfl)
    (fun w0 hG => lall_of lall_nil (by kernel_rfl : loopsOf (bodyOf Tryd.f127) = _)) (fun p => Eq.trans (b := fieldAddB p.1 p.2.1 p.2.2) (by kernel_rfl) (fieldAdd_eq p.1 p.2.1 p.2.2).symm)

noncomputable def fieldModulusOneE : Entry := mkE [.st [.u256, .u256], .u256] [.u256] fun p => fieldModulusOne p.1 p.2

noncomputable def fieldModulusOneX : Cx := mkCx Tryd.prog 9 globsF [(125, fieldModulusFoldE)] [] []
theorem fieldModulusOneC : CxOk fieldModulusOneX (Glob globsF) := cx_ok (by kernel_rfl) (by kernel_rfl) ⟨fieldModulusFoldK, trivial⟩
theorem fieldModulusOneK : CallOk Tryd.prog (Glob globsF) 91 fieldModulusOneE :=
  fun_ok (cx := fieldModulusOneX) fieldModulusOneC (fn := Tryd.f91) Tryd.func91 (by kernel_rfl) Tryd.ntmps91 Tryd.call91 _ _ _ (by kernel_rfl) (by kernel_rfl) (by kernel_rfl)
    (fun w0 hG => lall_of lall_nil (by kernel_rfl : loopsOf (bodyOf Tryd.f91) = _)) (fun p => Eq.trans (b := fieldModulusOneB p.1 p.2) (by kernel_rfl) (fieldModulusOne_eq p.1 p.2).symm)

noncomputable def fieldModulusNegE : Entry := mkE [.st [.u256, .u256], .u256] [.u256] fun p => fieldModulusNeg p.1 p.2

noncomputable def fieldModulusNegX : Cx := mkCx Tryd.prog 19 globsF [(87, u256SubE), (91, fieldModulusOneE)] [] []
theorem fieldModulusNegC : CxOk fieldModulusNegX (Glob globsF) := cx_ok (by kernel_rfl) (by kernel_rfl) ⟨u256SubK, fieldModulusOneK, trivial⟩
theorem fieldModulusNegK : CallOk Tryd.prog (Glob globsF) 92 fieldModulusNegE :=
  fun_ok (cx := fieldModulusNegX) fieldModulusNegC (fn := Tryd.f92) Tryd.func92 (by kernel_rfl) Tryd.ntmps92 Tryd.call92 _ _ _ (by kernel_rfl) (by kernel_rfl) (by kernel_rfl)
    (fun w0 hG => lall_of lall_nil (by kernel_rfl : loopsOf (bodyOf Tryd.f92) = _)) (fun p => Eq.trans (b := fieldModulusNegB p.1 p.2) (by kernel_rfl) (fieldModulusNeg_eq p.1 p.2).symm)

noncomputable def fieldSubE : Entry := mkE [.int .i64, .u256, .u256] [.u256, .int .i64] fun p => fieldSub p.1 p.2.1 p.2.2

noncomputable def fieldSubX : Cx := mkCx Tryd.prog 25 globsF [(92, fieldModulusNegE), (123, fieldIOfE), (129, fieldModulusAddE)] [] []
theorem fieldSubC : CxOk fieldSubX (Glob globsF) := cx_ok (by kernel_rfl) (by kernel_rfl) ⟨fieldModulusNegK, fieldIOfK, fieldModulusAddK, trivial⟩
theorem fieldSubK : CallOk Tryd.prog (Glob globsF) 95 fieldSubE :=
  fun_ok (cx := fieldSubX) fieldSubC (fn := Tryd.f95) Tryd.func95 (by kernel_rfl) Tryd.ntmps95 Tryd.call95 _ _ _ (by kernel_rfl) (by kernel_rfl) (by kernel_rfl)
    (fun w0 hG => lall_of lall_nil (by kernel_rfl : loopsOf (bodyOf Tryd.f95) = _)) (fun p => Eq.trans (b := fieldSubB p.1 p.2.1 p.2.2) (by kernel_rfl) (fieldSub_eq p.1 p.2.1 p.2.2).symm)

noncomputable def fieldModulusMulE : Entry := mkE [.st [.u256, .u256], .u256, .u256] [.u256] fun p => fieldModulusMul p.1 p.2.1 p.2.2

noncomputable def fieldModulusMulX : Cx := mkCx Tryd.prog 14 globsF [(125, fieldModulusFoldE), (126, u256MulE)] [] []
theorem fieldModulusMulC : CxOk fieldModulusMulX (Glob globsF) := cx_ok (by kernel_rfl) (by kernel_rfl) ⟨fieldModulusFoldK, u256MulK, trivial⟩
theorem fieldModulusMulK : CallOk Tryd.prog (Glob globsF) 90 fieldModulusMulE :=
  fun_ok (cx := fieldModulusMulX) fieldModulusMulC (fn := Tryd.f90) Tryd.func90 (by kernel_rfl) Tryd.ntmps90 Tryd.call90 _ _ _ (by kernel_rfl) (by kernel_rfl) (by kernel_rfl)
    (fun w0 hG => lall_of lall_nil (by kernel_rfl : loopsOf (bodyOf Tryd.f90) = _)) (fun p => Eq.trans (b := fieldModulusMulB p.1 p.2.1 p.2.2) (by kernel_rfl) (fieldModulusMul_eq p.1 p.2.1 p.2.2).symm)

noncomputable def fieldMulE : Entry := mkE [.int .i64, .u256, .u256] [.u256, .int .i64] fun p => fieldMul p.1 p.2.1 p.2.2

noncomputable def fieldMulX : Cx := mkCx Tryd.prog 23 globsF [(90, fieldModulusMulE), (123, fieldIOfE)] [] []
theorem fieldMulC : CxOk fieldMulX (Glob globsF) := cx_ok (by kernel_rfl) (by kernel_rfl) ⟨fieldModulusMulK, fieldIOfK, trivial⟩
theorem fieldMulK : CallOk Tryd.prog (Glob globsF) 128 fieldMulE :=
  fun_ok (cx := fieldMulX) fieldMulC (fn := Tryd.f128) Tryd.func128 (by kernel_rfl) Tryd.ntmps128 Tryd.call128 _ _ _ (by kernel_rfl) (by kernel_rfl) (by kernel_rfl)
    (fun w0 hG => lall_of lall_nil (by kernel_rfl : loopsOf (bodyOf Tryd.f128) = _)) (fun p => Eq.trans (b := fieldMulB p.1 p.2.1 p.2.2) (by kernel_rfl) (fieldMul_eq p.1 p.2.1 p.2.2).symm)

noncomputable def bitsLen64E : Entry := mkE [.int .u64] [.int .i64] fun p => bitsLen64 p

noncomputable def bitsLen64X : Cx := mkCx Tryd.prog 25 globsF [] [] []
theorem bitsLen64C : CxOk bitsLen64X (Glob globsF) := cx_ok (by kernel_rfl) (by kernel_rfl) trivial
theorem bitsLen64K : CallOk Tryd.prog (Glob globsF) 83 bitsLen64E :=
  fun_ok (cx := bitsLen64X) bitsLen64C (fn := Tryd.f83) Tryd.func83 (by kernel_rfl) Tryd.ntmps83 Tryd.call83 _ _ _ (by kernel_rfl) (by kernel_rfl) (by kernel_rfl)
    (fun w0 hG => lall_of lall_nil (by kernel_rfl : loopsOf (bodyOf Tryd.f83) = _)) (fun p => Eq.trans (b := bitsLen64B p) (by kernel_rfl) (bitsLen64_eq p).symm)

noncomputable def u256LenE : Entry := mkE [.u256] [.int .i64] fun p => u256Len p

def u256LenL0Y : Lay := ⟨[(false, 1, .ptr 1001 [])], [(false, 3, .int .i64), (true, 1001, .u256)], [⟨[(1001, 1001)], []⟩]⟩
def u256LenL0Z : List (Ex × Lay) := [(.ret, ⟨[], [(false, 2, .int .i64)], [⟨[], []⟩]⟩), (.exit 0, ⟨[], [], [⟨[], []⟩]⟩)]
noncomputable def u256LenL0E : LEntry := mkL u256LenL0Y u256LenL0Z fun p => u256LenL0 p.1 p.2
noncomputable def u256LenX : Cx := mkCx Tryd.prog 19 globsF [(83, bitsLen64E)] [(2, u256LenL0E)] []
theorem u256LenC : CxOk u256LenX (Glob globsF) := cx_ok (by kernel_rfl) (by kernel_rfl) ⟨bitsLen64K, trivial⟩
theorem u256LenL0K (w0 : Ini) (hG : Glob globsF w0) : LoopOk u256LenX w0 (loopAt Tryd.f50 0) u256LenL0E :=
  loop_okH u256LenC hG (loopAt Tryd.f50 0) (lall_of lall_nil (by kernel_rfl : loopsOf (loopAt Tryd.f50 0) = _))
    u256LenL0Y u256LenL0Z (by kernel_rfl) (fun p => u256LenL0R p.1 p.2) (fun p => 1000) (fun p => by kernel_rfl) _ (fun p => u256LenL0_eq p.1 p.2)
theorem u256LenK : CallOk Tryd.prog (Glob globsF) 50 u256LenE :=
  fun_ok (cx := u256LenX) u256LenC (fn := Tryd.f50) Tryd.func50 (by kernel_rfl) Tryd.ntmps50 Tryd.call50 _ _ _ (by kernel_rfl) (by kernel_rfl) (by kernel_rfl)
    (fun w0 hG => lall_of (lall_cut (b := loopAt Tryd.f50 0) (u256LenL0K w0 hG) (by kernel_rfl) (lall_nil)) (by kernel_rfl : loopsOf (bodyOf Tryd.f50) = _)) (fun p => Eq.trans (b := u256LenB p) (by kernel_rfl) (u256Len_eq p).symm)

noncomputable def u256BitE : Entry := mkE [.u256, .int .i64] [.int .i64] fun p => u256Bit p.1 p.2

noncomputable def u256BitX : Cx := mkCx Tryd.prog 20 globsF [] [] []
theorem u256BitC : CxOk u256BitX (Glob globsF) := cx_ok (by kernel_rfl) (by kernel_rfl) trivial
theorem u256BitK : CallOk Tryd.prog (Glob globsF) 124 u256BitE :=
  fun_ok (cx := u256BitX) u256BitC (fn := Tryd.f124) Tryd.func124 (by kernel_rfl) Tryd.ntmps124 Tryd.call124 _ _ _ (by kernel_rfl) (by kernel_rfl) (by kernel_rfl)
    (fun w0 hG => lall_of lall_nil (by kernel_rfl : loopsOf (bodyOf Tryd.f124) = _)) (fun p => Eq.trans (b := u256BitB p.1 p.2) (by kernel_rfl) (u256Bit_eq p.1 p.2).symm)

noncomputable def fieldModulusExpE : Entry := mkE [.st [.u256, .u256], .u256, .u256] [.u256] fun p => fieldModulusExp p.1 p.2.1 p.2.2

def fieldModulusExpL0Y : Lay := ⟨[(false, 3, .ptr 1003 []), (false, 4, .ptr 1004 []), (false, 5, .ptr 1005 []), (false, 6, .ptr 1006 []), (false, 7, .ptr 1007 [])], [(false, 8, .int .i64), (true, 1003, .st [.u256, .u256]), (true, 1004, .u256), (true, 1005, .u256), (true, 1006, .u256), (true, 1007, .u256)], [⟨[(1003, 1003), (1004, 1004), (1005, 1005), (1006, 1006), (1007, 1007)], []⟩]⟩
def fieldModulusExpL0Z : List (Ex × Lay) := [(.exit 0, ⟨[(false, 6, .ptr 1006 []), (false, 7, .ptr 1007 [])], [(true, 1006, .u256), (true, 1007, .u256)], [⟨[(1006, 1006), (1007, 1007)], []⟩]⟩)]
noncomputable def fieldModulusExpL0E : LEntry := mkL fieldModulusExpL0Y fieldModulusExpL0Z fun p => fieldModulusExpL0 p.1 p.2.1 p.2.2.1 p.2.2.2.1 p.2.2.2.2.1 p.2.2.2.2.2
noncomputable def fieldModulusExpX : Cx := mkCx Tryd.prog 32 globsF [(50, u256LenE), (53, u256FromE), (90, fieldModulusMulE), (91, fieldModulusOneE), (124, u256BitE)] [(3, fieldModulusExpL0E)] []
theorem fieldModulusExpC : CxOk fieldModulusExpX (Glob globsF) := cx_ok (by kernel_rfl) (by kernel_rfl) ⟨u256LenK, u256FromK, fieldModulusMulK, fieldModulusOneK, u256BitK, trivial⟩
theorem fieldModulusExpL0K (w0 : Ini) (hG : Glob globsF w0) : LoopOk fieldModulusExpX w0 (loopAt Tryd.f89 0) fieldModulusExpL0E :=
  loop_okH fieldModulusExpC hG (loopAt Tryd.f89 0) (lall_of lall_nil (by kernel_rfl : loopsOf (loopAt Tryd.f89 0) = _))
    fieldModulusExpL0Y fieldModulusExpL0Z (by kernel_rfl) (fun p => fieldModulusExpL0R p.1 p.2.1 p.2.2.1 p.2.2.2.1 p.2.2.2.2.1 p.2.2.2.2.2) (fun p => 1000) (fun p => by kernel_rfl) _ (fun p => fieldModulusExpL0_eq p.1 p.2.1 p.2.2.1 p.2.2.2.1 p.2.2.2.2.1 p.2.2.2.2.2)
theorem fieldModulusExpK : CallOk Tryd.prog (Glob globsF) 89 fieldModulusExpE :=
  fun_ok (cx := fieldModulusExpX) fieldModulusExpC (fn := Tryd.f89) Tryd.func89 (by kernel_rfl) Tryd.ntmps89 Tryd.call89 _ _ _ (by kernel_rfl) (by kernel_rfl) (by kernel_rfl)
    (fun w0 hG => lall_of (lall_cut (b := loopAt Tryd.f89 0) (fieldModulusExpL0K w0 hG) (by kernel_rfl) (lall_nil)) (by kernel_rfl : loopsOf (bodyOf Tryd.f89) = _)) (fun p => Eq.trans (b := fieldModulusExpB p.1 p.2.1 p.2.2) (by kernel_rfl) (fieldModulusExp_eq p.1 p.2.1 p.2.2).symm)

noncomputable def fieldModulusInverseE : Entry := mkE [.st [.u256, .u256], .u256] [.u256] fun p => fieldModulusInverse p.1 p.2

noncomputable def fieldModulusInverseX : Cx := mkCx Tryd.prog 18 globsF [(53, u256FromE), (87, u256SubE), (89, fieldModulusExpE)] [] []
theorem fieldModulusInverseC : CxOk fieldModulusInverseX (Glob globsF) := cx_ok (by kernel_rfl) (by kernel_rfl) ⟨u256FromK, u256SubK, fieldModulusExpK, trivial⟩
theorem fieldModulusInverseK : CallOk Tryd.prog (Glob globsF) 140 fieldModulusInverseE :=
  fun_ok (cx := fieldModulusInverseX) fieldModulusInverseC (fn := Tryd.f140) Tryd.func140 (by kernel_rfl) Tryd.ntmps140 Tryd.call140 _ _ _ (by kernel_rfl) (by kernel_rfl) (by kernel_rfl)
    (fun w0 hG => lall_of lall_nil (by kernel_rfl : loopsOf (bodyOf Tryd.f140) = _)) (fun p => Eq.trans (b := fieldModulusInverseB p.1 p.2) (by kernel_rfl) (fieldModulusInverse_eq p.1 p.2).symm)

noncomputable def fieldInverseE : Entry := mkE [.int .i64, .u256] [.u256, .int .i64] fun p => fieldInverse p.1 p.2

noncomputable def fieldInverseX : Cx := mkCx Tryd.prog 26 globsF [(91, fieldModulusOneE), (123, fieldIOfE), (140, fieldModulusInverseE)] [] []
theorem fieldInverseC : CxOk fieldInverseX (Glob globsF) := cx_ok (by kernel_rfl) (by kernel_rfl) ⟨fieldModulusOneK, fieldIOfK, fieldModulusInverseK, trivial⟩
theorem fieldInverseK : CallOk Tryd.prog (Glob globsF) 109 fieldInverseE :=
  fun_ok (cx := fieldInverseX) fieldInverseC (fn := Tryd.f109) Tryd.func109 (by kernel_rfl) Tryd.ntmps109 Tryd.call109 _ _ _ (by kernel_rfl) (by kernel_rfl) (by kernel_rfl)
    (fun w0 hG => lall_of lall_nil (by kernel_rfl : loopsOf (bodyOf Tryd.f109) = _)) (fun p => Eq.trans (b := fieldInverseB p.1 p.2) (by kernel_rfl) (fieldInverse_eq p.1 p.2).symm)

noncomputable def u256ShlE : Entry := mkE [.u256, .int .i64] [.u256] fun p => u256Shl p.1 p.2

def u256ShlL0Y : Lay := ⟨[(false, 2, .ptr 1002 []), (false, 4, .ptr 1004 []), (false, 5, .ptr 1005 [])], [(false, 1, .int .i64), (false, 6, .int .i64), (true, 1002, .u256), (true, 1004, .u256), (true, 1005, .u256)], [⟨[(1002, 1002), (1004, 1004), (1005, 1005)], []⟩]⟩
def u256ShlL0Z : List (Ex × Lay) := [(.exit 0, ⟨[(false, 4, .ptr 1004 []), (false, 5, .ptr 1005 [])], [(true, 1004, .u256), (true, 1005, .u256)], [⟨[(1004, 1004), (1005, 1005)], []⟩]⟩)]
noncomputable def u256ShlL0E : LEntry := mkL u256ShlL0Y u256ShlL0Z fun p => u256ShlL0 p.1 p.2.1 p.2.2.1 p.2.2.2.1 p.2.2.2.2
noncomputable def u256ShlX : Cx := mkCx Tryd.prog 63 globsF [] [(7, u256ShlL0E)] []
theorem u256ShlC : CxOk u256ShlX (Glob globsF) := cx_ok (by kernel_rfl) (by kernel_rfl) trivial
theorem u256ShlL0K (w0 : Ini) (hG : Glob globsF w0) : LoopOk u256ShlX w0 (loopAt Tryd.f51 0) u256ShlL0E :=
  loop_okH u256ShlC hG (loopAt Tryd.f51 0) (lall_of lall_nil (by kernel_rfl : loopsOf (loopAt Tryd.f51 0) = _))
    u256ShlL0Y u256ShlL0Z (by kernel_rfl) (fun p => u256ShlL0R p.1 p.2.1 p.2.2.1 p.2.2.2.1 p.2.2.2.2) (fun p => 1000) (fun p => by kernel_rfl) _ (fun p => u256ShlL0_eq p.1 p.2.1 p.2.2.1 p.2.2.2.1 p.2.2.2.2)
theorem u256ShlK : CallOk Tryd.prog (Glob globsF) 51 u256ShlE :=
  fun_ok (cx := u256ShlX) u256ShlC (fn := Tryd.f51) Tryd.func51 (by kernel_rfl) Tryd.ntmps51 Tryd.call51 _ _ _ (by kernel_rfl) (by kernel_rfl) (by kernel_rfl)
    (fun w0 hG => lall_of (lall_cut (b := loopAt Tryd.f51 0) (u256ShlL0K w0 hG) (by kernel_rfl) (lall_nil)) (by kernel_rfl : loopsOf (bodyOf Tryd.f51) = _)) (fun p => Eq.trans (b := u256ShlB p.1 p.2) (by kernel_rfl) (u256Shl_eq p.1 p.2).symm)

noncomputable def u256ShrE : Entry := mkE [.u256, .int .i64] [.u256] fun p => u256Shr p.1 p.2

def u256ShrL0Y : Lay := ⟨[(false, 2, .ptr 1002 []), (false, 4, .ptr 1004 []), (false, 5, .ptr 1005 [])], [(false, 1, .int .i64), (false, 6, .int .i64), (true, 1002, .u256), (true, 1004, .u256), (true, 1005, .u256)], [⟨[(1002, 1002), (1004, 1004), (1005, 1005)], []⟩]⟩
def u256ShrL0Z : List (Ex × Lay) := [(.exit 0, ⟨[(false, 4, .ptr 1004 []), (false, 5, .ptr 1005 [])], [(true, 1004, .u256), (true, 1005, .u256)], [⟨[(1004, 1004), (1005, 1005)], []⟩]⟩)]
noncomputable def u256ShrL0E : LEntry := mkL u256ShrL0Y u256ShrL0Z fun p => u256ShrL0 p.1 p.2.1 p.2.2.1 p.2.2.2.1 p.2.2.2.2
noncomputable def u256ShrX : Cx := mkCx Tryd.prog 65 globsF [(51, u256ShlE)] [(7, u256ShrL0E)] []
theorem u256ShrC : CxOk u256ShrX (Glob globsF) := cx_ok (by kernel_rfl) (by kernel_rfl) ⟨u256ShlK, trivial⟩
theorem u256ShrL0K (w0 : Ini) (hG : Glob globsF w0) : LoopOk u256ShrX w0 (loopAt Tryd.f84 0) u256ShrL0E :=
  loop_okH u256ShrC hG (loopAt Tryd.f84 0) (lall_of lall_nil (by kernel_rfl : loopsOf (loopAt Tryd.f84 0) = _))
    u256ShrL0Y u256ShrL0Z (by kernel_rfl) (fun p => u256ShrL0R p.1 p.2.1 p.2.2.1 p.2.2.2.1 p.2.2.2.2) (fun p => 1000) (fun p => by kernel_rfl) _ (fun p => u256ShrL0_eq p.1 p.2.1 p.2.2.1 p.2.2.2.1 p.2.2.2.2)
theorem u256ShrK : CallOk Tryd.prog (Glob globsF) 84 u256ShrE :=
  fun_ok (cx := u256ShrX) u256ShrC (fn := Tryd.f84) Tryd.func84 (by kernel_rfl) Tryd.ntmps84 Tryd.call84 _ _ _ (by kernel_rfl) (by kernel_rfl) (by kernel_rfl)
    (fun w0 hG => lall_of (lall_cut (b := loopAt Tryd.f84 0) (u256ShrL0K w0 hG) (by kernel_rfl) (lall_nil)) (by kernel_rfl : loopsOf (bodyOf Tryd.f84) = _)) (fun p => Eq.trans (b := u256ShrB p.1 p.2) (by kernel_rfl) (u256Shr_eq p.1 p.2).symm)

noncomputable def fieldRootE : Entry := mkE [.u256] [.u256, .int .i64] fun p => fieldRoot p

noncomputable def fieldRootX : Cx := mkCx Tryd.prog 39 globsF [(53, u256FromE), (84, u256ShrE), (85, u256AddE), (89, fieldModulusExpE), (90, fieldModulusMulE), (91, fieldModulusOneE), (92, fieldModulusNegE)] [] []
theorem fieldRootC : CxOk fieldRootX (Glob globsF) := cx_ok (by kernel_rfl) (by kernel_rfl) ⟨u256FromK, u256ShrK, u256AddK, fieldModulusExpK, fieldModulusMulK, fieldModulusOneK, fieldModulusNegK, trivial⟩
theorem fieldRootK : CallOk Tryd.prog (Glob globsF) 60 fieldRootE :=
  fun_ok (cx := fieldRootX) fieldRootC (fn := Tryd.f60) Tryd.func60 (by kernel_rfl) Tryd.ntmps60 Tryd.call60 _ _ _ (by kernel_rfl) (by kernel_rfl) (by kernel_rfl)
    (fun w0 hG => lall_of lall_nil (by kernel_rfl : loopsOf (bodyOf Tryd.f60) = _)) (fun p => Eq.trans (b := fieldRootB p) (by kernel_rfl) (fieldRoot_eq p).symm)

noncomputable def fieldSquareE : Entry := mkE [.int .i64, .u256] [.u256, .int .i64] fun p => fieldSquare p.1 p.2

noncomputable def fieldSquareX : Cx := mkCx Tryd.prog 12 globsF [(128, fieldMulE)] [] []
theorem fieldSquareC : CxOk fieldSquareX (Glob globsF) := cx_ok (by kernel_rfl) (by kernel_rfl) ⟨fieldMulK, trivial⟩
theorem fieldSquareK : CallOk Tryd.prog (Glob globsF) 112 fieldSquareE :=
  fun_ok (cx := fieldSquareX) fieldSquareC (fn := Tryd.f112) Tryd.func112 (by kernel_rfl) Tryd.ntmps112 Tryd.call112 _ _ _ (by kernel_rfl) (by kernel_rfl) (by kernel_rfl)
    (fun w0 hG => lall_of lall_nil (by kernel_rfl : loopsOf (bodyOf Tryd.f112) = _)) (fun p => Eq.trans (b := fieldSquareB p.1 p.2) (by kernel_rfl) (fieldSquare_eq p.1 p.2).symm)

noncomputable def ref04IGoodE : Entry := mkE [.int .i64] [.bool] fun p => ref04IGood p

noncomputable def ref04IGoodX : Cx := mkCx Tryd.prog 9 globsF [] [] []
theorem ref04IGoodC : CxOk ref04IGoodX (Glob globsF) := cx_ok (by kernel_rfl) (by kernel_rfl) trivial
theorem ref04IGoodK : CallOk Tryd.prog (Glob globsF) 130 ref04IGoodE :=
  fun_ok (cx := ref04IGoodX) ref04IGoodC (fn := Tryd.f130) Tryd.func130 (by kernel_rfl) Tryd.ntmps130 Tryd.call130 _ _ _ (by kernel_rfl) (by kernel_rfl) (by kernel_rfl)
    (fun w0 hG => lall_of lall_nil (by kernel_rfl : loopsOf (bodyOf Tryd.f130) = _)) (fun p => Eq.trans (b := ref04IGoodB p) (by kernel_rfl) (ref04IGood_eq p).symm)

noncomputable def ref04IModulusE : Entry := mkE [.int .i64] [.u256] fun p => ref04IModulus p

noncomputable def ref04IModulusX : Cx := mkCx Tryd.prog 7 globsF [] [] []
theorem ref04IModulusC : CxOk ref04IModulusX (Glob globsF) := cx_ok (by kernel_rfl) (by kernel_rfl) trivial
theorem ref04IModulusK : CallOk Tryd.prog (Glob globsF) 99 ref04IModulusE :=
  fun_ok (cx := ref04IModulusX) ref04IModulusC (fn := Tryd.f99) Tryd.func99 (by kernel_rfl) Tryd.ntmps99 Tryd.call99 _ _ _ (by kernel_rfl) (by kernel_rfl) (by kernel_rfl)
    (fun w0 hG => lall_of lall_nil (by kernel_rfl : loopsOf (bodyOf Tryd.f99) = _)) (fun p => Eq.trans (b := ref04IModulusB p) (by kernel_rfl) (ref04IModulus_eq p).symm)

noncomputable def ref04ModulusE : Entry := mkE [.int .i64] [.u256, .int .i64] fun p => ref04Modulus p

noncomputable def ref04ModulusX : Cx := mkCx Tryd.prog 12 globsF [(99, ref04IModulusE), (130, ref04IGoodE)] [] []
theorem ref04ModulusC : CxOk ref04ModulusX (Glob globsF) := cx_ok (by kernel_rfl) (by kernel_rfl) ⟨ref04IModulusK, ref04IGoodK, trivial⟩
theorem ref04ModulusK : CallOk Tryd.prog (Glob globsF) 96 ref04ModulusE :=
  fun_ok (cx := ref04ModulusX) ref04ModulusC (fn := Tryd.f96) Tryd.func96 (by kernel_rfl) Tryd.ntmps96 Tryd.call96 _ _ _ (by kernel_rfl) (by kernel_rfl) (by kernel_rfl)
    (fun w0 hG => lall_of lall_nil (by kernel_rfl : loopsOf (bodyOf Tryd.f96) = _)) (fun p => Eq.trans (b := ref04ModulusB p) (by kernel_rfl) (ref04Modulus_eq p).symm)

noncomputable def ref01IDigitsE : Entry := mkE [.u256] [.arr (.int .u64) 8] fun p => ref01IDigits p

noncomputable def ref01IDigitsX : Cx := mkCx Tryd.prog 25 globsF [] [] []
theorem ref01IDigitsC : CxOk ref01IDigitsX (Glob globsF) := cx_ok (by kernel_rfl) (by kernel_rfl) trivial
theorem ref01IDigitsK : CallOk Tryd.prog (Glob globsF) 131 ref01IDigitsE :=
  fun_ok (cx := ref01IDigitsX) ref01IDigitsC (fn := Tryd.f131) Tryd.func131 (by kernel_rfl) Tryd.ntmps131 Tryd.call131 _ _ _ (by kernel_rfl) (by kernel_rfl) (by kernel_rfl)
    (fun w0 hG => lall_of (lall_free (b := loopAt Tryd.f131 0) (by kernel_rfl) (lall_nil)) (by kernel_rfl : loopsOf (bodyOf Tryd.f131) = _)) (fun p => Eq.trans (b := ref01IDigitsB p) (by kernel_rfl) (ref01IDigits_eq p).symm)

noncomputable def ref01INumberE : Entry := mkE [.arr (.int .u64) 8] [.u256] fun p => ref01INumber p

noncomputable def ref01INumberX : Cx := mkCx Tryd.prog 23 globsF [] [] []
theorem ref01INumberC : CxOk ref01INumberX (Glob globsF) := cx_ok (by kernel_rfl) (by kernel_rfl) trivial
theorem ref01INumberK : CallOk Tryd.prog (Glob globsF) 132 ref01INumberE :=
  fun_ok (cx := ref01INumberX) ref01INumberC (fn := Tryd.f132) Tryd.func132 (by kernel_rfl) Tryd.ntmps132 Tryd.call132 _ _ _ (by kernel_rfl) (by kernel_rfl) (by kernel_rfl)
    (fun w0 hG => lall_of (lall_free (b := loopAt Tryd.f132 0) (by kernel_rfl) (lall_nil)) (by kernel_rfl : loopsOf (bodyOf Tryd.f132) = _)) (fun p => Eq.trans (b := ref01INumberB p) (by kernel_rfl) (ref01INumber_eq p).symm)

noncomputable def ref01AddE : Entry := mkE [.u256, .u256] [.u256, .int .u64] fun p => ref01Add p.1 p.2

def ref01AddL0Y : Lay := ⟨[(false, 4, .ptr 1004 []), (false, 6, .ptr 1006 []), (false, 7, .ptr 1007 [])], [(false, 8, .int .u64), (false, 9, .int .i64), (true, 1004, .u256), (true, 1006, .arr (.int .u64) 8), (true, 1007, .arr (.int .u64) 8)], [⟨[(1004, 1004), (1006, 1006), (1007, 1007)], []⟩]⟩
def ref01AddL0Z : List (Ex × Lay) := [(.exit 0, ⟨[(false, 4, .ptr 1004 []), (false, 6, .ptr 1006 [])], [(false, 8, .int .u64), (true, 1004, .u256), (true, 1006, .arr (.int .u64) 8)], [⟨[(1004, 1004), (1006, 1006)], []⟩]⟩)]
noncomputable def ref01AddL0E : LEntry := mkL ref01AddL0Y ref01AddL0Z fun p => ref01AddL0 p.1 p.2.1 p.2.2.1 p.2.2.2.1 p.2.2.2.2
noncomputable def ref01AddX : Cx := mkCx Tryd.prog 37 globsF [(131, ref01IDigitsE), (132, ref01INumberE)] [(5, ref01AddL0E)] []
theorem ref01AddC : CxOk ref01AddX (Glob globsF) := cx_ok (by kernel_rfl) (by kernel_rfl) ⟨ref01IDigitsK, ref01INumberK, trivial⟩
theorem ref01AddL0K (w0 : Ini) (hG : Glob globsF w0) : LoopOk ref01AddX w0 (loopAt Tryd.f98 0) ref01AddL0E :=
  loop_okH ref01AddC hG (loopAt Tryd.f98 0) (lall_of lall_nil (by kernel_rfl : loopsOf (loopAt Tryd.f98 0) = _))
    ref01AddL0Y ref01AddL0Z (by kernel_rfl) (fun p => ref01AddL0R p.1 p.2.1 p.2.2.1 p.2.2.2.1 p.2.2.2.2) (fun p => 1000) (fun p => by kernel_rfl) _ (fun p => ref01AddL0_eq p.1 p.2.1 p.2.2.1 p.2.2.2.1 p.2.2.2.2)
theorem ref01AddK : CallOk Tryd.prog (Glob globsF) 98 ref01AddE :=
  fun_ok (cx := ref01AddX) ref01AddC (fn := Tryd.f98) Tryd.func98 (by kernel_rfl) Tryd.ntmps98 Tryd.call98 _ _ _ (by kernel_rfl) (by kernel_rfl) (by kernel_rfl)
    (fun w0 hG => lall_of (lall_cut (b := loopAt Tryd.f98 0) (ref01AddL0K w0 hG) (by kernel_rfl) (lall_nil)) (by kernel_rfl : loopsOf (bodyOf Tryd.f98) = _)) (fun p => Eq.trans (b := ref01AddB p.1 p.2) (by kernel_rfl) (ref01Add_eq p.1 p.2).symm)

noncomputable def ref01FromE : Entry := mkE [.int .u64] [.u256] fun p => ref01From p

noncomputable def ref01FromX : Cx := mkCx Tryd.prog 5 globsF [] [] []
theorem ref01FromC : CxOk ref01FromX (Glob globsF) := cx_ok (by kernel_rfl) (by kernel_rfl) trivial
theorem ref01FromK : CallOk Tryd.prog (Glob globsF) 100 ref01FromE :=
  fun_ok (cx := ref01FromX) ref01FromC (fn := Tryd.f100) Tryd.func100 (by kernel_rfl) Tryd.ntmps100 Tryd.call100 _ _ _ (by kernel_rfl) (by kernel_rfl) (by kernel_rfl)
    (fun w0 hG => lall_of lall_nil (by kernel_rfl : loopsOf (bodyOf Tryd.f100) = _)) (fun p => Eq.trans (b := ref01FromB p) (by kernel_rfl) (ref01From_eq p).symm)

noncomputable def ref01SubE : Entry := mkE [.u256, .u256] [.u256, .int .u64] fun p => ref01Sub p.1 p.2

def ref01SubL0Y : Lay := ⟨[(false, 4, .ptr 1004 []), (false, 6, .ptr 1006 []), (false, 7, .ptr 1007 [])], [(false, 8, .int .u64), (false, 9, .int .i64), (true, 1004, .u256), (true, 1006, .arr (.int .u64) 8), (true, 1007, .arr (.int .u64) 8)], [⟨[(1004, 1004), (1006, 1006), (1007, 1007)], []⟩]⟩
def ref01SubL0Z : List (Ex × Lay) := [(.exit 0, ⟨[(false, 4, .ptr 1004 []), (false, 6, .ptr 1006 [])], [(false, 8, .int .u64), (true, 1004, .u256), (true, 1006, .arr (.int .u64) 8)], [⟨[(1004, 1004), (1006, 1006)], []⟩]⟩)]
noncomputable def ref01SubL0E : LEntry := mkL ref01SubL0Y ref01SubL0Z fun p => ref01SubL0 p.1 p.2.1 p.2.2.1 p.2.2.2.1 p.2.2.2.2
noncomputable def ref01SubX : Cx := mkCx Tryd.prog 45 globsF [(131, ref01IDigitsE), (132, ref01INumberE)] [(5, ref01SubL0E)] []
theorem ref01SubC : CxOk ref01SubX (Glob globsF) := cx_ok (by kernel_rfl) (by kernel_rfl) ⟨ref01IDigitsK, ref01INumberK, trivial⟩
theorem ref01SubL0K (w0 : Ini) (hG : Glob globsF w0) : LoopOk ref01SubX w0 (loopAt Tryd.f137 0) ref01SubL0E :=
  loop_okH ref01SubC hG (loopAt Tryd.f137 0) (lall_of lall_nil (by kernel_rfl : loopsOf (loopAt Tryd.f137 0) = _))
    ref01SubL0Y ref01SubL0Z (by kernel_rfl) (fun p => ref01SubL0R p.1 p.2.1 p.2.2.1 p.2.2.2.1 p.2.2.2.2) (fun p => 1000) (fun p => by kernel_rfl) _ (fun p => ref01SubL0_eq p.1 p.2.1 p.2.2.1 p.2.2.2.1 p.2.2.2.2)
theorem ref01SubK : CallOk Tryd.prog (Glob globsF) 137 ref01SubE :=
  fun_ok (cx := ref01SubX) ref01SubC (fn := Tryd.f137) Tryd.func137 (by kernel_rfl) Tryd.ntmps137 Tryd.call137 _ _ _ (by kernel_rfl) (by kernel_rfl) (by kernel_rfl)
    (fun w0 hG => lall_of (lall_cut (b := loopAt Tryd.f137 0) (ref01SubL0K w0 hG) (by kernel_rfl) (lall_nil)) (by kernel_rfl : loopsOf (bodyOf Tryd.f137) = _)) (fun p => Eq.trans (b := ref01SubB p.1 p.2) (by kernel_rfl) (ref01Sub_eq p.1 p.2).symm)

noncomputable def ref01MulE : Entry := mkE [.u256, .u256] [.u256, .u256] fun p => ref01Mul p.1 p.2

def ref01MulL1Y : Lay := ⟨[(false, 4, .ptr 1004 []), (false, 5, .ptr 1005 []), (false, 6, .ptr 1006 []), (false, 7, .ptr 1007 []), (false, 8, .ptr 1008 [])], [(false, 9, .int .i64), (false, 10, .int .u64), (false, 11, .int .i64), (true, 1004, .u256), (true, 1005, .u256), (true, 1006, .arr (.int .u64) 8), (true, 1007, .arr (.int .u64) 8), (true, 1008, .arr (.int .u64) 16)], [⟨[(1004, 1004), (1005, 1005), (1006, 1006), (1007, 1007), (1008, 1008)], []⟩]⟩
def ref01MulL1Z : List (Ex × Lay) := [(.exit 2, ⟨[(false, 4, .ptr 1004 []), (false, 5, .ptr 1005 []), (false, 6, .ptr 1006 []), (false, 7, .ptr 1007 []), (false, 8, .ptr 1008 [])], [(false, 9, .int .i64), (false, 10, .int .u64), (true, 1004, .u256), (true, 1005, .u256), (true, 1006, .arr (.int .u64) 8), (true, 1007, .arr (.int .u64) 8), (true, 1008, .arr (.int .u64) 16)], [⟨[(1004, 1004), (1005, 1005), (1006, 1006), (1007, 1007), (1008, 1008)], []⟩]⟩)]
noncomputable def ref01MulL1E : LEntry := mkL ref01MulL1Y ref01MulL1Z fun p => ref01MulL1 p.1 p.2.1 p.2.2.1 p.2.2.2.1 p.2.2.2.2.1 p.2.2.2.2.2.1 p.2.2.2.2.2.2.1 p.2.2.2.2.2.2.2
def ref01MulL0Y : Lay := ⟨[(false, 4, .ptr 1004 []), (false, 5, .ptr 1005 []), (false, 6, .ptr 1006 []), (false, 7, .ptr 1007 []), (false, 8, .ptr 1008 [])], [(false, 9, .int .i64), (true, 1004, .u256), (true, 1005, .u256), (true, 1006, .arr (.int .u64) 8), (true, 1007, .arr (.int .u64) 8), (true, 1008, .arr (.int .u64) 16)], [⟨[(1004, 1004), (1005, 1005), (1006, 1006), (1007, 1007), (1008, 1008)], []⟩]⟩
def ref01MulL0Z : List (Ex × Lay) := [(.exit 0, ⟨[(false, 4, .ptr 1004 []), (false, 5, .ptr 1005 []), (false, 8, .ptr 1008 [])], [(true, 1004, .u256), (true, 1005, .u256), (true, 1008, .arr (.int .u64) 16)], [⟨[(1004, 1004), (1005, 1005), (1008, 1008)], []⟩]⟩)]
noncomputable def ref01MulL0E : LEntry := mkL ref01MulL0Y ref01MulL0Z fun p => ref01MulL0 p.1 p.2.1 p.2.2.1 p.2.2.2.1 p.2.2.2.2.1 p.2.2.2.2.2
def ref01MulL2Y : Lay := ⟨[(false, 4, .ptr 1004 []), (false, 5, .ptr 1005 []), (false, 8, .ptr 1008 []), (false, 13, .ptr 1013 []), (false, 14, .ptr 1014 [])], [(false, 15, .int .i64), (true, 1004, .u256), (true, 1005, .u256), (true, 1008, .arr (.int .u64) 16), (true, 1013, .arr (.int .u64) 8), (true, 1014, .arr (.int .u64) 8)], [⟨[(1004, 1004), (1005, 1005), (1008, 1008), (1013, 1013), (1014, 1014)], []⟩]⟩
def ref01MulL2Z : List (Ex × Lay) := [(.exit 4, ⟨[(false, 4, .ptr 1004 []), (false, 5, .ptr 1005 []), (false, 13, .ptr 1013 []), (false, 14, .ptr 1014 [])], [(true, 1004, .u256), (true, 1005, .u256), (true, 1013, .arr (.int .u64) 8), (true, 1014, .arr (.int .u64) 8)], [⟨[(1004, 1004), (1005, 1005), (1013, 1013), (1014, 1014)], []⟩]⟩)]
noncomputable def ref01MulL2E : LEntry := mkL ref01MulL2Y ref01MulL2Z fun p => ref01MulL2 p.1 p.2.1 p.2.2.1 p.2.2.2.1 p.2.2.2.2.1 p.2.2.2.2.2
noncomputable def ref01MulX : Cx := mkCx Tryd.prog 74 globsF [(131, ref01IDigitsE), (132, ref01INumberE)] [(9, ref01MulL1E), (5, ref01MulL0E), (17, ref01MulL2E)] []
theorem ref01MulC : CxOk ref01MulX (Glob globsF) := cx_ok (by kernel_rfl) (by kernel_rfl) ⟨ref01IDigitsK, ref01INumberK, trivial⟩
theorem ref01MulL1K (w0 : Ini) (hG : Glob globsF w0) : LoopOk ref01MulX w0 (loopAt Tryd.f135 1) ref01MulL1E :=
  loop_okH ref01MulC hG (loopAt Tryd.f135 1) (lall_of lall_nil (by kernel_rfl : loopsOf (loopAt Tryd.f135 1) = _))
    ref01MulL1Y ref01MulL1Z (by kernel_rfl) (fun p => ref01MulL1R p.1 p.2.1 p.2.2.1 p.2.2.2.1 p.2.2.2.2.1 p.2.2.2.2.2.1 p.2.2.2.2.2.2.1 p.2.2.2.2.2.2.2) (fun p => 1000) (fun p => by kernel_rfl) _ (fun p => ref01MulL1_eq p.1 p.2.1 p.2.2.1 p.2.2.2.1 p.2.2.2.2.1 p.2.2.2.2.2.1 p.2.2.2.2.2.2.1 p.2.2.2.2.2.2.2)
theorem ref01MulL0K (w0 : Ini) (hG : Glob globsF w0) : LoopOk ref01MulX w0 (loopAt Tryd.f135 0) ref01MulL0E :=
  loop_okH ref01MulC hG (loopAt Tryd.f135 0) (lall_of (lall_cut (b := loopAt Tryd.f135 1) (ref01MulL1K w0 hG) (by kernel_rfl) (lall_nil)) (by kernel_rfl : loopsOf (loopAt Tryd.f135 0) = _))
    ref01MulL0Y ref01MulL0Z (by kernel_rfl) (fun p => ref01MulL0R p.1 p.2.1 p.2.2.1 p.2.2.2.1 p.2.2.2.2.1 p.2.2.2.2.2) (fun p => 1000) (fun p => by kernel_rfl) _ (fun p => ref01MulL0_eq p.1 p.2.1 p.2.2.1 p.2.2.2.1 p.2.2.2.2.1 p.2.2.2.2.2)
theorem ref01MulL2K (w0 : Ini) (hG : Glob globsF w0) : LoopOk ref01MulX w0 (loopAt Tryd.f135 2) ref01MulL2E :=
  loop_okH ref01MulC hG (loopAt Tryd.f135 2) (lall_of lall_nil (by kernel_rfl : loopsOf (loopAt Tryd.f135 2) = _))
    ref01MulL2Y ref01MulL2Z (by kernel_rfl) (fun p => ref01MulL2R p.1 p.2.1 p.2.2.1 p.2.2.2.1 p.2.2.2.2.1 p.2.2.2.2.2) (fun p => 1000) (fun p => by kernel_rfl) _ (fun p => ref01MulL2_eq p.1 p.2.1 p.2.2.1 p.2.2.2.1 p.2.2.2.2.1 p.2.2.2.2.2)
theorem ref01MulK : CallOk Tryd.prog (Glob globsF) 135 ref01MulE :=
  fun_ok (cx := ref01MulX) ref01MulC (fn := Tryd.f135) Tryd.func135 (by kernel_rfl) Tryd.ntmps135 Tryd.call135 _ _ _ (by kernel_rfl) (by kernel_rfl) (by kernel_rfl)
    (fun w0 hG => lall_of (lall_cut (b := loopAt Tryd.f135 0) (ref01MulL0K w0 hG) (by kernel_rfl) (lall_cut (b := loopAt Tryd.f135 1) (ref01MulL1K w0 hG) (by kernel_rfl) (lall_cut (b := loopAt Tryd.f135 2) (ref01MulL2K w0 hG) (by kernel_rfl) (lall_nil)))) (by kernel_rfl : loopsOf (bodyOf Tryd.f135) = _)) (fun p => Eq.trans (b := ref01MulB p.1 p.2) (by kernel_rfl) (ref01Mul_eq p.1 p.2).symm)

noncomputable def ref01CmpE : Entry := mkE [.u256, .u256] [.int .i64] fun p => ref01Cmp p.1 p.2

def ref01CmpL0Y : Lay := ⟨[(false, 2, .ptr 1002 []), (false, 3, .ptr 1003 [])], [(false, 5, .int .i64), (true, 1002, .u256), (true, 1003, .u256)], [⟨[(1002, 1002), (1003, 1003)], []⟩]⟩
def ref01CmpL0Z : List (Ex × Lay) := [(.ret, ⟨[], [(false, 4, .int .i64)], [⟨[], []⟩]⟩), (.exit 0, ⟨[], [], [⟨[], []⟩]⟩)]
noncomputable def ref01CmpL0E : LEntry := mkL ref01CmpL0Y ref01CmpL0Z fun p => ref01CmpL0 p.1 p.2.1 p.2.2
noncomputable def ref01CmpX : Cx := mkCx Tryd.prog 24 globsF [] [(2, ref01CmpL0E)] []
theorem ref01CmpC : CxOk ref01CmpX (Glob globsF) := cx_ok (by kernel_rfl) (by kernel_rfl) trivial
theorem ref01CmpL0K (w0 : Ini) (hG : Glob globsF w0) : LoopOk ref01CmpX w0 (loopAt Tryd.f97 0) ref01CmpL0E :=
  loop_okH ref01CmpC hG (loopAt Tryd.f97 0) (lall_of lall_nil (by kernel_rfl : loopsOf (loopAt Tryd.f97 0) = _))
    ref01CmpL0Y ref01CmpL0Z (by kernel_rfl) (fun p => ref01CmpL0R p.1 p.2.1 p.2.2) (fun p => 1000) (fun p => by kernel_rfl) _ (fun p => ref01CmpL0_eq p.1 p.2.1 p.2.2)
theorem ref01CmpK : CallOk Tryd.prog (Glob globsF) 97 ref01CmpE :=
  fun_ok (cx := ref01CmpX) ref01CmpC (fn := Tryd.f97) Tryd.func97 (by kernel_rfl) Tryd.ntmps97 Tryd.call97 _ _ _ (by kernel_rfl) (by kernel_rfl) (by kernel_rfl)
    (fun w0 hG => lall_of (lall_cut (b := loopAt Tryd.f97 0) (ref01CmpL0K w0 hG) (by kernel_rfl) (lall_nil)) (by kernel_rfl : loopsOf (bodyOf Tryd.f97) = _)) (fun p => Eq.trans (b := ref01CmpB p.1 p.2) (by kernel_rfl) (ref01Cmp_eq p.1 p.2).symm)

noncomputable def ref04IFoldE : Entry := mkE [.int .i64, .u256, .u256] [.u256] fun p => ref04IFold p.1 p.2.1 p.2.2

def ref04IFoldL0Y : Lay := ⟨[(false, 4, .ptr 1004 []), (false, 5, .ptr 1005 []), (false, 6, .ptr 1006 []), (false, 7, .ptr 1007 []), (false, 8, .ptr 1008 []), (false, 9, .ptr 1009 [])], [(true, 1004, .u256), (true, 1005, .u256), (true, 1006, .u256), (true, 1007, .u256), (true, 1008, .u256), (true, 1009, .u256)], [⟨[(1004, 1004), (1005, 1005), (1006, 1006), (1007, 1007), (1008, 1008), (1009, 1009)], []⟩]⟩
def ref04IFoldL0Z : List (Ex × Lay) := [(.exit 0, ⟨[(false, 5, .ptr 1005 []), (false, 6, .ptr 1006 []), (false, 8, .ptr 1008 [])], [(true, 1005, .u256), (true, 1006, .u256), (true, 1008, .u256)], [⟨[(1005, 1005), (1006, 1006), (1008, 1008)], []⟩]⟩)]
noncomputable def ref04IFoldL0E : LEntry := mkL ref04IFoldL0Y ref04IFoldL0Z fun p => ref04IFoldL0 p.1 p.2.1 p.2.2.1 p.2.2.2.1 p.2.2.2.2.1 p.2.2.2.2.2
def ref04IFoldL1Y : Lay := ⟨[(false, 5, .ptr 1005 []), (false, 6, .ptr 1006 []), (false, 8, .ptr 1008 [])], [(true, 1005, .u256), (true, 1006, .u256), (true, 1008, .u256)], [⟨[(1005, 1005), (1006, 1006), (1008, 1008)], []⟩]⟩
def ref04IFoldL1Z : List (Ex × Lay) := [(.exit 2, ⟨[(false, 5, .ptr 1005 []), (false, 6, .ptr 1006 [])], [(true, 1005, .u256), (true, 1006, .u256)], [⟨[(1005, 1005), (1006, 1006)], []⟩]⟩)]
noncomputable def ref04IFoldL1E : LEntry := mkL ref04IFoldL1Y ref04IFoldL1Z fun p => ref04IFoldL1 p.1 p.2.1 p.2.2
noncomputable def ref04IFoldX : Cx := mkCx Tryd.prog 64 globsF [(97, ref01CmpE), (98, ref01AddE), (99, ref04IModulusE), (100, ref01FromE), (135, ref01MulE), (137, ref01SubE)] [(4, ref04IFoldL0E), (10, ref04IFoldL1E)] []
theorem ref04IFoldC : CxOk ref04IFoldX (Glob globsF) := cx_ok (by kernel_rfl) (by kernel_rfl) ⟨ref01CmpK, ref01AddK, ref04IModulusK, ref01FromK, ref01MulK, ref01SubK, trivial⟩
theorem ref04IFoldL0K (w0 : Ini) (hG : Glob globsF w0) : LoopOk ref04IFoldX w0 (loopAt Tryd.f136 0) ref04IFoldL0E :=
  loop_okH ref04IFoldC hG (loopAt Tryd.f136 0) (lall_of lall_nil (by kernel_rfl : loopsOf (loopAt Tryd.f136 0) = _))
    ref04IFoldL0Y ref04IFoldL0Z (by kernel_rfl) (fun p => ref04IFoldL0R p.1 p.2.1 p.2.2.1 p.2.2.2.1 p.2.2.2.2.1 p.2.2.2.2.2) (fun p => 1000) (fun p => by kernel_rfl) _ (fun p => ref04IFoldL0_eq p.1 p.2.1 p.2.2.1 p.2.2.2.1 p.2.2.2.2.1 p.2.2.2.2.2)
theorem ref04IFoldL1K (w0 : Ini) (hG : Glob globsF w0) : LoopOk ref04IFoldX w0 (loopAt Tryd.f136 1) ref04IFoldL1E :=
  loop_okH ref04IFoldC hG (loopAt Tryd.f136 1) (lall_of lall_nil (by kernel_rfl : loopsOf (loopAt Tryd.f136 1) = _))
    ref04IFoldL1Y ref04IFoldL1Z (by kernel_rfl) (fun p => ref04IFoldL1R p.1 p.2.1 p.2.2) (fun p => 1000) (fun p => by kernel_rfl) _ (fun p => ref04IFoldL1_eq p.1 p.2.1 p.2.2)
theorem ref04IFoldK : CallOk Tryd.prog (Glob globsF) 136 ref04IFoldE :=
  fun_ok (cx := ref04IFoldX) ref04IFoldC (fn := Tryd.f136) Tryd.func136 (by kernel_rfl) Tryd.ntmps136 Tryd.call136 _ _ _ (by kernel_rfl) (by kernel_rfl) (by kernel_rfl)
    (fun w0 hG => lall_of (lall_cut (b := loopAt Tryd.f136 0) (ref04IFoldL0K w0 hG) (by kernel_rfl) (lall_cut (b := loopAt Tryd.f136 1) (ref04IFoldL1K w0 hG) (by kernel_rfl) (lall_nil))) (by kernel_rfl : loopsOf (bodyOf Tryd.f136) = _)) (fun p => Eq.trans (b := ref04IFoldB p.1 p.2.1 p.2.2) (by kernel_rfl) (ref04IFold_eq p.1 p.2.1 p.2.2).symm)

noncomputable def ref04IPlusE : Entry := mkE [.int .i64, .u256, .u256] [.u256] fun p => ref04IPlus p.1 p.2.1 p.2.2

noncomputable def ref04IPlusX : Cx := mkCx Tryd.prog 20 globsF [(98, ref01AddE), (100, ref01FromE), (136, ref04IFoldE)] [] []
theorem ref04IPlusC : CxOk ref04IPlusX (Glob globsF) := cx_ok (by kernel_rfl) (by kernel_rfl) ⟨ref01AddK, ref01FromK, ref04IFoldK, trivial⟩
theorem ref04IPlusK : CallOk Tryd.prog (Glob globsF) 143 ref04IPlusE :=
  fun_ok (cx := ref04IPlusX) ref04IPlusC (fn := Tryd.f143) Tryd.func143 (by kernel_rfl) Tryd.ntmps143 Tryd.call143 _ _ _ (by kernel_rfl) (by kernel_rfl) (by kernel_rfl)
    (fun w0 hG => lall_of lall_nil (by kernel_rfl : loopsOf (bodyOf Tryd.f143) = _)) (fun p => Eq.trans (b := ref04IPlusB p.1 p.2.1 p.2.2) (by kernel_rfl) (ref04IPlus_eq p.1 p.2.1 p.2.2).symm)

noncomputable def ref04AddE : Entry := mkE [.int .i64, .u256, .u256] [.u256, .int .i64] fun p => ref04Add p.1 p.2.1 p.2.2

noncomputable def ref04AddX : Cx := mkCx Tryd.prog 18 globsF [(130, ref04IGoodE), (143, ref04IPlusE)] [] []
theorem ref04AddC : CxOk ref04AddX (Glob globsF) := cx_ok (by kernel_rfl) (by kernel_rfl) ⟨ref04IGoodK, ref04IPlusK, trivial⟩
theorem ref04AddK : CallOk Tryd.prog (Glob globsF) 138 ref04AddE :=
  fun_ok (cx := ref04AddX) ref04AddC (fn := Tryd.f138) Tryd.func138 (by kernel_rfl) Tryd.ntmps138 Tryd.call138 _ _ _ (by kernel_rfl) (by kernel_rfl) (by kernel_rfl)
    (fun w0 hG => lall_of lall_nil (by kernel_rfl : loopsOf (bodyOf Tryd.f138) = _)) (fun p => Eq.trans (b := ref04AddB p.1 p.2.1 p.2.2) (by kernel_rfl) (ref04Add_eq p.1 p.2.1 p.2.2).symm)

noncomputable def ref04IBelowE : Entry := mkE [.int .i64, .u256] [.u256] fun p => ref04IBelow p.1 p.2

noncomputable def ref04IBelowX : Cx := mkCx Tryd.prog 9 globsF [(136, ref04IFoldE)] [] []
theorem ref04IBelowC : CxOk ref04IBelowX (Glob globsF) := cx_ok (by kernel_rfl) (by kernel_rfl) ⟨ref04IFoldK, trivial⟩
theorem ref04IBelowK : CallOk Tryd.prog (Glob globsF) 104 ref04IBelowE :=
  fun_ok (cx := ref04IBelowX) ref04IBelowC (fn := Tryd.f104) Tryd.func104 (by kernel_rfl) Tryd.ntmps104 Tryd.call104 _ _ _ (by kernel_rfl) (by kernel_rfl) (by kernel_rfl)
    (fun w0 hG => lall_of lall_nil (by kernel_rfl : loopsOf (bodyOf Tryd.f104) = _)) (fun p => Eq.trans (b := ref04IBelowB p.1 p.2) (by kernel_rfl) (ref04IBelow_eq p.1 p.2).symm)

noncomputable def ref04ILessE : Entry := mkE [.int .i64, .u256] [.u256] fun p => ref04ILess p.1 p.2

noncomputable def ref04ILessX : Cx := mkCx Tryd.prog 19 globsF [(99, ref04IModulusE), (104, ref04IBelowE), (137, ref01SubE)] [] []
theorem ref04ILessC : CxOk ref04ILessX (Glob globsF) := cx_ok (by kernel_rfl) (by kernel_rfl) ⟨ref04IModulusK, ref04IBelowK, ref01SubK, trivial⟩
theorem ref04ILessK : CallOk Tryd.prog (Glob globsF) 105 ref04ILessE :=
  fun_ok (cx := ref04ILessX) ref04ILessC (fn := Tryd.f105) Tryd.func105 (by kernel_rfl) Tryd.ntmps105 Tryd.call105 _ _ _ (by kernel_rfl) (by kernel_rfl) (by kernel_rfl)
    (fun w0 hG => lall_of lall_nil (by kernel_rfl : loopsOf (bodyOf Tryd.f105) = _)) (fun p => Eq.trans (b := ref04ILessB p.1 p.2) (by kernel_rfl) (ref04ILess_eq p.1 p.2).symm)

noncomputable def ref04SubE : Entry := mkE [.int .i64, .u256, .u256] [.u256, .int .i64] fun p => ref04Sub p.1 p.2.1 p.2.2

noncomputable def ref04SubX : Cx := mkCx Tryd.prog 20 globsF [(105, ref04ILessE), (130, ref04IGoodE), (143, ref04IPlusE)] [] []
theorem ref04SubC : CxOk ref04SubX (Glob globsF) := cx_ok (by kernel_rfl) (by kernel_rfl) ⟨ref04ILessK, ref04IGoodK, ref04IPlusK, trivial⟩
theorem ref04SubK : CallOk Tryd.prog (Glob globsF) 139 ref04SubE :=
  fun_ok (cx := ref04SubX) ref04SubC (fn := Tryd.f139) Tryd.func139 (by kernel_rfl) Tryd.ntmps139 Tryd.call139 _ _ _ (by kernel_rfl) (by kernel_rfl) (by kernel_rfl)
    (fun w0 hG => lall_of lall_nil (by kernel_rfl : loopsOf (bodyOf Tryd.f139) = _)) (fun p => Eq.trans (b := ref04SubB p.1 p.2.1 p.2.2) (by kernel_rfl) (ref04Sub_eq p.1 p.2.1 p.2.2).symm)

noncomputable def ref04ITimesE : Entry := mkE [.int .i64, .u256, .u256] [.u256] fun p => ref04ITimes p.1 p.2.1 p.2.2

noncomputable def ref04ITimesX : Cx := mkCx Tryd.prog 19 globsF [(135, ref01MulE), (136, ref04IFoldE)] [] []
theorem ref04ITimesC : CxOk ref04ITimesX (Glob globsF) := cx_ok (by kernel_rfl) (by kernel_rfl) ⟨ref01MulK, ref04IFoldK, trivial⟩
theorem ref04ITimesK : CallOk Tryd.prog (Glob globsF) 103 ref04ITimesE :=
  fun_ok (cx := ref04ITimesX) ref04ITimesC (fn := Tryd.f103) Tryd.func103 (by kernel_rfl) Tryd.ntmps103 Tryd.call103 _ _ _ (by kernel_rfl) (by kernel_rfl) (by kernel_rfl)
    (fun w0 hG => lall_of lall_nil (by kernel_rfl : loopsOf (bodyOf Tryd.f103) = _)) (fun p => Eq.trans (b := ref04ITimesB p.1 p.2.1 p.2.2) (by kernel_rfl) (ref04ITimes_eq p.1 p.2.1 p.2.2).symm)

noncomputable def ref04MulE : Entry := mkE [.int .i64, .u256, .u256] [.u256, .int .i64] fun p => ref04Mul p.1 p.2.1 p.2.2

noncomputable def ref04MulX : Cx := mkCx Tryd.prog 18 globsF [(103, ref04ITimesE), (130, ref04IGoodE)] [] []
theorem ref04MulC : CxOk ref04MulX (Glob globsF) := cx_ok (by kernel_rfl) (by kernel_rfl) ⟨ref04ITimesK, ref04IGoodK, trivial⟩
theorem ref04MulK : CallOk Tryd.prog (Glob globsF) 113 ref04MulE :=
  fun_ok (cx := ref04MulX) ref04MulC (fn := Tryd.f113) Tryd.func113 (by kernel_rfl) Tryd.ntmps113 Tryd.call113 _ _ _ (by kernel_rfl) (by kernel_rfl) (by kernel_rfl)
    (fun w0 hG => lall_of lall_nil (by kernel_rfl : loopsOf (bodyOf Tryd.f113) = _)) (fun p => Eq.trans (b := ref04MulB p.1 p.2.1 p.2.2) (by kernel_rfl) (ref04Mul_eq p.1 p.2.1 p.2.2).symm)

noncomputable def ref01BitE : Entry := mkE [.u256, .int .i64] [.int .i64] fun p => ref01Bit p.1 p.2

noncomputable def ref01BitX : Cx := mkCx Tryd.prog 21 globsF [] [] []
theorem ref01BitC : CxOk ref01BitX (Glob globsF) := cx_ok (by kernel_rfl) (by kernel_rfl) trivial
theorem ref01BitK : CallOk Tryd.prog (Glob globsF) 118 ref01BitE :=
  fun_ok (cx := ref01BitX) ref01BitC (fn := Tryd.f118) Tryd.func118 (by kernel_rfl) Tryd.ntmps118 Tryd.call118 _ _ _ (by kernel_rfl) (by kernel_rfl) (by kernel_rfl)
    (fun w0 hG => lall_of lall_nil (by kernel_rfl : loopsOf (bodyOf Tryd.f118) = _)) (fun p => Eq.trans (b := ref01BitB p.1 p.2) (by kernel_rfl) (ref01Bit_eq p.1 p.2).symm)

noncomputable def ref01LenE : Entry := mkE [.u256] [.int .i64] fun p => ref01Len p

def ref01LenL0Y : Lay := ⟨[(false, 1, .ptr 1001 [])], [(false, 3, .int .i64), (true, 1001, .u256)], [⟨[(1001, 1001)], []⟩]⟩
def ref01LenL0Z : List (Ex × Lay) := [(.ret, ⟨[], [(false, 2, .int .i64)], [⟨[], []⟩]⟩), (.exit 0, ⟨[], [], [⟨[], []⟩]⟩)]
noncomputable def ref01LenL0E : LEntry := mkL ref01LenL0Y ref01LenL0Z fun p => ref01LenL0 p.1 p.2
noncomputable def ref01LenX : Cx := mkCx Tryd.prog 14 globsF [(118, ref01BitE)] [(2, ref01LenL0E)] []
theorem ref01LenC : CxOk ref01LenX (Glob globsF) := cx_ok (by kernel_rfl) (by kernel_rfl) ⟨ref01BitK, trivial⟩
theorem ref01LenL0K (w0 : Ini) (hG : Glob globsF w0) : LoopOk ref01LenX w0 (loopAt Tryd.f134 0) ref01LenL0E :=
  loop_okH ref01LenC hG (loopAt Tryd.f134 0) (lall_of lall_nil (by kernel_rfl : loopsOf (loopAt Tryd.f134 0) = _))
    ref01LenL0Y ref01LenL0Z (by kernel_rfl) (fun p => ref01LenL0R p.1 p.2) (fun p => 1000) (fun p => by kernel_rfl) _ (fun p => ref01LenL0_eq p.1 p.2)
theorem ref01LenK : CallOk Tryd.prog (Glob globsF) 134 ref01LenE :=
  fun_ok (cx := ref01LenX) ref01LenC (fn := Tryd.f134) Tryd.func134 (by kernel_rfl) Tryd.ntmps134 Tryd.call134 _ _ _ (by kernel_rfl) (by kernel_rfl) (by kernel_rfl)
    (fun w0 hG => lall_of (lall_cut (b := loopAt Tryd.f134 0) (ref01LenL0K w0 hG) (by kernel_rfl) (lall_nil)) (by kernel_rfl : loopsOf (bodyOf Tryd.f134) = _)) (fun p => Eq.trans (b := ref01LenB p) (by kernel_rfl) (ref01Len_eq p).symm)

noncomputable def ref04IPowerE : Entry := mkE [.int .i64, .u256, .u256] [.u256] fun p => ref04IPower p.1 p.2.1 p.2.2

def ref04IPowerL0Y : Lay := ⟨[(false, 4, .ptr 1004 []), (false, 5, .ptr 1005 []), (false, 6, .ptr 1006 []), (false, 7, .ptr 1007 [])], [(false, 0, .int .i64), (false, 8, .int .i64), (true, 1004, .u256), (true, 1005, .u256), (true, 1006, .u256), (true, 1007, .u256)], [⟨[(1004, 1004), (1005, 1005), (1006, 1006), (1007, 1007)], []⟩]⟩
def ref04IPowerL0Z : List (Ex × Lay) := [(.exit 0, ⟨[(false, 6, .ptr 1006 []), (false, 7, .ptr 1007 [])], [(true, 1006, .u256), (true, 1007, .u256)], [⟨[(1006, 1006), (1007, 1007)], []⟩]⟩)]
noncomputable def ref04IPowerL0E : LEntry := mkL ref04IPowerL0Y ref04IPowerL0Z fun p => ref04IPowerL0 p.1 p.2.1 p.2.2.1 p.2.2.2.1 p.2.2.2.2.1 p.2.2.2.2.2
noncomputable def ref04IPowerX : Cx := mkCx Tryd.prog 30 globsF [(100, ref01FromE), (103, ref04ITimesE), (118, ref01BitE), (134, ref01LenE)] [(3, ref04IPowerL0E)] []
theorem ref04IPowerC : CxOk ref04IPowerX (Glob globsF) := cx_ok (by kernel_rfl) (by kernel_rfl) ⟨ref01FromK, ref04ITimesK, ref01BitK, ref01LenK, trivial⟩
theorem ref04IPowerL0K (w0 : Ini) (hG : Glob globsF w0) : LoopOk ref04IPowerX w0 (loopAt Tryd.f102 0) ref04IPowerL0E :=
  loop_okH ref04IPowerC hG (loopAt Tryd.f102 0) (lall_of lall_nil (by kernel_rfl : loopsOf (loopAt Tryd.f102 0) = _))
    ref04IPowerL0Y ref04IPowerL0Z (by kernel_rfl) (fun p => ref04IPowerL0R p.1 p.2.1 p.2.2.1 p.2.2.2.1 p.2.2.2.2.1 p.2.2.2.2.2) (fun p => 1000) (fun p => by kernel_rfl) _ (fun p => ref04IPowerL0_eq p.1 p.2.1 p.2.2.1 p.2.2.2.1 p.2.2.2.2.1 p.2.2.2.2.2)
theorem ref04IPowerK : CallOk Tryd.prog (Glob globsF) 102 ref04IPowerE :=
  fun_ok (cx := ref04IPowerX) ref04IPowerC (fn := Tryd.f102) Tryd.func102 (by kernel_rfl) Tryd.ntmps102 Tryd.call102 _ _ _ (by kernel_rfl) (by kernel_rfl) (by kernel_rfl)
    (fun w0 hG => lall_of (lall_cut (b := loopAt Tryd.f102 0) (ref04IPowerL0K w0 hG) (by kernel_rfl) (lall_nil)) (by kernel_rfl : loopsOf (bodyOf Tryd.f102) = _)) (fun p => Eq.trans (b := ref04IPowerB p.1 p.2.1 p.2.2) (by kernel_rfl) (ref04IPower_eq p.1 p.2.1 p.2.2).symm)

noncomputable def ref04InverseE : Entry := mkE [.int .i64, .u256] [.u256, .int .i64] fun p => ref04Inverse p.1 p.2

noncomputable def ref04InverseX : Cx := mkCx Tryd.prog 31 globsF [(99, ref04IModulusE), (100, ref01FromE), (102, ref04IPowerE), (104, ref04IBelowE), (130, ref04IGoodE), (137, ref01SubE)] [] []
theorem ref04InverseC : CxOk ref04InverseX (Glob globsF) := cx_ok (by kernel_rfl) (by kernel_rfl) ⟨ref04IModulusK, ref01FromK, ref04IPowerK, ref04IBelowK, ref04IGoodK, ref01SubK, trivial⟩
theorem ref04InverseK : CallOk Tryd.prog (Glob globsF) 119 ref04InverseE :=
  fun_ok (cx := ref04InverseX) ref04InverseC (fn := Tryd.f119) Tryd.func119 (by kernel_rfl) Tryd.ntmps119 Tryd.call119 _ _ _ (by kernel_rfl) (by kernel_rfl) (by kernel_rfl)
    (fun w0 hG => lall_of lall_nil (by kernel_rfl : loopsOf (bodyOf Tryd.f119) = _)) (fun p => Eq.trans (b := ref04InverseB p.1 p.2) (by kernel_rfl) (ref04Inverse_eq p.1 p.2).symm)

noncomputable def ref01IWithE : Entry := mkE [.u256, .int .i64] [.u256] fun p => ref01IWith p.1 p.2

noncomputable def ref01IWithX : Cx := mkCx Tryd.prog 18 globsF [] [] []
theorem ref01IWithC : CxOk ref01IWithX (Glob globsF) := cx_ok (by kernel_rfl) (by kernel_rfl) trivial
theorem ref01IWithK : CallOk Tryd.prog (Glob globsF) 142 ref01IWithE :=
  fun_ok (cx := ref01IWithX) ref01IWithC (fn := Tryd.f142) Tryd.func142 (by kernel_rfl) Tryd.ntmps142 Tryd.call142 _ _ _ (by kernel_rfl) (by kernel_rfl) (by kernel_rfl)
    (fun w0 hG => lall_of lall_nil (by kernel_rfl : loopsOf (bodyOf Tryd.f142) = _)) (fun p => Eq.trans (b := ref01IWithB p.1 p.2) (by kernel_rfl) (ref01IWith_eq p.1 p.2).symm)

noncomputable def ref01ShlE : Entry := mkE [.u256, .int .i64] [.u256] fun p => ref01Shl p.1 p.2

def ref01ShlL0Y : Lay := ⟨[(false, 2, .ptr 1002 []), (false, 4, .ptr 1004 []), (false, 5, .ptr 1005 [])], [(false, 1, .int .i64), (false, 6, .int .i64), (true, 1002, .u256), (true, 1004, .u256), (true, 1005, .u256)], [⟨[(1002, 1002), (1004, 1004), (1005, 1005)], []⟩]⟩
def ref01ShlL0Z : List (Ex × Lay) := [(.exit 0, ⟨[(false, 4, .ptr 1004 []), (false, 5, .ptr 1005 [])], [(true, 1004, .u256), (true, 1005, .u256)], [⟨[(1004, 1004), (1005, 1005)], []⟩]⟩)]
noncomputable def ref01ShlL0E : LEntry := mkL ref01ShlL0Y ref01ShlL0Z fun p => ref01ShlL0 p.1 p.2.1 p.2.2.1 p.2.2.2.1 p.2.2.2.2
noncomputable def ref01ShlX : Cx := mkCx Tryd.prog 28 globsF [(118, ref01BitE), (142, ref01IWithE)] [(5, ref01ShlL0E)] []
theorem ref01ShlC : CxOk ref01ShlX (Glob globsF) := cx_ok (by kernel_rfl) (by kernel_rfl) ⟨ref01BitK, ref01IWithK, trivial⟩
theorem ref01ShlL0K (w0 : Ini) (hG : Glob globsF w0) : LoopOk ref01ShlX w0 (loopAt Tryd.f133 0) ref01ShlL0E :=
  loop_okH ref01ShlC hG (loopAt Tryd.f133 0) (lall_of lall_nil (by kernel_rfl : loopsOf (loopAt Tryd.f133 0) = _))
    ref01ShlL0Y ref01ShlL0Z (by kernel_rfl) (fun p => ref01ShlL0R p.1 p.2.1 p.2.2.1 p.2.2.2.1 p.2.2.2.2) (fun p => 1000) (fun p => by kernel_rfl) _ (fun p => ref01ShlL0_eq p.1 p.2.1 p.2.2.1 p.2.2.2.1 p.2.2.2.2)
theorem ref01ShlK : CallOk Tryd.prog (Glob globsF) 133 ref01ShlE :=
  fun_ok (cx := ref01ShlX) ref01ShlC (fn := Tryd.f133) Tryd.func133 (by kernel_rfl) Tryd.ntmps133 Tryd.call133 _ _ _ (by kernel_rfl) (by kernel_rfl) (by kernel_rfl)
    (fun w0 hG => lall_of (lall_cut (b := loopAt Tryd.f133 0) (ref01ShlL0K w0 hG) (by kernel_rfl) (lall_nil)) (by kernel_rfl : loopsOf (bodyOf Tryd.f133) = _)) (fun p => Eq.trans (b := ref01ShlB p.1 p.2) (by kernel_rfl) (ref01Shl_eq p.1 p.2).symm)

noncomputable def ref01ShrE : Entry := mkE [.u256, .int .i64] [.u256] fun p => ref01Shr p.1 p.2

noncomputable def ref01ShrX : Cx := mkCx Tryd.prog 16 globsF [(133, ref01ShlE)] [] []
theorem ref01ShrC : CxOk ref01ShrX (Glob globsF) := cx_ok (by kernel_rfl) (by kernel_rfl) ⟨ref01ShlK, trivial⟩
theorem ref01ShrK : CallOk Tryd.prog (Glob globsF) 101 ref01ShrE :=
  fun_ok (cx := ref01ShrX) ref01ShrC (fn := Tryd.f101) Tryd.func101 (by kernel_rfl) Tryd.ntmps101 Tryd.call101 _ _ _ (by kernel_rfl) (by kernel_rfl) (by kernel_rfl)
    (fun w0 hG => lall_of lall_nil (by kernel_rfl : loopsOf (bodyOf Tryd.f101) = _)) (fun p => Eq.trans (b := ref01ShrB p.1 p.2) (by kernel_rfl) (ref01Shr_eq p.1 p.2).symm)

noncomputable def ref04RootE : Entry := mkE [.u256] [.u256, .int .i64] fun p => ref04Root p

noncomputable def ref04RootX : Cx := mkCx Tryd.prog 33 globsF [(98, ref01AddE), (99, ref04IModulusE), (100, ref01FromE), (101, ref01ShrE), (102, ref04IPowerE), (103, ref04ITimesE), (104, ref04IBelowE), (105, ref04ILessE)] [] []
theorem ref04RootC : CxOk ref04RootX (Glob globsF) := cx_ok (by kernel_rfl) (by kernel_rfl) ⟨ref01AddK, ref04IModulusK, ref01FromK, ref01ShrK, ref04IPowerK, ref04ITimesK, ref04IBelowK, ref04ILessK, trivial⟩
theorem ref04RootK : CallOk Tryd.prog (Glob globsF) 65 ref04RootE :=
  fun_ok (cx := ref04RootX) ref04RootC (fn := Tryd.f65) Tryd.func65 (by kernel_rfl) Tryd.ntmps65 Tryd.call65 _ _ _ (by kernel_rfl) (by kernel_rfl) (by kernel_rfl)
    (fun w0 hG => lall_of lall_nil (by kernel_rfl : loopsOf (bodyOf Tryd.f65) = _)) (fun p => Eq.trans (b := ref04RootB p) (by kernel_rfl) (ref04Root_eq p).symm)

noncomputable def u256GetE : Entry := mkE [.isl false (.int .u8)] [.u256, .int .i64] fun p => u256Get p

def u256GetL0Y : Lay := ⟨[(false, 2, .ptr 1002 []), (false, 4, .ptr 1004 [])], [(false, 0, .isl false (.int .u8)), (false, 12, .int .i64), (false, 13, .int .i64), (true, 1002, .u256), (true, 1004, .u256)], [⟨[(1002, 1002), (1004, 1004)], []⟩]⟩
def u256GetL0Z : List (Ex × Lay) := [(.exit 0, ⟨[(false, 2, .ptr 1002 []), (false, 4, .ptr 1004 [])], [(true, 1002, .u256), (true, 1004, .u256)], [⟨[(1002, 1002), (1004, 1004)], []⟩]⟩)]
noncomputable def u256GetL0E : LEntry := mkL u256GetL0Y u256GetL0Z fun p => u256GetL0 p.1 p.2.1 p.2.2.1 p.2.2.2.1 p.2.2.2.2
noncomputable def u256GetX : Cx := mkCx Tryd.prog 38 globsF [] [(5, u256GetL0E)] []
theorem u256GetC : CxOk u256GetX (Glob globsF) := cx_ok (by kernel_rfl) (by kernel_rfl) trivial
theorem u256GetL0K (w0 : Ini) (hG : Glob globsF w0) : LoopOk u256GetX w0 (loopAt Tryd.f73 0) u256GetL0E :=
  loop_okH u256GetC hG (loopAt Tryd.f73 0) (lall_of lall_nil (by kernel_rfl : loopsOf (loopAt Tryd.f73 0) = _))
    u256GetL0Y u256GetL0Z (by kernel_rfl) (fun p => u256GetL0R p.1 p.2.1 p.2.2.1 p.2.2.2.1 p.2.2.2.2) (fun p => 1000) (fun p => by kernel_rfl) _ (fun p => u256GetL0_eq p.1 p.2.1 p.2.2.1 p.2.2.2.1 p.2.2.2.2)
theorem u256GetK : CallOk Tryd.prog (Glob globsF) 73 u256GetE :=
  fun_ok (cx := u256GetX) u256GetC (fn := Tryd.f73) Tryd.func73 (by kernel_rfl) Tryd.ntmps73 Tryd.call73 _ _ _ (by kernel_rfl) (by kernel_rfl) (by kernel_rfl)
    (fun w0 hG => lall_of (lall_cut (b := loopAt Tryd.f73 0) (u256GetL0K w0 hG) (by kernel_rfl) (lall_nil)) (by kernel_rfl : loopsOf (bodyOf Tryd.f73) = _)) (fun p => Eq.trans (b := u256GetB p) (by kernel_rfl) (u256Get_eq p).symm)

noncomputable def u256PutE : Entry := mkE [.u256] [.arr (.int .u8) 32] fun p => u256Put p

def u256PutL0Y : Lay := ⟨[(false, 1, .ptr 1001 []), (false, 2, .ptr 1002 []), (false, 3, .ptr 1003 [])], [(false, 5, .int .i64), (true, 1001, .u256), (true, 1002, .arr (.int .u8) 32), (true, 1003, .arr (.int .u8) 32)], [⟨[(1001, 1001), (1002, 1002), (1003, 1003)], []⟩]⟩
def u256PutL0Z : List (Ex × Lay) := [(.exit 0, ⟨[(false, 2, .ptr 1002 []), (false, 3, .ptr 1003 [])], [(true, 1002, .arr (.int .u8) 32), (true, 1003, .arr (.int .u8) 32)], [⟨[(1002, 1002), (1003, 1003)], []⟩]⟩)]
noncomputable def u256PutL0E : LEntry := mkL u256PutL0Y u256PutL0Z fun p => u256PutL0 p.1 p.2.1 p.2.2.1 p.2.2.2
noncomputable def u256PutX : Cx := mkCx Tryd.prog 22 globsF [] [(3, u256PutL0E)] []
theorem u256PutC : CxOk u256PutX (Glob globsF) := cx_ok (by kernel_rfl) (by kernel_rfl) trivial
theorem u256PutL0K (w0 : Ini) (hG : Glob globsF w0) : LoopOk u256PutX w0 (loopAt Tryd.f56 0) u256PutL0E :=
  loop_okH u256PutC hG (loopAt Tryd.f56 0) (lall_of lall_nil (by kernel_rfl : loopsOf (loopAt Tryd.f56 0) = _))
    u256PutL0Y u256PutL0Z (by kernel_rfl) (fun p => u256PutL0R p.1 p.2.1 p.2.2.1 p.2.2.2) (fun p => 1000) (fun p => by kernel_rfl) _ (fun p => u256PutL0_eq p.1 p.2.1 p.2.2.1 p.2.2.2)
theorem u256PutK : CallOk Tryd.prog (Glob globsF) 56 u256PutE :=
  fun_ok (cx := u256PutX) u256PutC (fn := Tryd.f56) Tryd.func56 (by kernel_rfl) Tryd.ntmps56 Tryd.call56 _ _ _ (by kernel_rfl) (by kernel_rfl) (by kernel_rfl)
    (fun w0 hG => lall_of (lall_cut (b := loopAt Tryd.f56 0) (u256PutL0K w0 hG) (by kernel_rfl) (lall_nil)) (by kernel_rfl : loopsOf (bodyOf Tryd.f56) = _)) (fun p => Eq.trans (b := u256PutB p) (by kernel_rfl) (u256Put_eq p).symm)

noncomputable def u256OrE : Entry := mkE [.u256, .u256] [.u256] fun p => u256Or p.1 p.2

noncomputable def u256OrX : Cx := mkCx Tryd.prog 26 globsF [] [] []
theorem u256OrC : CxOk u256OrX (Glob globsF) := cx_ok (by kernel_rfl) (by kernel_rfl) trivial
theorem u256OrK : CallOk Tryd.prog (Glob globsF) 52 u256OrE :=
  fun_ok (cx := u256OrX) u256OrC (fn := Tryd.f52) Tryd.func52 (by kernel_rfl) Tryd.ntmps52 Tryd.call52 _ _ _ (by kernel_rfl) (by kernel_rfl) (by kernel_rfl)
    (fun w0 hG => lall_of lall_nil (by kernel_rfl : loopsOf (bodyOf Tryd.f52) = _)) (fun p => Eq.trans (b := u256OrB p.1 p.2) (by kernel_rfl) (u256Or_eq p.1 p.2).symm)

noncomputable def u256IDivideE : Entry := mkE [.u256, .u256, .u256] [.u256, .u256, .u256] fun p => u256IDivide p.1 p.2.1 p.2.2

def u256IDivideL0Y : Lay := ⟨[(false, 3, .ptr 1003 []), (false, 4, .ptr 1004 []), (false, 5, .ptr 1005 []), (false, 6, .ptr 1006 []), (false, 7, .ptr 1007 []), (false, 8, .ptr 1008 [])], [(false, 9, .int .i64), (true, 1003, .u256), (true, 1004, .u256), (true, 1005, .u256), (true, 1006, .u256), (true, 1007, .u256), (true, 1008, .u256)], [⟨[(1003, 1003), (1004, 1004), (1005, 1005), (1006, 1006), (1007, 1007), (1008, 1008)], []⟩]⟩
def u256IDivideL0Z : List (Ex × Lay) := [(.exit 0, ⟨[(false, 6, .ptr 1006 []), (false, 7, .ptr 1007 []), (false, 8, .ptr 1008 [])], [(true, 1006, .u256), (true, 1007, .u256), (true, 1008, .u256)], [⟨[(1006, 1006), (1007, 1007), (1008, 1008)], []⟩]⟩)]
noncomputable def u256IDivideL0E : LEntry := mkL u256IDivideL0Y u256IDivideL0Z fun p => u256IDivideL0 p.1 p.2.1 p.2.2.1 p.2.2.2.1 p.2.2.2.2.1 p.2.2.2.2.2.1 p.2.2.2.2.2.2
noncomputable def u256IDivideX : Cx := mkCx Tryd.prog 70 globsF [(51, u256ShlE), (58, u256CmpE), (87, u256SubE)] [(2, u256IDivideL0E)] []
theorem u256IDivideC : CxOk u256IDivideX (Glob globsF) := cx_ok (by kernel_rfl) (by kernel_rfl) ⟨u256ShlK, u256CmpK, u256SubK, trivial⟩
theorem u256IDivideL0K (w0 : Ini) (hG : Glob globsF w0) : LoopOk u256IDivideX w0 (loopAt Tryd.f121 0) u256IDivideL0E :=
  loop_okH u256IDivideC hG (loopAt Tryd.f121 0) (lall_of lall_nil (by kernel_rfl : loopsOf (loopAt Tryd.f121 0) = _))
    u256IDivideL0Y u256IDivideL0Z (by kernel_rfl) (fun p => u256IDivideL0R p.1 p.2.1 p.2.2.1 p.2.2.2.1 p.2.2.2.2.1 p.2.2.2.2.2.1 p.2.2.2.2.2.2) (fun p => 1000) (fun p => by kernel_rfl) _ (fun p => u256IDivideL0_eq p.1 p.2.1 p.2.2.1 p.2.2.2.1 p.2.2.2.2.1 p.2.2.2.2.2.1 p.2.2.2.2.2.2)
theorem u256IDivideK : CallOk Tryd.prog (Glob globsF) 121 u256IDivideE :=
  fun_ok (cx := u256IDivideX) u256IDivideC (fn := Tryd.f121) Tryd.func121 (by kernel_rfl) Tryd.ntmps121 Tryd.call121 _ _ _ (by kernel_rfl) (by kernel_rfl) (by kernel_rfl)
    (fun w0 hG => lall_of (lall_cut (b := loopAt Tryd.f121 0) (u256IDivideL0K w0 hG) (by kernel_rfl) (lall_nil)) (by kernel_rfl : loopsOf (bodyOf Tryd.f121) = _)) (fun p => Eq.trans (b := u256IDivideB p.1 p.2.1 p.2.2) (by kernel_rfl) (u256IDivide_eq p.1 p.2.1 p.2.2).symm)

noncomputable def u256ReduceE : Entry := mkE [.u256, .u256, .u256] [.u256, .int .i64] fun p => u256Reduce p.1 p.2.1 p.2.2

noncomputable def u256ReduceX : Cx := mkCx Tryd.prog 24 globsF [(121, u256IDivideE)] [] []
theorem u256ReduceC : CxOk u256ReduceX (Glob globsF) := cx_ok (by kernel_rfl) (by kernel_rfl) ⟨u256IDivideK, trivial⟩
theorem u256ReduceK : CallOk Tryd.prog (Glob globsF) 86 u256ReduceE :=
  fun_ok (cx := u256ReduceX) u256ReduceC (fn := Tryd.f86) Tryd.func86 (by kernel_rfl) Tryd.ntmps86 Tryd.call86 _ _ _ (by kernel_rfl) (by kernel_rfl) (by kernel_rfl)
    (fun w0 hG => lall_of lall_nil (by kernel_rfl : loopsOf (bodyOf Tryd.f86) = _)) (fun p => Eq.trans (b := u256ReduceB p.1 p.2.1 p.2.2) (by kernel_rfl) (u256Reduce_eq p.1 p.2.1 p.2.2).symm)

noncomputable def u256AddModE : Entry := mkE [.u256, .u256, .u256] [.u256, .int .i64] fun p => u256AddMod p.1 p.2.1 p.2.2

noncomputable def u256AddModX : Cx := mkCx Tryd.prog 23 globsF [(53, u256FromE), (85, u256AddE), (86, u256ReduceE)] [] []
theorem u256AddModC : CxOk u256AddModX (Glob globsF) := cx_ok (by kernel_rfl) (by kernel_rfl) ⟨u256FromK, u256AddK, u256ReduceK, trivial⟩
theorem u256AddModK : CallOk Tryd.prog (Glob globsF) 55 u256AddModE :=
  fun_ok (cx := u256AddModX) u256AddModC (fn := Tryd.f55) Tryd.func55 (by kernel_rfl) Tryd.ntmps55 Tryd.call55 _ _ _ (by kernel_rfl) (by kernel_rfl) (by kernel_rfl)
    (fun w0 hG => lall_of lall_nil (by kernel_rfl : loopsOf (bodyOf Tryd.f55) = _)) (fun p => Eq.trans (b := u256AddModB p.1 p.2.1 p.2.2) (by kernel_rfl) (u256AddMod_eq p.1 p.2.1 p.2.2).symm)

noncomputable def ref01GetE : Entry := mkE [.isl false (.int .u8)] [.u256, .int .i64] fun p => ref01Get p

def ref01GetL0Y : Lay := ⟨[(false, 2, .ptr 1002 []), (false, 4, .ptr 1004 [])], [(false, 0, .isl false (.int .u8)), (false, 5, .int .i64), (true, 1002, .u256), (true, 1004, .u256)], [⟨[(1002, 1002), (1004, 1004)], []⟩]⟩
def ref01GetL0Z : List (Ex × Lay) := [(.exit 0, ⟨[(false, 2, .ptr 1002 []), (false, 4, .ptr 1004 [])], [(true, 1002, .u256), (true, 1004, .u256)], [⟨[(1002, 1002), (1004, 1004)], []⟩]⟩)]
noncomputable def ref01GetL0E : LEntry := mkL ref01GetL0Y ref01GetL0Z fun p => ref01GetL0 p.1 p.2.1 p.2.2.1 p.2.2.2
noncomputable def ref01GetX : Cx := mkCx Tryd.prog 41 globsF [] [(5, ref01GetL0E)] []
theorem ref01GetC : CxOk ref01GetX (Glob globsF) := cx_ok (by kernel_rfl) (by kernel_rfl) trivial
theorem ref01GetL0K (w0 : Ini) (hG : Glob globsF w0) : LoopOk ref01GetX w0 (loopAt Tryd.f74 0) ref01GetL0E :=
  loop_okH ref01GetC hG (loopAt Tryd.f74 0) (lall_of lall_nil (by kernel_rfl : loopsOf (loopAt Tryd.f74 0) = _))
    ref01GetL0Y ref01GetL0Z (by kernel_rfl) (fun p => ref01GetL0R p.1 p.2.1 p.2.2.1 p.2.2.2) (fun p => 1000) (fun p => by kernel_rfl) _ (fun p => ref01GetL0_eq p.1 p.2.1 p.2.2.1 p.2.2.2)
theorem ref01GetK : CallOk Tryd.prog (Glob globsF) 74 ref01GetE :=
  fun_ok (cx := ref01GetX) ref01GetC (fn := Tryd.f74) Tryd.func74 (by kernel_rfl) Tryd.ntmps74 Tryd.call74 _ _ _ (by kernel_rfl) (by kernel_rfl) (by kernel_rfl)
    (fun w0 hG => lall_of (lall_cut (b := loopAt Tryd.f74 0) (ref01GetL0K w0 hG) (by kernel_rfl) (lall_nil)) (by kernel_rfl : loopsOf (bodyOf Tryd.f74) = _)) (fun p => Eq.trans (b := ref01GetB p) (by kernel_rfl) (ref01Get_eq p).symm)

noncomputable def ref01PutE : Entry := mkE [.u256] [.arr (.int .u8) 32] fun p => ref01Put p

def ref01PutL0Y : Lay := ⟨[(false, 1, .ptr 1001 []), (false, 2, .ptr 1002 []), (false, 3, .ptr 1003 [])], [(false, 4, .int .i64), (true, 1001, .u256), (true, 1002, .arr (.int .u8) 32), (true, 1003, .arr (.int .u8) 32)], [⟨[(1001, 1001), (1002, 1002), (1003, 1003)], []⟩]⟩
def ref01PutL0Z : List (Ex × Lay) := [(.exit 0, ⟨[(false, 2, .ptr 1002 []), (false, 3, .ptr 1003 [])], [(true, 1002, .arr (.int .u8) 32), (true, 1003, .arr (.int .u8) 32)], [⟨[(1002, 1002), (1003, 1003)], []⟩]⟩)]
noncomputable def ref01PutL0E : LEntry := mkL ref01PutL0Y ref01PutL0Z fun p => ref01PutL0 p.1 p.2.1 p.2.2.1 p.2.2.2
noncomputable def ref01PutX : Cx := mkCx Tryd.prog 23 globsF [] [(3, ref01PutL0E)] []
theorem ref01PutC : CxOk ref01PutX (Glob globsF) := cx_ok (by kernel_rfl) (by kernel_rfl) trivial
theorem ref01PutL0K (w0 : Ini) (hG : Glob globsF w0) : LoopOk ref01PutX w0 (loopAt Tryd.f57 0) ref01PutL0E :=
  loop_okH ref01PutC hG (loopAt Tryd.f57 0) (lall_of lall_nil (by kernel_rfl : loopsOf (loopAt Tryd.f57 0) = _))
    ref01PutL0Y ref01PutL0Z (by kernel_rfl) (fun p => ref01PutL0R p.1 p.2.1 p.2.2.1 p.2.2.2) (fun p => 1000) (fun p => by kernel_rfl) _ (fun p => ref01PutL0_eq p.1 p.2.1 p.2.2.1 p.2.2.2)
theorem ref01PutK : CallOk Tryd.prog (Glob globsF) 57 ref01PutE :=
  fun_ok (cx := ref01PutX) ref01PutC (fn := Tryd.f57) Tryd.func57 (by kernel_rfl) Tryd.ntmps57 Tryd.call57 _ _ _ (by kernel_rfl) (by kernel_rfl) (by kernel_rfl)
    (fun w0 hG => lall_of (lall_cut (b := loopAt Tryd.f57 0) (ref01PutL0K w0 hG) (by kernel_rfl) (lall_nil)) (by kernel_rfl : loopsOf (bodyOf Tryd.f57) = _)) (fun p => Eq.trans (b := ref01PutB p) (by kernel_rfl) (ref01Put_eq p).symm)

end Go.Sy
