/- The links: each typed function is what the code computes. Printed by a program. -/
import Derived.Test.YtfappeeggccicaaDoorSyVE3
import Derived.Test.YtfappeeggccicaaDoorSyWE
set_option linter.unusedVariables false
set_option maxRecDepth 100000
noncomputable section
namespace Go.Sy
open Go Go.Proofs
def ecdsaPackI : Lay := ⟨[], [(false, 0, .st [.u256, .u256, .bool])], [⟨[], []⟩]⟩
def ecdsaPackO : Lay := ⟨[(false, 0, .own 1000 (.int .u8))], [(false, 1, .int .i64), (true, 1000, .row (.int .u8))], [⟨[], [(false, 0, [], 1000)]⟩, ⟨[(1000, 1026)], []⟩]⟩
def ecdsaPackE : Entry := mkB 1 2 0 [false] ecdsaPackI ecdsaPackO (fun p => ecdsaPack p)
def ecdsaPackX : Cx := mkCx Tryd.prog 27 globsF [(19, ecdsaCheckE), (38, u256PutE)] [] []
theorem ecdsaPackC : CxOk ecdsaPackX (Glob globsF) := cx_ok (by kernel_rfl) (by kernel_rfl) ⟨ecdsaCheckK, u256PutK, trivial⟩
theorem ecdsaPackK : CallOk Tryd.prog (Glob globsF) 9 ecdsaPackE :=
 fun_okB (cx := ecdsaPackX) ecdsaPackC (fn := Tryd.f9) Tryd.func9 (by kernel_rfl) Tryd.ntmps9 Tryd.call9 _ _ _ _ _ _ _ (by kernel_rfl) (by kernel_rfl) (by kernel_rfl)
  (fun w0 hG => lall_of lall_nil (by kernel_rfl : loopsOf (bodyOf Tryd.f9) = _)) (fun p => Eq.trans (b := ecdsaPackB p) (by kernel_rfl) (ecdsaPack_eq p).symm)
def ecdsaUnpackE : Entry := mkE [.isl false (.int .u8)] [.st [.u256, .u256, .bool], .int .i64] fun p => ecdsaUnpack p
def ecdsaUnpackX : Cx := mkCx Tryd.prog 44 globsF [(19, ecdsaCheckE), (41, u256GetE)] [] []
theorem ecdsaUnpackC : CxOk ecdsaUnpackX (Glob globsF) := cx_ok (by kernel_rfl) (by kernel_rfl) ⟨ecdsaCheckK, u256GetK, trivial⟩
theorem ecdsaUnpackK : CallOk Tryd.prog (Glob globsF) 14 ecdsaUnpackE :=
 fun_ok (cx := ecdsaUnpackX) ecdsaUnpackC (fn := Tryd.f14) Tryd.func14 (by kernel_rfl) Tryd.ntmps14 Tryd.call14 _ _ _ (by kernel_rfl) (by kernel_rfl) (by kernel_rfl)
  (fun w0 hG => lall_of lall_nil (by kernel_rfl : loopsOf (bodyOf Tryd.f14) = _)) (fun p => Eq.trans (b := ecdsaUnpackB p) (by kernel_rfl) (ecdsaUnpack_eq p).symm)
def ref06PackI : Lay := ⟨[], [(false, 0, .st [.u256, .u256, .bool])], [⟨[], []⟩]⟩
def ref06PackO : Lay := ⟨[(false, 0, .own 1000 (.int .u8))], [(false, 1, .int .i64), (true, 1000, .row (.int .u8))], [⟨[], [(false, 0, [], 1000)]⟩, ⟨[(1000, 1050)], []⟩]⟩
def ref06PackE : Entry := mkB 1 2 0 [false] ref06PackI ref06PackO (fun p => ref06Pack p)
def ref06PackL0Y : Lay := ⟨[(false, 1, .ptr 1001 []), (false, 5, .own 1050 (.int .u8)), (false, 6, .ptr 1006 []), (false, 7, .ptr 1007 [])], [(false, 8, .int .i64), (true, 1001, .st [.u256, .u256, .bool]), (true, 1006, .arr (.int .u8) 32), (true, 1007, .arr (.int .u8) 32), (true, 1050, .row (.int .u8))], [⟨[(1001, 1001), (1006, 1006), (1007, 1007)], [(false, 5, [], 1050)]⟩, ⟨[(1001, 1001), (1050, 1030), (1006, 1006), (1007, 1007)], []⟩]⟩
def ref06PackL0Z : List (Ex × Lay) := [(.exit 0, ⟨[(false, 1, .ptr 1001 []), (false, 5, .own 1050 (.int .u8)), (false, 7, .ptr 1007 [])], [(true, 1001, .st [.u256, .u256, .bool]), (true, 1007, .arr (.int .u8) 32), (true, 1050, .row (.int .u8))], [⟨[(1001, 1001), (1050, 1050), (1007, 1007)], []⟩]⟩)]
def ref06PackL0E : LEntry := mkL ref06PackL0Y ref06PackL0Z fun p => ref06PackL0 p.1 p.2.1 p.2.2.1 p.2.2.2.1 p.2.2.2.2
def ref06PackL1Y : Lay := ⟨[(false, 1, .ptr 1001 []), (false, 5, .own 1050 (.int .u8)), (false, 7, .ptr 1007 [])], [(false, 9, .int .i64), (true, 1001, .st [.u256, .u256, .bool]), (true, 1007, .arr (.int .u8) 32), (true, 1050, .row (.int .u8))], [⟨[(1001, 1001), (1050, 1050), (1007, 1007)], []⟩, ⟨[(1001, 1001), (1050, 1040), (1007, 1007)], []⟩]⟩
def ref06PackL1Z : List (Ex × Lay) := [(.exit 2, ⟨[(false, 1, .ptr 1001 []), (false, 5, .own 1050 (.int .u8))], [(true, 1001, .st [.u256, .u256, .bool]), (true, 1050, .row (.int .u8))], [⟨[(1001, 1001), (1050, 1050)], []⟩]⟩)]
def ref06PackL1E : LEntry := mkL ref06PackL1Y ref06PackL1Z fun p => ref06PackL1 p.1 p.2.1 p.2.2.1 p.2.2.2
def ref06PackX : Cx := mkCx Tryd.prog 50 globsF [(39, ref06CheckE), (40, ref01PutE)] [(8, ref06PackL0E), (12, ref06PackL1E)] []
theorem ref06PackC : CxOk ref06PackX (Glob globsF) := cx_ok (by kernel_rfl) (by kernel_rfl) ⟨ref06CheckK, ref01PutK, trivial⟩
theorem ref06PackL0K (w0 : Ini) (hG : Glob globsF w0) : LoopOk ref06PackX w0 (loopAt Tryd.f10 0) ref06PackL0E :=
 loop_okH ref06PackC hG (loopAt Tryd.f10 0) (lall_of lall_nil (by kernel_rfl : loopsOf (loopAt Tryd.f10 0) = _))
  ref06PackL0Y ref06PackL0Z (by kernel_rfl) (fun p => ref06PackL0R p.1 p.2.1 p.2.2.1 p.2.2.2.1 p.2.2.2.2) (fun p => 1000) (fun p => by kernel_rfl) _ (fun p => ref06PackL0_eq p.1 p.2.1 p.2.2.1 p.2.2.2.1 p.2.2.2.2)
theorem ref06PackL1K (w0 : Ini) (hG : Glob globsF w0) : LoopOk ref06PackX w0 (loopAt Tryd.f10 1) ref06PackL1E :=
 loop_okH ref06PackC hG (loopAt Tryd.f10 1) (lall_of lall_nil (by kernel_rfl : loopsOf (loopAt Tryd.f10 1) = _))
  ref06PackL1Y ref06PackL1Z (by kernel_rfl) (fun p => ref06PackL1R p.1 p.2.1 p.2.2.1 p.2.2.2) (fun p => 1000) (fun p => by kernel_rfl) _ (fun p => ref06PackL1_eq p.1 p.2.1 p.2.2.1 p.2.2.2)
theorem ref06PackK : CallOk Tryd.prog (Glob globsF) 10 ref06PackE :=
 fun_okB (cx := ref06PackX) ref06PackC (fn := Tryd.f10) Tryd.func10 (by kernel_rfl) Tryd.ntmps10 Tryd.call10 _ _ _ _ _ _ _ (by kernel_rfl) (by kernel_rfl) (by kernel_rfl)
  (fun w0 hG => lall_of (lall_cut (b := loopAt Tryd.f10 0) (ref06PackL0K w0 hG) (by kernel_rfl) (lall_cut (b := loopAt Tryd.f10 1) (ref06PackL1K w0 hG) (by kernel_rfl) (lall_nil))) (by kernel_rfl : loopsOf (bodyOf Tryd.f10) = _)) (fun p => Eq.trans (b := ref06PackB p) (by kernel_rfl) (ref06Pack_eq p).symm)
def ref06UnpackE : Entry := mkE [.isl false (.int .u8)] [.st [.u256, .u256, .bool], .int .i64] fun p => ref06Unpack p
def ref06UnpackL0Y : Lay := ⟨[(false, 2, .ptr 1002 []), (false, 4, .own 1058 (.int .u8))], [(false, 0, .isl false (.int .u8)), (false, 5, .int .i64), (true, 1002, .st [.u256, .u256, .bool]), (true, 1058, .row (.int .u8))], [⟨[(1002, 1002)], [(false, 4, [], 1058)]⟩, ⟨[(1002, 1002), (1058, 1026)], []⟩]⟩
def ref06UnpackL0Z : List (Ex × Lay) := [(.exit 0, ⟨[(false, 2, .ptr 1002 []), (false, 4, .own 1058 (.int .u8))], [(false, 0, .isl false (.int .u8)), (true, 1002, .st [.u256, .u256, .bool]), (true, 1058, .row (.int .u8))], [⟨[(1002, 1002), (1058, 1058)], []⟩]⟩)]
def ref06UnpackL0E : LEntry := mkL ref06UnpackL0Y ref06UnpackL0Z fun p => ref06UnpackL0 p.1 p.2.1 p.2.2.1 p.2.2.2
def ref06UnpackX : Cx := mkCx Tryd.prog 58 globsF [(39, ref06CheckE), (42, ref01GetE)] [(5, ref06UnpackL0E)] []
theorem ref06UnpackC : CxOk ref06UnpackX (Glob globsF) := cx_ok (by kernel_rfl) (by kernel_rfl) ⟨ref06CheckK, ref01GetK, trivial⟩
theorem ref06UnpackL0K (w0 : Ini) (hG : Glob globsF w0) : LoopOk ref06UnpackX w0 (loopAt Tryd.f15 0) ref06UnpackL0E :=
 loop_okH ref06UnpackC hG (loopAt Tryd.f15 0) (lall_of lall_nil (by kernel_rfl : loopsOf (loopAt Tryd.f15 0) = _))
  ref06UnpackL0Y ref06UnpackL0Z (by kernel_rfl) (fun p => ref06UnpackL0R p.1 p.2.1 p.2.2.1 p.2.2.2) (fun p => 1000) (fun p => by kernel_rfl) _ (fun p => ref06UnpackL0_eq p.1 p.2.1 p.2.2.1 p.2.2.2)
theorem ref06UnpackK : CallOk Tryd.prog (Glob globsF) 15 ref06UnpackE :=
 fun_ok (cx := ref06UnpackX) ref06UnpackC (fn := Tryd.f15) Tryd.func15 (by kernel_rfl) Tryd.ntmps15 Tryd.call15 _ _ _ (by kernel_rfl) (by kernel_rfl) (by kernel_rfl)
  (fun w0 hG => lall_of (lall_cut (b := loopAt Tryd.f15 0) (ref06UnpackL0K w0 hG) (by kernel_rfl) (lall_nil)) (by kernel_rfl : loopsOf (bodyOf Tryd.f15) = _)) (fun p => Eq.trans (b := ref06UnpackB p) (by kernel_rfl) (ref06Unpack_eq p).symm)
def law06ICopiedI : Lay := ⟨[], [(false, 0, .isl false (.int .u8))], [⟨[], []⟩]⟩
def law06ICopiedO : Lay := ⟨[(false, 0, .own 1000 (.int .u8))], [(true, 1000, .row (.int .u8))], [⟨[(1000, 1019)], []⟩]⟩
def law06ICopiedE : Entry := mkB 1 1 0 [false] law06ICopiedI law06ICopiedO (fun p => law06ICopied p)
def law06ICopiedL0Y : Lay := ⟨[(false, 3, .own 1019 (.int .u8))], [(false, 0, .isl false (.int .u8)), (false, 4, .int .i64), (true, 1019, .row (.int .u8))], [⟨[], [(false, 3, [], 1019)]⟩, ⟨[(1019, 1017)], []⟩]⟩
def law06ICopiedL0Z : List (Ex × Lay) := [(.exit 0, ⟨[(false, 3, .own 1019 (.int .u8))], [(true, 1019, .row (.int .u8))], [⟨[(1019, 1019)], []⟩]⟩)]
def law06ICopiedL0E : LEntry := mkL law06ICopiedL0Y law06ICopiedL0Z fun p => law06ICopiedL0 p.1 p.2.1 p.2.2
def law06ICopiedX : Cx := mkCx Tryd.prog 19 globsF [] [(3, law06ICopiedL0E)] []
theorem law06ICopiedC : CxOk law06ICopiedX (Glob globsF) := cx_ok (by kernel_rfl) (by kernel_rfl) trivial
theorem law06ICopiedL0K (w0 : Ini) (hG : Glob globsF w0) : LoopOk law06ICopiedX w0 (loopAt Tryd.f17 0) law06ICopiedL0E :=
 loop_okH law06ICopiedC hG (loopAt Tryd.f17 0) (lall_of lall_nil (by kernel_rfl : loopsOf (loopAt Tryd.f17 0) = _))
  law06ICopiedL0Y law06ICopiedL0Z (by kernel_rfl) (fun p => law06ICopiedL0R p.1 p.2.1 p.2.2) (fun p => bigFuel) (fun p => by kernel_rfl) _ (fun p => law06ICopiedL0_eq p.1 p.2.1 p.2.2)
theorem law06ICopiedK : CallOk Tryd.prog (Glob globsF) 17 law06ICopiedE :=
 fun_okB (cx := law06ICopiedX) law06ICopiedC (fn := Tryd.f17) Tryd.func17 (by kernel_rfl) Tryd.ntmps17 Tryd.call17 _ _ _ _ _ _ _ (by kernel_rfl) (by kernel_rfl) (by kernel_rfl)
  (fun w0 hG => lall_of (lall_cut (b := loopAt Tryd.f17 0) (law06ICopiedL0K w0 hG) (by kernel_rfl) (lall_nil)) (by kernel_rfl : loopsOf (bodyOf Tryd.f17) = _)) (fun p => Eq.trans (b := law06ICopiedB p) (by kernel_rfl) (law06ICopied_eq p).symm)
def law06ISameE : Entry := mkE [.isl false (.int .u8), .isl false (.int .u8)] [.bool] fun p => law06ISame p.1 p.2
def law06ISameL0Y : Lay := ⟨[], [(false, 0, .isl false (.int .u8)), (false, 1, .isl false (.int .u8)), (false, 5, .int .i64)], [⟨[], []⟩]⟩
def law06ISameL0Z : List (Ex × Lay) := [(.ret, ⟨[(false, 4, .bool false)], [], [⟨[], []⟩]⟩), (.exit 0, ⟨[], [], [⟨[], []⟩]⟩)]
def law06ISameL0E : LEntry := mkL law06ISameL0Y law06ISameL0Z fun p => law06ISameL0 p.1 p.2.1 p.2.2
def law06ISameX : Cx := mkCx Tryd.prog 26 globsF [] [(4, law06ISameL0E)] []
theorem law06ISameC : CxOk law06ISameX (Glob globsF) := cx_ok (by kernel_rfl) (by kernel_rfl) trivial
theorem law06ISameL0K (w0 : Ini) (hG : Glob globsF w0) : LoopOk law06ISameX w0 (loopAt Tryd.f11 0) law06ISameL0E :=
 loop_okH law06ISameC hG (loopAt Tryd.f11 0) (lall_of lall_nil (by kernel_rfl : loopsOf (loopAt Tryd.f11 0) = _))
  law06ISameL0Y law06ISameL0Z (by kernel_rfl) (fun p => law06ISameL0R p.1 p.2.1 p.2.2) (fun p => bigFuel) (fun p => by kernel_rfl) _ (fun p => law06ISameL0_eq p.1 p.2.1 p.2.2)
theorem law06ISameK : CallOk Tryd.prog (Glob globsF) 11 law06ISameE :=
 fun_ok (cx := law06ISameX) law06ISameC (fn := Tryd.f11) Tryd.func11 (by kernel_rfl) Tryd.ntmps11 Tryd.call11 _ _ _ (by kernel_rfl) (by kernel_rfl) (by kernel_rfl)
  (fun w0 hG => lall_of (lall_cut (b := loopAt Tryd.f11 0) (law06ISameL0K w0 hG) (by kernel_rfl) (lall_nil)) (by kernel_rfl : loopsOf (bodyOf Tryd.f11) = _)) (fun p => Eq.trans (b := law06ISameB p.1 p.2) (by kernel_rfl) (law06ISame_eq p.1 p.2).symm)
def law06ILentI : Lay := ⟨[], [(false, 0, .isl false (.int .u8))], [⟨[], []⟩]⟩
def law06ILentO : Lay := ⟨[], [(false, 0, .osl 1000 (.int .u8)), (true, 1000, .row (.int .u8))], [⟨[(1000, 1001006)], []⟩]⟩
def law06ILentE : Entry := mkB 1 1 0 [false] law06ILentI law06ILentO (fun p => law06ILent p)
def law06ILentL0Y : Lay := ⟨[(false, 3, .own 1001006 (.int .u8))], [(false, 0, .isl false (.int .u8)), (false, 4, .int .i64), (true, 1001006, .row (.int .u8))], [⟨[(1001006, 1001006)], []⟩, ⟨[(1001006, 1013)], []⟩]⟩
def law06ILentL0Z : List (Ex × Lay) := [(.exit 0, ⟨[(false, 3, .own 1001006 (.int .u8))], [(false, 0, .isl false (.int .u8)), (true, 1001006, .row (.int .u8))], [⟨[(1001006, 1001006)], []⟩]⟩)]
def law06ILentL0E : LEntry := mkL law06ILentL0Y law06ILentL0Z fun p => law06ILentL0 p.1 p.2.1 p.2.2
def law06ILentX : Cx := mkCx Tryd.prog 18 globsF [(17, law06ICopiedE)] [(3, law06ILentL0E)] []
theorem law06ILentC : CxOk law06ILentX (Glob globsF) := cx_ok (by kernel_rfl) (by kernel_rfl) ⟨law06ICopiedK, trivial⟩
theorem law06ILentL0K (w0 : Ini) (hG : Glob globsF w0) : LoopOk law06ILentX w0 (loopAt Tryd.f13 0) law06ILentL0E :=
 loop_okH law06ILentC hG (loopAt Tryd.f13 0) (lall_of lall_nil (by kernel_rfl : loopsOf (loopAt Tryd.f13 0) = _))
  law06ILentL0Y law06ILentL0Z (by kernel_rfl) (fun p => law06ILentL0R p.1 p.2.1 p.2.2) (fun p => 1000) (fun p => by kernel_rfl) _ (fun p => law06ILentL0_eq p.1 p.2.1 p.2.2)
theorem law06ILentK : CallOk Tryd.prog (Glob globsF) 13 law06ILentE :=
 fun_okB (cx := law06ILentX) law06ILentC (fn := Tryd.f13) Tryd.func13 (by kernel_rfl) Tryd.ntmps13 Tryd.call13 _ _ _ _ _ _ _ (by kernel_rfl) (by kernel_rfl) (by kernel_rfl)
  (fun w0 hG => lall_of (lall_cut (b := loopAt Tryd.f13 0) (law06ILentL0K w0 hG) (by kernel_rfl) (lall_nil)) (by kernel_rfl : loopsOf (bodyOf Tryd.f13) = _)) (fun p => Eq.trans (b := law06ILentB p) (by kernel_rfl) (law06ILent_eq p).symm)
def law06IStillI : Lay := ⟨[], [(false, 0, .osl 0 (.int .u8)), (true, 0, .row (.int .u8)), (false, 1, .isl false (.int .u8))], [⟨[(0, 0)], []⟩]⟩
def law06IStillO : Lay := ⟨[], [(false, 0, .bool), (true, 0, .row (.int .u8))], [⟨[(0, 0)], []⟩]⟩
def law06IStillE : Entry := mkB 2 1 1 [true, false] law06IStillI law06IStillO (fun p => law06IStill p.1 p.2.1 p.2.2)
def law06IStillL0Y : Lay := ⟨[], [(false, 1, .isl false (.int .u8)), (false, 5, .osl 0 (.int .u8)), (false, 6, .int .i64), (true, 0, .row (.int .u8))], [⟨[(0, 0)], []⟩]⟩
def law06IStillL0Z : List (Ex × Lay) := [(.ret, ⟨[(false, 4, .bool false)], [(true, 0, .row (.int .u8))], [⟨[(0, 0)], []⟩]⟩), (.exit 0, ⟨[], [(true, 0, .row (.int .u8))], [⟨[(0, 0)], []⟩]⟩)]
def law06IStillL0E : LEntry := mkL law06IStillL0Y law06IStillL0Z fun p => law06IStillL0 p.1 p.2.1 p.2.2.1 p.2.2.2
def law06IStillX : Cx := mkCx Tryd.prog 51 globsF [] [(5, law06IStillL0E)] []
theorem law06IStillC : CxOk law06IStillX (Glob globsF) := cx_ok (by kernel_rfl) (by kernel_rfl) trivial
theorem law06IStillL0K (w0 : Ini) (hG : Glob globsF w0) : LoopOk law06IStillX w0 (loopAt Tryd.f16 0) law06IStillL0E :=
 loop_okH law06IStillC hG (loopAt Tryd.f16 0) (lall_of lall_nil (by kernel_rfl : loopsOf (loopAt Tryd.f16 0) = _))
  law06IStillL0Y law06IStillL0Z (by kernel_rfl) (fun p => law06IStillL0R p.1 p.2.1 p.2.2.1 p.2.2.2) (fun p => bigFuel) (fun p => by kernel_rfl) _ (fun p => law06IStillL0_eq p.1 p.2.1 p.2.2.1 p.2.2.2)
theorem law06IStillK : CallOk Tryd.prog (Glob globsF) 16 law06IStillE :=
 fun_okB (cx := law06IStillX) law06IStillC (fn := Tryd.f16) Tryd.func16 (by kernel_rfl) Tryd.ntmps16 Tryd.call16 _ _ _ _ _ _ _ (by kernel_rfl) (by kernel_rfl) (by kernel_rfl)
  (fun w0 hG => lall_of (lall_cut (b := loopAt Tryd.f16 0) (law06IStillL0K w0 hG) (by kernel_rfl) (lall_nil)) (by kernel_rfl : loopsOf (bodyOf Tryd.f16) = _)) (fun p => Eq.trans (b := law06IStillB p.1 p.2.1 p.2.2) (by kernel_rfl) (law06IStill_eq p.1 p.2.1 p.2.2).symm)
end Go.Sy
