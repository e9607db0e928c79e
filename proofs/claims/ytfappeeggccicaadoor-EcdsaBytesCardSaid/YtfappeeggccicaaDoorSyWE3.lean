/- The links: each typed function is what the code computes. Printed by a program. -/
import Derived.Test.YtfappeeggccicaaDoorSyVE3
import Derived.Test.YtfappeeggccicaaDoorSyWE
set_option linter.unusedVariables false
set_option maxRecDepth 100000
noncomputable section
namespace Go.Sy
open Go Go.Proofs
def ecdsaPackI : Lay := ⟨[], [(false, 0, .st [.u256, .u256, .bool])], [⟨[], []⟩]⟩
def ecdsaPackO : Lay := ⟨[(false, 0, .own 1000 (.int .u8))], [(false, 1, .int .i64), (true, 1000, .row (.int .u8))], [⟨[], [(false, 0, [], 1000)]⟩, ⟨[(1000, 1026)], []⟩]⟩
def ecdsaPackE : Entry := mkB 1 2 0 [false] ecdsaPackI ecdsaPackO (fun p => ecdsaPack p)
def ecdsaPackX : Cx := mkCx Tryd.prog 27 globsF [(19, ecdsaCheckE), (38, u256PutE)] [] []
theorem ecdsaPackC : CxOk ecdsaPackX (Glob globsF) := cx_ok (by kernel_rfl) (by kernel_rfl) ⟨ecdsaCheckK, u256PutK, trivial⟩
theorem ecdsaPackK : CallOk Tryd.prog (Glob globsF) 9 ecdsaPackE :=
 fun_okB (cx := ecdsaPackX) ecdsaPackC (fn := Tryd.f9) Tryd.func9 (by kernel_rfl) Tryd.ntmps9 Tryd.call9 _ _ _ _ _ _ _ (by kernel_rfl) (by kernel_rfl) (by kernel_rfl)
  (fun w0 hG => lall_of lall_nil (by kernel_rfl : loopsOf (bodyOf Tryd.f9) = _)) (fun p => Eq.trans (b := ecdsaPackB p) (by kernel_rfl) (ecdsaPack_eq p).symm)
def ecdsaUnpackE : Entry := mkE [.isl false (.int .u8)] [.st [.u256, .u256, .bool], .int .i64] fun p => ecdsaUnpack p
def ecdsaUnpackX : Cx := mkCx Tryd.prog 44 globsF [(19, ecdsaCheckE), (41, u256GetE)] [] []
theorem ecdsaUnpackC : CxOk ecdsaUnpackX (Glob globsF) := cx_ok (by kernel_rfl) (by kernel_rfl) ⟨ecdsaCheckK, u256GetK, trivial⟩
theorem ecdsaUnpackK : CallOk Tryd.prog (Glob globsF) 14 ecdsaUnpackE :=
 fun_ok (cx := ecdsaUnpackX) ecdsaUnpackC (fn := Tryd.f14) Tryd.func14 (by kernel_rfl) Tryd.ntmps14 Tryd.call14 _ _ _ (by kernel_rfl) (by kernel_rfl) (by kernel_rfl)
  (fun w0 hG => lall_of lall_nil (by kernel_rfl : loopsOf (bodyOf Tryd.f14) = _)) (fun p => Eq.trans (b := ecdsaUnpackB p) (by kernel_rfl) (ecdsaUnpack_eq p).symm)
def law06ICopiedI : Lay := ⟨[], [(false, 0, .isl false (.int .u8))], [⟨[], []⟩]⟩
def law06ICopiedO : Lay := ⟨[(false, 0, .own 1000 (.int .u8))], [(true, 1000, .row (.int .u8))], [⟨[(1000, 1019)], []⟩]⟩
def law06ICopiedE : Entry := mkB 1 1 0 [false] law06ICopiedI law06ICopiedO (fun p => law06ICopied p)
def law06ICopiedL0Y : Lay := ⟨[(false, 3, .own 1019 (.int .u8))], [(false, 0, .isl false (.int .u8)), (false, 4, .int .i64), (true, 1019, .row (.int .u8))], [⟨[], [(false, 3, [], 1019)]⟩, ⟨[(1019, 1017)], []⟩]⟩
def law06ICopiedL0Z : List (Ex × Lay) := [(.exit 0, ⟨[(false, 3, .own 1019 (.int .u8))], [(true, 1019, .row (.int .u8))], [⟨[(1019, 1019)], []⟩]⟩)]
def law06ICopiedL0E : LEntry := mkL law06ICopiedL0Y law06ICopiedL0Z fun p => law06ICopiedL0 p.1 p.2.1 p.2.2
def law06ICopiedX : Cx := mkCx Tryd.prog 19 globsF [] [(3, law06ICopiedL0E)] []
theorem law06ICopiedC : CxOk law06ICopiedX (Glob globsF) := cx_ok (by kernel_rfl) (by kernel_rfl) trivial
theorem law06ICopiedL0K (w0 : Ini) (hG : Glob globsF w0) : LoopOk law06ICopiedX w0 (loopAt Tryd.f17 0) law06ICopiedL0E :=
 loop_okH law06ICopiedC hG (loopAt Tryd.f17 0) (lall_of lall_nil (by kernel_rfl : loopsOf (loopAt Tryd.f17 0) = _))
  law06ICopiedL0Y law06ICopiedL0Z (by kernel_rfl) (fun p => law06ICopiedL0R p.1 p.2.1 p.2.2) (fun p => bigFuel) (fun p => by kernel_rfl) _ (fun p => law06ICopiedL0_eq p.1 p.2.1 p.2.2)
theorem law06ICopiedK : CallOk Tryd.prog (Glob globsF) 17 law06ICopiedE :=
 fun_okB (cx := law06ICopiedX) law06ICopiedC (fn := Tryd.f17) Tryd.func17 (by kernel_rfl) Tryd.ntmps17 Tryd.call17 _ _ _ _ _ _ _ (by kernel_rfl) (by kernel_rfl) (by kernel_rfl)
  (fun w0 hG => lall_of (lall_cut (b := loopAt Tryd.f17 0) (law06ICopiedL0K w0 hG) (by kernel_rfl) (lall_nil)) (by kernel_rfl : loopsOf (bodyOf Tryd.f17) = _)) (fun p => Eq.trans (b := law06ICopiedB p) (by kernel_rfl) (law06ICopied_eq p).symm)
def law06ISameE : Entry := mkE [.isl false (.int .u8), .isl false (.int .u8)] [.bool] fun p => law06ISame p.1 p.2
def law06ISameL0Y : Lay := ⟨[], [(false, 0, .isl false (.int .u8)), (false, 1, .isl false (.int .u8)), (false, 5, .int .i64)], [⟨[], []⟩]⟩
def law06ISameL0Z : List (Ex × Lay) := [(.ret, ⟨[(false, 4, .bool false)], [], [⟨[], []⟩]⟩), (.exit 0, ⟨[], [], [⟨[], []⟩]⟩)]
def law06ISameL0E : LEntry := mkL law06ISameL0Y law06ISameL0Z fun p => law06ISameL0 p.1 p.2.1 p.2.2
def law06ISameX : Cx := mkCx Tryd.prog 26 globsF [] [(4, law06ISameL0E)] []
theorem law06ISameC : CxOk law06ISameX (Glob globsF) := cx_ok (by kernel_rfl) (by kernel_rfl) trivial
theorem law06ISameL0K (w0 : Ini) (hG : Glob globsF w0) : LoopOk law06ISameX w0 (loopAt Tryd.f11 0) law06ISameL0E :=
 loop_okH law06ISameC hG (loopAt Tryd.f11 0) (lall_of lall_nil (by kernel_rfl : loopsOf (loopAt Tryd.f11 0) = _))
  law06ISameL0Y law06ISameL0Z (by kernel_rfl) (fun p => law06ISameL0R p.1 p.2.1 p.2.2) (fun p => bigFuel) (fun p => by kernel_rfl) _ (fun p => law06ISameL0_eq p.1 p.2.1 p.2.2)
theorem law06ISameK : CallOk Tryd.prog (Glob globsF) 11 law06ISameE :=
 fun_ok (cx := law06ISameX) law06ISameC (fn := Tryd.f11) Tryd.func11 (by kernel_rfl) Tryd.ntmps11 Tryd.call11 _ _ _ (by kernel_rfl) (by kernel_rfl) (by kernel_rfl)
  (fun w0 hG => lall_of (lall_cut (b := loopAt Tryd.f11 0) (law06ISameL0K w0 hG) (by kernel_rfl) (lall_nil)) (by kernel_rfl : loopsOf (bodyOf Tryd.f11) = _)) (fun p => Eq.trans (b := law06ISameB p.1 p.2) (by kernel_rfl) (law06ISame_eq p.1 p.2).symm)
end Go.Sy
