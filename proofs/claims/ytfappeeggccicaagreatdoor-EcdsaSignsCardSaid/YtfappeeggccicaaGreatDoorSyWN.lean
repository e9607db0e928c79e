/- The links: each typed function is what the code computes. Printed by a program. -/
import Derived.Test.YtfappeeggccicaaGreatDoorSyVN
import Derived.Test.YtfappeeggccicaaGreatDoorSyWS
set_option linter.unusedVariables false
set_option maxRecDepth 100000
noncomputable section
namespace Go.Sy
open Go Go.Proofs
def ecdsaICandidatesI : Lay := ⟨[], [(false, 0, .u256), (false, 1, .arr (.int .u8) 32)], [⟨[], []⟩]⟩
def ecdsaICandidatesO : Lay := ⟨[(false, 0, .fn 35 [.ptr 1002 [], .ptr 1001 [], .ptr 1000 []])], [(true, 1000, .arr (.int .u8) 32), (true, 1001, .arr (.int .u8) 32), (true, 1002, .bool)], [⟨[(1002, 1011), (1001, 1008), (1000, 1007)], []⟩]⟩
def ecdsaICandidatesE : Entry := mkB 2 1 0 [false, false] ecdsaICandidatesI ecdsaICandidatesO (fun p => ecdsaICandidates p.1 p.2)
def ecdsaICandidatesL0Y : Lay := ⟨[(false, 5, .ptr 1005 []), (false, 6, .ptr 1006 []), (false, 7, .ptr 1007 []), (false, 8, .ptr 1008 [])], [(false, 17, .int .i64), (true, 1005, .arr (.int .u8) 32), (true, 1006, .arr (.int .u8) 32), (true, 1007, .arr (.int .u8) 32), (true, 1008, .arr (.int .u8) 32)], [⟨[(1005, 1005), (1006, 1006), (1007, 1007), (1008, 1008)], []⟩]⟩
def ecdsaICandidatesL0Z : List (Ex × Lay) := [(.exit 0, ⟨[(false, 5, .ptr 1005 []), (false, 6, .ptr 1006 []), (false, 7, .ptr 1007 []), (false, 8, .ptr 1008 [])], [(true, 1005, .arr (.int .u8) 32), (true, 1006, .arr (.int .u8) 32), (true, 1007, .arr (.int .u8) 32), (true, 1008, .arr (.int .u8) 32)], [⟨[(1005, 1005), (1006, 1006), (1007, 1007), (1008, 1008)], []⟩]⟩)]
def ecdsaICandidatesL0E : LEntry := mkL ecdsaICandidatesL0Y ecdsaICandidatesL0Z fun p => ecdsaICandidatesL0 p.1 p.2.1 p.2.2.1 p.2.2.2.1 p.2.2.2.2
def ecdsaICandidatesX : Cx := mkCx Tryz.prog 41 globs0x2x3 [(19, ecdsaINumberE), (33, u256PutE), (34, shaHMACE)] [(4, ecdsaICandidatesL0E)] [(9, [5, 6, 7, 8, 23], [])]
theorem ecdsaICandidatesC : CxOk ecdsaICandidatesX (Glob globs0x2x3) := cx_ok (by kernel_rfl) (by kernel_rfl) ⟨(ecdsaINumberK.up globsF_globs0x2x3), (u256PutK.up globsF_globs0x2x3), shaHMACK, trivial⟩
theorem ecdsaICandidatesL0K (w0 : Ini) (hG : Glob globs0x2x3 w0) : LoopOk ecdsaICandidatesX w0 (loopAt Tryz.f15 0) ecdsaICandidatesL0E :=
 loop_okH ecdsaICandidatesC hG (loopAt Tryz.f15 0) (lall_of lall_nil (by kernel_rfl : loopsOf (loopAt Tryz.f15 0) = _))
  ecdsaICandidatesL0Y ecdsaICandidatesL0Z (by kernel_rfl) (fun p => ecdsaICandidatesL0R p.1 p.2.1 p.2.2.1 p.2.2.2.1 p.2.2.2.2) (fun p => 1000) (fun p => by kernel_rfl) _ (fun p => ecdsaICandidatesL0_eq p.1 p.2.1 p.2.2.1 p.2.2.2.1 p.2.2.2.2)
theorem ecdsaICandidatesK : CallOk Tryz.prog (Glob globs0x2x3) 15 ecdsaICandidatesE :=
 fun_okB (cx := ecdsaICandidatesX) ecdsaICandidatesC (fn := Tryz.f15) Tryz.func15 (by kernel_rfl) Tryz.ntmps15 Tryz.call15 _ _ _ _ _ _ _ (by kernel_rfl) (by kernel_rfl) (by kernel_rfl)
  (fun w0 hG => lall_of (lall_cut (b := loopAt Tryz.f15 0) (ecdsaICandidatesL0K w0 hG) (by kernel_rfl) (lall_free (b := loopAt Tryz.f15 1) (by kernel_rfl) (lall_nil))) (by kernel_rfl : loopsOf (bodyOf Tryz.f15) = _)) (fun p => Eq.trans (b := ecdsaICandidatesB p.1 p.2) (by kernel_rfl) (ecdsaICandidates_eq p.1 p.2).symm)
def ecdsaICandidatesC1I : Lay := ⟨[(false, 0, .ptr 0 []), (false, 1, .ptr 1 []), (false, 2, .ptr 2 [])], [(true, 0, .bool), (true, 1, .arr (.int .u8) 32), (true, 2, .arr (.int .u8) 32)], [⟨[(0, 0), (1, 1), (2, 2)], []⟩]⟩
def ecdsaICandidatesC1O : Lay := ⟨[], [(false, 0, .u256), (true, 0, .bool), (true, 1, .arr (.int .u8) 32), (true, 2, .arr (.int .u8) 32)], [⟨[(0, 0), (1, 1), (2, 2)], []⟩]⟩
def ecdsaICandidatesC1E : Entry := mkB 3 1 3 [true, true, true] ecdsaICandidatesC1I ecdsaICandidatesC1O (fun p => ecdsaICandidatesC1 p.1 p.2.1 p.2.2)
def ecdsaICandidatesC1X : Cx := mkCx Tryz.prog 27 globs0x2x3 [(34, shaHMACE), (36, u256GetE)] [] []
theorem ecdsaICandidatesC1C : CxOk ecdsaICandidatesC1X (Glob globs0x2x3) := cx_ok (by kernel_rfl) (by kernel_rfl) ⟨shaHMACK, (u256GetK.up globsF_globs0x2x3), trivial⟩
theorem ecdsaICandidatesC1K : CallOk Tryz.prog (Glob globs0x2x3) 35 ecdsaICandidatesC1E :=
 fun_okB (cx := ecdsaICandidatesC1X) ecdsaICandidatesC1C (fn := Tryz.f35) Tryz.func35 (by kernel_rfl) Tryz.ntmps35 Tryz.call35 _ _ _ _ _ _ _ (by kernel_rfl) (by kernel_rfl) (by kernel_rfl)
  (fun w0 hG => lall_of lall_nil (by kernel_rfl : loopsOf (bodyOf Tryz.f35) = _)) (fun p => Eq.trans (b := ecdsaICandidatesC1B p.1 p.2.1 p.2.2) (by kernel_rfl) (ecdsaICandidatesC1_eq p.1 p.2.1 p.2.2).symm)
def ecdsaNonceE : Entry := mkE [.u256, .arr (.int .u8) 32, .int .i64] [.u256, .int .i64] fun p => ecdsaNonce p.1 p.2.1 p.2.2
def ecdsaNonceL0Y : Lay := ⟨[(false, 6, .ptr 1006 []), (false, 8, .fn 35 [.ptr 1003023 [], .ptr 1002023 [], .ptr 1001023 []])], [(false, 2, .int .i64), (false, 24, .int .i64), (true, 1006, .u256), (true, 1001023, .arr (.int .u8) 32), (true, 1002023, .arr (.int .u8) 32), (true, 1003023, .bool)], [⟨[(1006, 1006), (1003023, 1003023), (1002023, 1002023), (1001023, 1001023)], []⟩]⟩
def ecdsaNonceL0Z : List (Ex × Lay) := [(.ret, ⟨[(false, 6, .ptr 1006 []), (false, 7, .int .i64 0)], [(true, 1006, .u256)], [⟨[(1006, 1006)], []⟩]⟩), (.exit 0, ⟨[(false, 6, .ptr 1006 [])], [(true, 1006, .u256)], [⟨[(1006, 1006)], []⟩]⟩)]
def ecdsaNonceL0E : LEntry := mkL ecdsaNonceL0Y ecdsaNonceL0Z fun p => ecdsaNonceL0 p.1 p.2.1 p.2.2.1 p.2.2.2.1 p.2.2.2.2.1 p.2.2.2.2.2
def ecdsaNonceX : Cx := mkCx Tryz.prog 38 globs0x2x3 [(7, ecdsaIFitE), (15, ecdsaICandidatesE), (35, ecdsaICandidatesC1E)] [(7, ecdsaNonceL0E)] []
theorem ecdsaNonceC : CxOk ecdsaNonceX (Glob globs0x2x3) := cx_ok (by kernel_rfl) (by kernel_rfl) ⟨(ecdsaIFitK.up globsF_globs0x2x3), ecdsaICandidatesK, ecdsaICandidatesC1K, trivial⟩
theorem ecdsaNonceL0K (w0 : Ini) (hG : Glob globs0x2x3 w0) : LoopOk ecdsaNonceX w0 (loopAt Tryz.f8 0) ecdsaNonceL0E :=
 loop_okH ecdsaNonceC hG (loopAt Tryz.f8 0) (lall_of lall_nil (by kernel_rfl : loopsOf (loopAt Tryz.f8 0) = _))
  ecdsaNonceL0Y ecdsaNonceL0Z (by kernel_rfl) (fun p => ecdsaNonceL0R p.1 p.2.1 p.2.2.1 p.2.2.2.1 p.2.2.2.2.1 p.2.2.2.2.2) (fun p => 1000) (fun p => by kernel_rfl) _ (fun p => ecdsaNonceL0_eq p.1 p.2.1 p.2.2.1 p.2.2.2.1 p.2.2.2.2.1 p.2.2.2.2.2)
theorem ecdsaNonceK : CallOk Tryz.prog (Glob globs0x2x3) 8 ecdsaNonceE :=
 fun_ok (cx := ecdsaNonceX) ecdsaNonceC (fn := Tryz.f8) Tryz.func8 (by kernel_rfl) Tryz.ntmps8 Tryz.call8 _ _ _ (by kernel_rfl) (by kernel_rfl) (by kernel_rfl)
  (fun w0 hG => lall_of (lall_cut (b := loopAt Tryz.f8 0) (ecdsaNonceL0K w0 hG) (by kernel_rfl) (lall_nil)) (by kernel_rfl : loopsOf (bodyOf Tryz.f8) = _)) (fun p => Eq.trans (b := ecdsaNonceB p.1 p.2.1 p.2.2) (by kernel_rfl) (ecdsaNonce_eq p.1 p.2.1 p.2.2).symm)
def ref06IBytes32I : Lay := ⟨[], [(false, 0, .u256)], [⟨[], []⟩]⟩
def ref06IBytes32O : Lay := ⟨[(false, 0, .sl 1000 [] (.int .u8) 0 32 32)], [(true, 1000, .arr (.int .u8) 32)], [⟨[(1000, 1003)], []⟩]⟩
def ref06IBytes32E : Entry := mkB 1 1 0 [false] ref06IBytes32I ref06IBytes32O (fun p => ref06IBytes32 p)
def ref06IBytes32X : Cx := mkCx Tryz.prog 7 globsF [(79, ref01PutE)] [] []
theorem ref06IBytes32C : CxOk ref06IBytes32X (Glob globsF) := cx_ok (by kernel_rfl) (by kernel_rfl) ⟨ref01PutK, trivial⟩
theorem ref06IBytes32K : CallOk Tryz.prog (Glob globsF) 48 ref06IBytes32E :=
 fun_okB (cx := ref06IBytes32X) ref06IBytes32C (fn := Tryz.f48) Tryz.func48 (by kernel_rfl) Tryz.ntmps48 Tryz.call48 _ _ _ _ _ _ _ (by kernel_rfl) (by kernel_rfl) (by kernel_rfl)
  (fun w0 hG => lall_of lall_nil (by kernel_rfl : loopsOf (bodyOf Tryz.f48) = _)) (fun p => Eq.trans (b := ref06IBytes32B p) (by kernel_rfl) (ref06IBytes32_eq p).symm)
def ref06ICodeI : Lay := ⟨[], [(false, 0, .isl false (.int .u8)), (false, 1, .isl false .bytes)], [⟨[], []⟩]⟩
def ref06ICodeO : Lay := ⟨[(false, 0, .sl 1000 [] (.int .u8) 0 32 32)], [(true, 1000, .arr (.int .u8) 32)], [⟨[(1000, 1005)], []⟩]⟩
def ref06ICodeE : Entry := mkB 2 1 0 [false, false] ref06ICodeI ref06ICodeO (fun p => ref06ICode p.1 p.2)
def ref06ICodeX : Cx := mkCx Tryz.prog 10 globsF [(81, ref03HMACE)] [] []
theorem ref06ICodeC : CxOk ref06ICodeX (Glob globsF) := cx_ok (by kernel_rfl) (by kernel_rfl) ⟨ref03HMACK, trivial⟩
theorem ref06ICodeK : CallOk Tryz.prog (Glob globsF) 50 ref06ICodeE :=
 fun_okB (cx := ref06ICodeX) ref06ICodeC (fn := Tryz.f50) Tryz.func50 (by kernel_rfl) Tryz.ntmps50 Tryz.call50 _ _ _ _ _ _ _ (by kernel_rfl) (by kernel_rfl) (by kernel_rfl)
  (fun w0 hG => lall_of lall_nil (by kernel_rfl : loopsOf (bodyOf Tryz.f50) = _)) (fun p => Eq.trans (b := ref06ICodeB p.1 p.2) (by kernel_rfl) (ref06ICode_eq p.1 p.2).symm)
def ref06CandidatesI : Lay := ⟨[], [(false, 0, .u256), (false, 1, .arr (.int .u8) 32), (false, 2, .int .i64)], [⟨[], []⟩]⟩
def ref06CandidatesO : Lay := ⟨[(false, 0, .own 1000 .u256)], [(true, 1000, .row .u256)], [⟨[(1000, 1085)], []⟩]⟩
def ref06CandidatesE : Entry := mkB 3 1 0 [false, false, false] ref06CandidatesI ref06CandidatesO (fun p => ref06Candidates p.1 p.2.1 p.2.2)
def ref06CandidatesL0Y : Lay := ⟨[(false, 7, .sl 1001017 [] (.int .u8) 0 32 32), (false, 8, .sl 1001020 [] (.int .u8) 0 32 32), (false, 9, .own 1083 (.int .u8)), (false, 10, .own 1084 (.int .u8))], [(false, 2, .int .i64), (false, 11, .int .i64), (true, 1001017, .arr (.int .u8) 32), (true, 1001020, .arr (.int .u8) 32), (true, 1083, .row (.int .u8)), (true, 1084, .row (.int .u8))], [⟨[(1001017, 1001017), (1001020, 1001020)], [(false, 9, [], 1083), (false, 10, [], 1084)]⟩, ⟨[(1001017, 1001017), (1001020, 1001020), (1083, 1027), (1084, 1030)], []⟩]⟩
def ref06CandidatesL0Z : List (Ex × Lay) := [(.exit 0, ⟨[(false, 7, .sl 1001017 [] (.int .u8) 0 32 32), (false, 8, .sl 1001020 [] (.int .u8) 0 32 32), (false, 9, .own 1083 (.int .u8)), (false, 10, .own 1084 (.int .u8))], [(false, 2, .int .i64), (true, 1083, .row (.int .u8)), (true, 1084, .row (.int .u8)), (true, 1001017, .arr (.int .u8) 32), (true, 1001020, .arr (.int .u8) 32)], [⟨[(1001017, 1001017), (1001020, 1001020), (1083, 1083), (1084, 1084)], []⟩]⟩)]
def ref06CandidatesL0E : LEntry := mkL ref06CandidatesL0Y ref06CandidatesL0Z fun p => ref06CandidatesL0 p.1 p.2.1 p.2.2.1 p.2.2.2.1 p.2.2.2.2.1 p.2.2.2.2.2
def ref06CandidatesL1Y : Lay := ⟨[(false, 9, .sl 1001052 [] (.int .u8) 0 32 32), (false, 10, .sl 1001048 [] (.int .u8) 0 32 32), (false, 12, .own 1085 .u256)], [(false, 2, .int .i64), (false, 13, .int .i64), (true, 1001048, .arr (.int .u8) 32), (true, 1001052, .arr (.int .u8) 32), (true, 1085, .row .u256)], [⟨[(1001052, 1001052), (1001048, 1001048)], [(false, 12, [], 1085)]⟩, ⟨[(1001052, 1001072), (1001048, 1001064), (1085, 1081)], []⟩, ⟨[(1001052, 1001072), (1001048, 1001048), (1085, 1081)], []⟩]⟩
def ref06CandidatesL1Z : List (Ex × Lay) := [(.exit 2, ⟨[(false, 12, .own 1085 .u256)], [(true, 1085, .row .u256)], [⟨[(1085, 1085)], []⟩]⟩)]
def ref06CandidatesL1E : LEntry := mkL ref06CandidatesL1Y ref06CandidatesL1Z fun p => ref06CandidatesL1 p.1 p.2.1 p.2.2.1 p.2.2.2.1 p.2.2.2.2
def ref06CandidatesX : Cx := mkCx Tryz.prog 83 globsF [(48, ref06IBytes32E), (49, ref06NumberE), (50, ref06ICodeE), (51, ref01GetE)] [(6, ref06CandidatesL0E), (16, ref06CandidatesL1E)] []
theorem ref06CandidatesC : CxOk ref06CandidatesX (Glob globsF) := cx_ok (by kernel_rfl) (by kernel_rfl) ⟨ref06IBytes32K, ref06NumberK, ref06ICodeK, ref01GetK, trivial⟩
theorem ref06CandidatesL0K (w0 : Ini) (hG : Glob globsF w0) : LoopOk ref06CandidatesX w0 (loopAt Tryz.f26 0) ref06CandidatesL0E :=
 loop_okH ref06CandidatesC hG (loopAt Tryz.f26 0) (lall_of lall_nil (by kernel_rfl : loopsOf (loopAt Tryz.f26 0) = _))
  ref06CandidatesL0Y ref06CandidatesL0Z (by kernel_rfl) (fun p => ref06CandidatesL0R p.1 p.2.1 p.2.2.1 p.2.2.2.1 p.2.2.2.2.1 p.2.2.2.2.2) (fun p => 1000) (fun p => by kernel_rfl) _ (fun p => ref06CandidatesL0_eq p.1 p.2.1 p.2.2.1 p.2.2.2.1 p.2.2.2.2.1 p.2.2.2.2.2)
theorem ref06CandidatesL1K (w0 : Ini) (hG : Glob globsF w0) : LoopOk ref06CandidatesX w0 (loopAt Tryz.f26 1) ref06CandidatesL1E :=
 loop_okH ref06CandidatesC hG (loopAt Tryz.f26 1) (lall_of lall_nil (by kernel_rfl : loopsOf (loopAt Tryz.f26 1) = _))
  ref06CandidatesL1Y ref06CandidatesL1Z (by kernel_rfl) (fun p => ref06CandidatesL1R p.1 p.2.1 p.2.2.1 p.2.2.2.1 p.2.2.2.2) (fun p => 1000) (fun p => by kernel_rfl) _ (fun p => ref06CandidatesL1_eq p.1 p.2.1 p.2.2.1 p.2.2.2.1 p.2.2.2.2)
theorem ref06CandidatesK : CallOk Tryz.prog (Glob globsF) 26 ref06CandidatesE :=
 fun_okB (cx := ref06CandidatesX) ref06CandidatesC (fn := Tryz.f26) Tryz.func26 (by kernel_rfl) Tryz.ntmps26 Tryz.call26 _ _ _ _ _ _ _ (by kernel_rfl) (by kernel_rfl) (by kernel_rfl)
  (fun w0 hG => lall_of (lall_cut (b := loopAt Tryz.f26 0) (ref06CandidatesL0K w0 hG) (by kernel_rfl) (lall_cut (b := loopAt Tryz.f26 1) (ref06CandidatesL1K w0 hG) (by kernel_rfl) (lall_nil))) (by kernel_rfl : loopsOf (bodyOf Tryz.f26) = _)) (fun p => Eq.trans (b := ref06CandidatesB p.1 p.2.1 p.2.2) (by kernel_rfl) (ref06Candidates_eq p.1 p.2.1 p.2.2).symm)
def ref06IFitOneE : Entry := mkE [.isl false .u256, .int .i64] [.u256, .bool] fun p => ref06IFitOne p.1 p.2
def ref06IFitOneL0Y : Lay := ⟨[(false, 4, .ptr 1004 [])], [(false, 0, .isl false .u256), (false, 1, .int .i64), (false, 6, .int .i64), (true, 1004, .u256)], [⟨[(1004, 1004)], []⟩]⟩
def ref06IFitOneL0Z : List (Ex × Lay) := [(.ret, ⟨[(false, 4, .ptr 1004 []), (false, 5, .bool true)], [(true, 1004, .u256)], [⟨[(1004, 1004)], []⟩]⟩), (.exit 0, ⟨[(false, 4, .ptr 1004 [])], [(true, 1004, .u256)], [⟨[(1004, 1004)], []⟩]⟩)]
def ref06IFitOneL0E : LEntry := mkL ref06IFitOneL0Y ref06IFitOneL0Z fun p => ref06IFitOneL0 p.1 p.2.1 p.2.2.1 p.2.2.2
def ref06IFitOneX : Cx := mkCx Tryz.prog 29 globsF [(10, ref06FitE)] [(2, ref06IFitOneL0E)] []
theorem ref06IFitOneC : CxOk ref06IFitOneX (Glob globsF) := cx_ok (by kernel_rfl) (by kernel_rfl) ⟨ref06FitK, trivial⟩
theorem ref06IFitOneL0K (w0 : Ini) (hG : Glob globsF w0) : LoopOk ref06IFitOneX w0 (loopAt Tryz.f27 0) ref06IFitOneL0E :=
 loop_okH ref06IFitOneC hG (loopAt Tryz.f27 0) (lall_of lall_nil (by kernel_rfl : loopsOf (loopAt Tryz.f27 0) = _))
  ref06IFitOneL0Y ref06IFitOneL0Z (by kernel_rfl) (fun p => ref06IFitOneL0R p.1 p.2.1 p.2.2.1 p.2.2.2) (fun p => 1000) (fun p => by kernel_rfl) _ (fun p => ref06IFitOneL0_eq p.1 p.2.1 p.2.2.1 p.2.2.2)
theorem ref06IFitOneK : CallOk Tryz.prog (Glob globsF) 27 ref06IFitOneE :=
 fun_ok (cx := ref06IFitOneX) ref06IFitOneC (fn := Tryz.f27) Tryz.func27 (by kernel_rfl) Tryz.ntmps27 Tryz.call27 _ _ _ (by kernel_rfl) (by kernel_rfl) (by kernel_rfl)
  (fun w0 hG => lall_of (lall_cut (b := loopAt Tryz.f27 0) (ref06IFitOneL0K w0 hG) (by kernel_rfl) (lall_nil)) (by kernel_rfl : loopsOf (bodyOf Tryz.f27) = _)) (fun p => Eq.trans (b := ref06IFitOneB p.1 p.2) (by kernel_rfl) (ref06IFitOne_eq p.1 p.2).symm)
def ref06NonceE : Entry := mkE [.u256, .arr (.int .u8) 32, .int .i64] [.u256, .int .i64] fun p => ref06Nonce p.1 p.2.1 p.2.2
def ref06NonceX : Cx := mkCx Tryz.prog 50 globsF [(10, ref06FitE), (26, ref06CandidatesE), (27, ref06IFitOneE)] [] []
theorem ref06NonceC : CxOk ref06NonceX (Glob globsF) := cx_ok (by kernel_rfl) (by kernel_rfl) ⟨ref06FitK, ref06CandidatesK, ref06IFitOneK, trivial⟩
theorem ref06NonceK : CallOk Tryz.prog (Glob globsF) 11 ref06NonceE :=
 fun_ok (cx := ref06NonceX) ref06NonceC (fn := Tryz.f11) Tryz.func11 (by kernel_rfl) Tryz.ntmps11 Tryz.call11 _ _ _ (by kernel_rfl) (by kernel_rfl) (by kernel_rfl)
  (fun w0 hG => lall_of lall_nil (by kernel_rfl : loopsOf (bodyOf Tryz.f11) = _)) (fun p => Eq.trans (b := ref06NonceB p.1 p.2.1 p.2.2) (by kernel_rfl) (ref06Nonce_eq p.1 p.2.1 p.2.2).symm)
end Go.Sy
