/- The links: each typed function is what the code computes. Printed by a program. -/

import Derived.Test.YtfappeeggccicaaDoorSyVN

import Derived.Test.YtfappeeggccicaaDoorSyWS

set_option linter.unusedVariables false

set_option maxRecDepth 100000

namespace Go.Sy

open Go Go.Proofs

def ecdsaICandidatesI : Lay := ⟨[], [(false, 0, .u256), (false, 1, .arr (.int .u8) 32)], [⟨[], []⟩]⟩

def ecdsaICandidatesO : Lay := ⟨[(false, 0, .fn 91 [.ptr 1002 [], .ptr 1001 [], .ptr 1000 []])], [(true, 1000, .arr (.int .u8) 32), (true, 1001, .arr (.int .u8) 32), (true, 1002, .bool)], [⟨[(1002, 1011), (1001, 1008), (1000, 1007)], []⟩]⟩

noncomputable def ecdsaICandidatesE : Entry := mkB 2 1 0 [false, false] ecdsaICandidatesI ecdsaICandidatesO (fun p => ecdsaICandidates p.1 p.2)

def ecdsaICandidatesL0Y : Lay := ⟨[(false, 5, .ptr 1005 []), (false, 6, .ptr 1006 []), (false, 7, .ptr 1007 []), (false, 8, .ptr 1008 [])], [(false, 17, .int .i64), (true, 1005, .arr (.int .u8) 32), (true, 1006, .arr (.int .u8) 32), (true, 1007, .arr (.int .u8) 32), (true, 1008, .arr (.int .u8) 32)], [⟨[(1005, 1005), (1006, 1006), (1007, 1007), (1008, 1008)], []⟩]⟩

def ecdsaICandidatesL0Z : List (Ex × Lay) := [(.exit 0, ⟨[(false, 5, .ptr 1005 []), (false, 6, .ptr 1006 []), (false, 7, .ptr 1007 []), (false, 8, .ptr 1008 [])], [(true, 1005, .arr (.int .u8) 32), (true, 1006, .arr (.int .u8) 32), (true, 1007, .arr (.int .u8) 32), (true, 1008, .arr (.int .u8) 32)], [⟨[(1005, 1005), (1006, 1006), (1007, 1007), (1008, 1008)], []⟩]⟩)]

noncomputable def ecdsaICandidatesL0E : LEntry := mkL ecdsaICandidatesL0Y ecdsaICandidatesL0Z fun p => ecdsaICandidatesL0 p.1 p.2.1 p.2.2.1 p.2.2.2.1 p.2.2.2.2

noncomputable def ecdsaICandidatesX : Cx := mkCx Tryd.prog 41 globs0x2x3 [(38, u256PutE), (63, ecdsaINumberE), (90, shaHMACE)] [(4, ecdsaICandidatesL0E)] [(9, [5, 6, 7, 8, 23], [])]

theorem ecdsaICandidatesC : CxOk ecdsaICandidatesX (Glob globs0x2x3) := cx_ok (by kernel_rfl) (by kernel_rfl) ⟨(u256PutK.up globsF_globs0x2x3), (ecdsaINumberK.up globsF_globs0x2x3), shaHMACK, trivial⟩

theorem ecdsaICandidatesL0K (w0 : Ini) (hG : Glob globs0x2x3 w0) : LoopOk ecdsaICandidatesX w0 (loopAt Tryd.f54 0) ecdsaICandidatesL0E :=
  loop_okH ecdsaICandidatesC hG (loopAt Tryd.f54 0) (lall_of lall_nil (by kernel_rfl : loopsOf (loopAt Tryd.f54 0) = _))
    ecdsaICandidatesL0Y ecdsaICandidatesL0Z (by kernel_rfl) (fun p => ecdsaICandidatesL0R p.1 p.2.1 p.2.2.1 p.2.2.2.1 p.2.2.2.2) (fun p => 1000) (fun p => by kernel_rfl) _ (fun p => ecdsaICandidatesL0_eq p.1 p.2.1 p.2.2.1 p.2.2.2.1 p.2.2.2.2)

theorem ecdsaICandidatesK : CallOk Tryd.prog (Glob globs0x2x3) 54 ecdsaICandidatesE :=
  fun_okB (cx := ecdsaICandidatesX) ecdsaICandidatesC (fn := Tryd.f54) Tryd.func54 (by kernel_rfl) Tryd.ntmps54 Tryd.call54 _ _ _ _ _ _ _ (by kernel_rfl) (by kernel_rfl) (by kernel_rfl)
    (fun w0 hG => lall_of (lall_cut (b := loopAt Tryd.f54 0) (ecdsaICandidatesL0K w0 hG) (by kernel_rfl) (lall_free (b := loopAt Tryd.f54 1) (by kernel_rfl) (lall_nil))) (by kernel_rfl : loopsOf (bodyOf Tryd.f54) = _)) (fun p => Eq.trans (b := ecdsaICandidatesB p.1 p.2) (by kernel_rfl) (ecdsaICandidates_eq p.1 p.2).symm)

def ecdsaICandidatesC1I : Lay := ⟨[(false, 0, .ptr 0 []), (false, 1, .ptr 1 []), (false, 2, .ptr 2 [])], [(true, 0, .bool), (true, 1, .arr (.int .u8) 32), (true, 2, .arr (.int .u8) 32)], [⟨[(0, 0), (1, 1), (2, 2)], []⟩]⟩

def ecdsaICandidatesC1O : Lay := ⟨[], [(false, 0, .u256), (true, 0, .bool), (true, 1, .arr (.int .u8) 32), (true, 2, .arr (.int .u8) 32)], [⟨[(0, 0), (1, 1), (2, 2)], []⟩]⟩

noncomputable def ecdsaICandidatesC1E : Entry := mkB 3 1 3 [true, true, true] ecdsaICandidatesC1I ecdsaICandidatesC1O (fun p => ecdsaICandidatesC1 p.1 p.2.1 p.2.2)

noncomputable def ecdsaICandidatesC1X : Cx := mkCx Tryd.prog 27 globs0x2x3 [(41, u256GetE), (90, shaHMACE)] [] []

theorem ecdsaICandidatesC1C : CxOk ecdsaICandidatesC1X (Glob globs0x2x3) := cx_ok (by kernel_rfl) (by kernel_rfl) ⟨(u256GetK.up globsF_globs0x2x3), shaHMACK, trivial⟩

theorem ecdsaICandidatesC1K : CallOk Tryd.prog (Glob globs0x2x3) 91 ecdsaICandidatesC1E :=
  fun_okB (cx := ecdsaICandidatesC1X) ecdsaICandidatesC1C (fn := Tryd.f91) Tryd.func91 (by kernel_rfl) Tryd.ntmps91 Tryd.call91 _ _ _ _ _ _ _ (by kernel_rfl) (by kernel_rfl) (by kernel_rfl)
    (fun w0 hG => lall_of lall_nil (by kernel_rfl : loopsOf (bodyOf Tryd.f91) = _)) (fun p => Eq.trans (b := ecdsaICandidatesC1B p.1 p.2.1 p.2.2) (by kernel_rfl) (ecdsaICandidatesC1_eq p.1 p.2.1 p.2.2).symm)

noncomputable def ecdsaNonceE : Entry := mkE [.u256, .arr (.int .u8) 32, .int .i64] [.u256, .int .i64] fun p => ecdsaNonce p.1 p.2.1 p.2.2

def ecdsaNonceL0Y : Lay := ⟨[(false, 6, .ptr 1006 []), (false, 8, .fn 91 [.ptr 1003023 [], .ptr 1002023 [], .ptr 1001023 []])], [(false, 2, .int .i64), (false, 24, .int .i64), (true, 1006, .u256), (true, 1001023, .arr (.int .u8) 32), (true, 1002023, .arr (.int .u8) 32), (true, 1003023, .bool)], [⟨[(1006, 1006), (1003023, 1003023), (1002023, 1002023), (1001023, 1001023)], []⟩]⟩

def ecdsaNonceL0Z : List (Ex × Lay) := [(.ret, ⟨[(false, 6, .ptr 1006 []), (false, 7, .int .i64 0)], [(true, 1006, .u256)], [⟨[(1006, 1006)], []⟩]⟩), (.exit 0, ⟨[(false, 6, .ptr 1006 [])], [(true, 1006, .u256)], [⟨[(1006, 1006)], []⟩]⟩)]

noncomputable def ecdsaNonceL0E : LEntry := mkL ecdsaNonceL0Y ecdsaNonceL0Z fun p => ecdsaNonceL0 p.1 p.2.1 p.2.2.1 p.2.2.2.1 p.2.2.2.2.1 p.2.2.2.2.2

noncomputable def ecdsaNonceX : Cx := mkCx Tryd.prog 38 globs0x2x3 [(43, ecdsaIFitE), (54, ecdsaICandidatesE), (91, ecdsaICandidatesC1E)] [(7, ecdsaNonceL0E)] []

theorem ecdsaNonceC : CxOk ecdsaNonceX (Glob globs0x2x3) := cx_ok (by kernel_rfl) (by kernel_rfl) ⟨(ecdsaIFitK.up globsF_globs0x2x3), ecdsaICandidatesK, ecdsaICandidatesC1K, trivial⟩

theorem ecdsaNonceL0K (w0 : Ini) (hG : Glob globs0x2x3 w0) : LoopOk ecdsaNonceX w0 (loopAt Tryd.f31 0) ecdsaNonceL0E :=
  loop_okH ecdsaNonceC hG (loopAt Tryd.f31 0) (lall_of lall_nil (by kernel_rfl : loopsOf (loopAt Tryd.f31 0) = _))
    ecdsaNonceL0Y ecdsaNonceL0Z (by kernel_rfl) (fun p => ecdsaNonceL0R p.1 p.2.1 p.2.2.1 p.2.2.2.1 p.2.2.2.2.1 p.2.2.2.2.2) (fun p => 1000) (fun p => by kernel_rfl) _ (fun p => ecdsaNonceL0_eq p.1 p.2.1 p.2.2.1 p.2.2.2.1 p.2.2.2.2.1 p.2.2.2.2.2)

theorem ecdsaNonceK : CallOk Tryd.prog (Glob globs0x2x3) 31 ecdsaNonceE :=
  fun_ok (cx := ecdsaNonceX) ecdsaNonceC (fn := Tryd.f31) Tryd.func31 (by kernel_rfl) Tryd.ntmps31 Tryd.call31 _ _ _ (by kernel_rfl) (by kernel_rfl) (by kernel_rfl)
    (fun w0 hG => lall_of (lall_cut (b := loopAt Tryd.f31 0) (ecdsaNonceL0K w0 hG) (by kernel_rfl) (lall_nil)) (by kernel_rfl : loopsOf (bodyOf Tryd.f31) = _)) (fun p => Eq.trans (b := ecdsaNonceB p.1 p.2.1 p.2.2) (by kernel_rfl) (ecdsaNonce_eq p.1 p.2.1 p.2.2).symm)

end Go.Sy
