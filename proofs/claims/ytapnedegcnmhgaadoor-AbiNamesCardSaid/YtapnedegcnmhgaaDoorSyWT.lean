/- The links: each typed function is what the code computes. Printed by a program. -/
import Derived.Test.YtapnedegcnmhgaaDoorSyVT
import Derived.Test.YtapnedegcnmhgaaDoorSyWlib
set_option linter.unusedVariables false
set_option linter.unusedSimpArgs false
set_option maxRecDepth 100000
namespace Go.Sy
open Go Go.Proofs
def globs0 : List (Nat × AV) := [(0, .arr (.int .u8) 2 kecFirstT)]
def globs0x1x5 : List (Nat × AV) := [(0, .arr (.int .u8) 2 kecFirstT), (1, .arr (.d .base) 6 abiBases), (5, .arr (.int .u64) 20 pow10T)]
def globs1x5 : List (Nat × AV) := [(1, .arr (.d .base) 6 abiBases), (5, .arr (.int .u64) 20 pow10T)]
def globs2x4 : List (Nat × AV) := [(2, .arr (.int .u64) 24 kecRoundsT), (4, .arr (.int .i64) 25 kecTurnsT)]
def globs4 : List (Nat × AV) := [(4, .arr (.int .i64) 25 kecTurnsT)]
def globs5 : List (Nat × AV) := [(5, .arr (.int .u64) 20 pow10T)]
def globsF : List (Nat × AV) := []
def globsG : List (Nat × AV) := [(0, .arr (.int .u8) 2 kecFirstT), (1, .arr (.d .base) 6 abiBases), (2, .arr (.int .u64) 24 kecRoundsT), (4, .arr (.int .i64) 25 kecTurnsT), (5, .arr (.int .u64) 20 pow10T)]
theorem globs0_globs0x1x5 : ∀ x ∈ globs0, x ∈ globs0x1x5 := by intro x hx; simp only [globs0, globs0x1x5, List.mem_cons, List.not_mem_nil, or_false] at hx ⊢; simp [hx]
theorem globs0x1x5_globsG : ∀ x ∈ globs0x1x5, x ∈ globsG := by intro x hx; simp only [globs0x1x5, globsG, List.mem_cons, List.not_mem_nil, or_false] at hx ⊢; rcases hx with h | h | h <;> simp [h]
theorem globs1x5_globs0x1x5 : ∀ x ∈ globs1x5, x ∈ globs0x1x5 := by intro x hx; simp only [globs1x5, globs0x1x5, List.mem_cons, List.not_mem_nil, or_false] at hx ⊢; rcases hx with h | h <;> simp [h]
theorem globs1x5_globsG : ∀ x ∈ globs1x5, x ∈ globsG := by intro x hx; simp only [globs1x5, globsG, List.mem_cons, List.not_mem_nil, or_false] at hx ⊢; rcases hx with h | h <;> simp [h]
theorem globs2x4_globsG : ∀ x ∈ globs2x4, x ∈ globsG := by intro x hx; simp only [globs2x4, globsG, List.mem_cons, List.not_mem_nil, or_false] at hx ⊢; rcases hx with h | h <;> simp [h]
theorem globs4_globs2x4 : ∀ x ∈ globs4, x ∈ globs2x4 := by intro x hx; simp only [globs4, globs2x4, List.mem_cons, List.not_mem_nil, or_false] at hx ⊢; simp [hx]
theorem globs5_globs1x5 : ∀ x ∈ globs5, x ∈ globs1x5 := by intro x hx; simp only [globs5, globs1x5, List.mem_cons, List.not_mem_nil, or_false] at hx ⊢; simp [hx]
theorem globsF_globs0 : ∀ x ∈ globsF, x ∈ globs0 := by intro x hx; simp only [globsF, globs0, List.mem_cons, List.not_mem_nil, or_false] at hx ⊢
theorem globsF_globs1x5 : ∀ x ∈ globsF, x ∈ globs1x5 := by intro x hx; simp only [globsF, globs1x5, List.mem_cons, List.not_mem_nil, or_false] at hx ⊢
theorem globsF_globs2x4 : ∀ x ∈ globsF, x ∈ globs2x4 := by intro x hx; simp only [globsF, globs2x4, List.mem_cons, List.not_mem_nil, or_false] at hx ⊢
theorem globsF_globs4 : ∀ x ∈ globsF, x ∈ globs4 := by intro x hx; simp only [globsF, globs4, List.mem_cons, List.not_mem_nil, or_false] at hx ⊢
theorem globsF_globs5 : ∀ x ∈ globsF, x ∈ globs5 := by intro x hx; simp only [globsF, globs5, List.mem_cons, List.not_mem_nil, or_false] at hx ⊢
theorem globsF_globsG : ∀ x ∈ globsF, x ∈ globsG := by intro x hx; simp only [globsF, globsG, List.mem_cons, List.not_mem_nil, or_false] at hx ⊢
def abiReaderFailI : Lay := ⟨[], [(false, 0, .pim false (.st [.str, .int .i64]))], [⟨[], []⟩]⟩
def abiReaderFailO : Lay := ⟨[], [], []⟩
def abiReaderFailP : Lay := ⟨[], [(false, 0, .ifc 120 (.st []))], [⟨[], []⟩]⟩
noncomputable def abiReaderFailE : Entry := mkP 1 0 0 [false] abiReaderFailI abiReaderFailO abiReaderFailP (fun p => abiReaderFail p)
noncomputable def abiReaderFailX : Cx := mkCx Tryd.prog 4 globsF [] [] []
theorem abiReaderFailC : CxOk abiReaderFailX (Glob globsF) := cx_ok (by kernel_rfl) (by kernel_rfl) trivial
theorem abiReaderFailK : CallOk Tryd.prog (Glob globsF) 74 abiReaderFailE :=
 fun_okP (cx := abiReaderFailX) abiReaderFailC (fn := Tryd.f74) Tryd.func74 (by kernel_rfl) Tryd.ntmps74 Tryd.call74 _ _ _ _ _ _ _ _ (by kernel_rfl) (by kernel_rfl) (by kernel_rfl) (by kernel_rfl)
  (fun w0 hG => lall_of lall_nil (by kernel_rfl : loopsOf (bodyOf Tryd.f74) = _)) (fun p => Eq.trans (b := abiReaderFailB p) (by kernel_rfl) (abiReaderFail_eq p).symm)
def abiReaderIsI : Lay := ⟨[(false, 0, .ptr 0 [])], [(true, 0, .st [.str, .int .i64]), (false, 1, .int .u8)], [⟨[(0, 0)], []⟩]⟩
def abiReaderIsO : Lay := ⟨[], [(false, 0, .bool), (true, 0, .st [.str, .int .i64])], [⟨[(0, 0)], []⟩]⟩
noncomputable def abiReaderIsE : Entry := mkB 2 1 1 [true, false] abiReaderIsI abiReaderIsO (fun p => abiReaderIs p.1 p.2)
noncomputable def abiReaderIsX : Cx := mkCx Tryd.prog 35 globsF [] [] []
theorem abiReaderIsC : CxOk abiReaderIsX (Glob globsF) := cx_ok (by kernel_rfl) (by kernel_rfl) trivial
theorem abiReaderIsK : CallOk Tryd.prog (Glob globsF) 110 abiReaderIsE :=
 fun_okB (cx := abiReaderIsX) abiReaderIsC (fn := Tryd.f110) Tryd.func110 (by kernel_rfl) Tryd.ntmps110 Tryd.call110 _ _ _ _ _ _ _ (by kernel_rfl) (by kernel_rfl) (by kernel_rfl)
  (fun w0 hG => lall_of lall_nil (by kernel_rfl : loopsOf (bodyOf Tryd.f110) = _)) (fun p => Eq.trans (b := abiReaderIsB p.1 p.2) (by kernel_rfl) (abiReaderIs_eq p.1 p.2).symm)
def abiITupleOfI : Lay := ⟨[], [(false, 0, .isl true (.d .kind))], [⟨[], []⟩]⟩
def abiITupleOfO : Lay := ⟨[], [(false, 0, .el .kind)], [⟨[], []⟩]⟩
noncomputable def abiITupleOfE : Entry := mkB 1 1 0 [true] abiITupleOfI abiITupleOfO (fun p => abiITupleOf p)
def abiITupleOfL0Y : Lay := ⟨[(false, 3, .ptr 1009 []), (false, 4, .own 1093 (.d .str))], [(false, 10, .isl true (.d .kind)), (false, 11, .int .i64), (false, 12, .int .i64), (true, 1009, .st [.int .i64, .int .i64, .isl true (.d .kind), .str, .bool, .int .i64, .int .i64, .int .i64]), (true, 1093, .row (.d .str))], [⟨[(1009, 1009)], [(false, 4, [], 1093)]⟩, ⟨[(1009, 1009), (1093, 1069)], []⟩]⟩
def abiITupleOfL0Z : List (Ex × Lay) := [(.exit 0, ⟨[(false, 3, .ptr 1009 []), (false, 4, .own 1093 (.d .str))], [(true, 1009, .st [.int .i64, .int .i64, .isl true (.d .kind), .str, .bool, .int .i64, .int .i64, .int .i64]), (true, 1093, .row (.d .str))], [⟨[(1009, 1009), (1093, 1093)], []⟩]⟩)]
noncomputable def abiITupleOfL0E : LEntry := mkL abiITupleOfL0Y abiITupleOfL0Z fun p => abiITupleOfL0 p.1 p.2.1 p.2.2.1 p.2.2.2.1 p.2.2.2.2
noncomputable def abiITupleOfX : Cx := mkCx Tryd.prog 93 globsF [(56, goJoinE)] [(4, abiITupleOfL0E)] [] [(2000000, [.ice 1009, .pack 2 .kind])]
theorem abiITupleOfC : CxOk abiITupleOfX (Glob globsF) := cx_ok (by kernel_rfl) (by kernel_rfl) ⟨goJoinK, trivial⟩
theorem abiITupleOfL0K (w0 : Ini) (hG : Glob globsF w0) : LoopOk abiITupleOfX w0 (loopAt Tryd.f89 0) abiITupleOfL0E :=
 loop_okH abiITupleOfC hG (loopAt Tryd.f89 0) (lall_of lall_nil (by kernel_rfl : loopsOf (loopAt Tryd.f89 0) = _))
  abiITupleOfL0Y abiITupleOfL0Z (by kernel_rfl) (fun p => abiITupleOfL0R p.1 p.2.1 p.2.2.1 p.2.2.2.1 p.2.2.2.2) (fun p => bigFuel) (fun p => by kernel_rfl) _ (fun p => abiITupleOfL0_eq p.1 p.2.1 p.2.2.1 p.2.2.2.1 p.2.2.2.2)
theorem abiITupleOfK : CallOk Tryd.prog (Glob globsF) 89 abiITupleOfE :=
 fun_okB (cx := abiITupleOfX) abiITupleOfC (fn := Tryd.f89) Tryd.func89 (by kernel_rfl) Tryd.ntmps89 Tryd.call89 _ _ _ _ _ _ _ (by kernel_rfl) (by kernel_rfl) (by kernel_rfl)
  (fun w0 hG => lall_of (lall_cut (b := loopAt Tryd.f89 0) (abiITupleOfL0K w0 hG) (by kernel_rfl) (lall_nil)) (by kernel_rfl : loopsOf (bodyOf Tryd.f89) = _)) (fun p => Eq.trans (b := abiITupleOfB p) (by kernel_rfl) (abiITupleOf_eq p).symm)
def abiReaderSoundI : Lay := ⟨[], [(false, 0, .pim false (.st [.str, .int .i64])), (false, 1, .el .kind)], [⟨[], []⟩]⟩
def abiReaderSoundO : Lay := ⟨[], [], [⟨[], []⟩]⟩
def abiReaderSoundP : Lay := ⟨[], [(false, 0, .ifc 120 (.st []))], [⟨[], []⟩]⟩
noncomputable def abiReaderSoundE : Entry := mkP 2 0 0 [false, false] abiReaderSoundI abiReaderSoundO abiReaderSoundP (fun p => abiReaderSound p.1 p.2)
noncomputable def abiReaderSoundX : Cx := mkCx Tryd.prog 18 globsF [(74, abiReaderFailE)] [] []
theorem abiReaderSoundC : CxOk abiReaderSoundX (Glob globsF) := cx_ok (by kernel_rfl) (by kernel_rfl) ⟨abiReaderFailK, trivial⟩
theorem abiReaderSoundK : CallOk Tryd.prog (Glob globsF) 88 abiReaderSoundE :=
 fun_okP (cx := abiReaderSoundX) abiReaderSoundC (fn := Tryd.f88) Tryd.func88 (by kernel_rfl) Tryd.ntmps88 Tryd.call88 _ _ _ _ _ _ _ _ (by kernel_rfl) (by kernel_rfl) (by kernel_rfl) (by kernel_rfl)
  (fun w0 hG => lall_of lall_nil (by kernel_rfl : loopsOf (bodyOf Tryd.f88) = _)) (fun p => Eq.trans (b := abiReaderSoundB p.1 p.2) (by kernel_rfl) (abiReaderSound_eq p.1 p.2).symm)
noncomputable def internalstringsliteHasPrefixE : Entry := mkE [.str, .str] [.bool] fun p => internalstringsliteHasPrefix p.1 p.2
noncomputable def internalstringsliteHasPrefixX : Cx := mkCx Tryd.prog 18 globsF [] [] []
theorem internalstringsliteHasPrefixC : CxOk internalstringsliteHasPrefixX (Glob globsF) := cx_ok (by kernel_rfl) (by kernel_rfl) trivial
theorem internalstringsliteHasPrefixK : CallOk Tryd.prog (Glob globsF) 149 internalstringsliteHasPrefixE :=
 fun_ok (cx := internalstringsliteHasPrefixX) internalstringsliteHasPrefixC (fn := Tryd.f149) Tryd.func149 (by kernel_rfl) Tryd.ntmps149 Tryd.call149 _ _ _ (by kernel_rfl) (by kernel_rfl) (by kernel_rfl)
  (fun w0 hG => lall_of lall_nil (by kernel_rfl : loopsOf (bodyOf Tryd.f149) = _)) (fun p => Eq.trans (b := internalstringsliteHasPrefixB p.1 p.2) (by kernel_rfl) (internalstringsliteHasPrefix_eq p.1 p.2).symm)
noncomputable def stringsHasPrefixE : Entry := mkE [.str, .str] [.bool] fun p => stringsHasPrefix p.1 p.2
noncomputable def stringsHasPrefixX : Cx := mkCx Tryd.prog 8 globsF [(149, internalstringsliteHasPrefixE)] [] []
theorem stringsHasPrefixC : CxOk stringsHasPrefixX (Glob globsF) := cx_ok (by kernel_rfl) (by kernel_rfl) ⟨internalstringsliteHasPrefixK, trivial⟩
theorem stringsHasPrefixK : CallOk Tryd.prog (Glob globsF) 133 stringsHasPrefixE :=
 fun_ok (cx := stringsHasPrefixX) stringsHasPrefixC (fn := Tryd.f133) Tryd.func133 (by kernel_rfl) Tryd.ntmps133 Tryd.call133 _ _ _ (by kernel_rfl) (by kernel_rfl) (by kernel_rfl)
  (fun w0 hG => lall_of lall_nil (by kernel_rfl : loopsOf (bodyOf Tryd.f133) = _)) (fun p => Eq.trans (b := stringsHasPrefixB p.1 p.2) (by kernel_rfl) (stringsHasPrefix_eq p.1 p.2).symm)
def abiReaderNumberI : Lay := ⟨[(false, 0, .ptr 0 [])], [(true, 0, .st [.str, .int .i64]), (false, 1, .int .i64)], [⟨[(0, 0)], []⟩]⟩
def abiReaderNumberO : Lay := ⟨[], [(false, 0, .int .i64), (true, 0, .st [.str, .int .i64])], [⟨[(0, 0)], []⟩]⟩
def abiReaderNumberP : Lay := ⟨[], [(false, 0, .ifc 120 (.st []))], [⟨[], []⟩]⟩
noncomputable def abiReaderNumberE : Entry := mkP 2 1 1 [true, false] abiReaderNumberI abiReaderNumberO abiReaderNumberP (fun p => abiReaderNumber p.1 p.2)
def abiReaderNumberL0Y : Lay := ⟨[(false, 0, .ptr 0 [])], [(false, 1, .int .i64), (false, 5, .int .i64), (false, 6, .int .i64), (true, 0, .st [.str, .int .i64])], [⟨[(0, 0)], []⟩]⟩
def abiReaderNumberL0Z : List (Ex × Lay) := [(.panic, ⟨[], [(false, 81, .ifc 120 (.st [])), (true, 0, .st [.str, .int .i64])], [⟨[(0, 0)], []⟩]⟩), (.exit 0, ⟨[], [(false, 5, .int .i64), (true, 0, .st [.str, .int .i64])], [⟨[(0, 0)], []⟩]⟩)]
noncomputable def abiReaderNumberL0E : LEntry := mkL abiReaderNumberL0Y abiReaderNumberL0Z fun p => abiReaderNumberL0 p.1 p.2.1 p.2.2.1 p.2.2.2
noncomputable def abiReaderNumberX : Cx := mkCx Tryd.prog 81 globsF [(74, abiReaderFailE)] [(2, abiReaderNumberL0E)] []
theorem abiReaderNumberC : CxOk abiReaderNumberX (Glob globsF) := cx_ok (by kernel_rfl) (by kernel_rfl) ⟨abiReaderFailK, trivial⟩
theorem abiReaderNumberL0K (w0 : Ini) (hG : Glob globsF w0) : LoopOk abiReaderNumberX w0 (loopAt Tryd.f111 0) abiReaderNumberL0E :=
 loop_okH abiReaderNumberC hG (loopAt Tryd.f111 0) (lall_of lall_nil (by kernel_rfl : loopsOf (loopAt Tryd.f111 0) = _))
  abiReaderNumberL0Y abiReaderNumberL0Z (by kernel_rfl) (fun p => abiReaderNumberL0R p.1 p.2.1 p.2.2.1 p.2.2.2) (fun p => bigFuel) (fun p => by kernel_rfl) _ (fun p => abiReaderNumberL0_eq p.1 p.2.1 p.2.2.1 p.2.2.2)
theorem abiReaderNumberK : CallOk Tryd.prog (Glob globsF) 111 abiReaderNumberE :=
 fun_okP (cx := abiReaderNumberX) abiReaderNumberC (fn := Tryd.f111) Tryd.func111 (by kernel_rfl) Tryd.ntmps111 Tryd.call111 _ _ _ _ _ _ _ _ (by kernel_rfl) (by kernel_rfl) (by kernel_rfl) (by kernel_rfl)
  (fun w0 hG => lall_of (lall_cut (b := loopAt Tryd.f111 0) (abiReaderNumberL0K w0 hG) (by kernel_rfl) (lall_nil)) (by kernel_rfl : loopsOf (bodyOf Tryd.f111) = _)) (fun p => Eq.trans (b := abiReaderNumberB p.1 p.2) (by kernel_rfl) (abiReaderNumber_eq p.1 p.2).symm)
def abiReaderRestI : Lay := ⟨[(false, 0, .ptr 0 [])], [(true, 0, .st [.str, .int .i64]), (false, 1, .el .base)], [⟨[(0, 0)], []⟩]⟩
def abiReaderRestO : Lay := ⟨[], [(false, 0, .el .kind), (true, 0, .st [.str, .int .i64])], [⟨[(0, 0)], []⟩]⟩
def abiReaderRestP : Lay := ⟨[], [(false, 0, .ifc 120 (.st []))], [⟨[], []⟩]⟩
noncomputable def abiReaderRestE : Entry := mkP 2 1 1 [true, false] abiReaderRestI abiReaderRestO abiReaderRestP (fun p => abiReaderRest p.1 p.2)
noncomputable def abiReaderRestX : Cx := mkCx Tryd.prog 72 globs5 [(74, abiReaderFailE), (111, abiReaderNumberE), (135, goItoaE)] [] [] [(2000000, [.ice 1015, .pack 4 .kind])]
theorem abiReaderRestC : CxOk abiReaderRestX (Glob globs5) := cx_ok (by kernel_rfl) (by kernel_rfl) ⟨(abiReaderFailK.up globsF_globs5), (abiReaderNumberK.up globsF_globs5), goItoaK, trivial⟩
theorem abiReaderRestK : CallOk Tryd.prog (Glob globs5) 134 abiReaderRestE :=
 fun_okP (cx := abiReaderRestX) abiReaderRestC (fn := Tryd.f134) Tryd.func134 (by kernel_rfl) Tryd.ntmps134 Tryd.call134 _ _ _ _ _ _ _ _ (by kernel_rfl) (by kernel_rfl) (by kernel_rfl) (by kernel_rfl)
  (fun w0 hG => lall_of lall_nil (by kernel_rfl : loopsOf (bodyOf Tryd.f134) = _)) (fun p => Eq.trans (b := abiReaderRestB p.1 p.2) (by kernel_rfl) (abiReaderRest_eq p.1 p.2).symm)
noncomputable def abiIListOfE : Entry := mkE [.el .kind, .int .i64] [.el .kind] fun p => abiIListOf p.1 p.2
noncomputable def abiIListOfX : Cx := mkCx Tryd.prog 72 globs5 [(135, goItoaE)] [] [] [(2000000, [.ice 1007, .ice 1019, .pack 4 .kind])]
theorem abiIListOfC : CxOk abiIListOfX (Glob globs5) := cx_ok (by kernel_rfl) (by kernel_rfl) ⟨goItoaK, trivial⟩
theorem abiIListOfK : CallOk Tryd.prog (Glob globs5) 112 abiIListOfE :=
 fun_ok (cx := abiIListOfX) abiIListOfC (fn := Tryd.f112) Tryd.func112 (by kernel_rfl) Tryd.ntmps112 Tryd.call112 _ _ _ (by kernel_rfl) (by kernel_rfl) (by kernel_rfl)
  (fun w0 hG => lall_of lall_nil (by kernel_rfl : loopsOf (bodyOf Tryd.f112) = _)) (fun p => Eq.trans (b := abiIListOfB p.1 p.2) (by kernel_rfl) (abiIListOf_eq p.1 p.2).symm)
def abiReaderKindI : Lay := ⟨[(false, 0, .ptr 0 [])], [(true, 0, .st [.str, .int .i64])], [⟨[(0, 0)], []⟩]⟩
def abiReaderKindO : Lay := ⟨[], [(false, 0, .el .kind), (true, 0, .st [.str, .int .i64])], [⟨[(0, 0)], []⟩]⟩
def abiReaderKindP : Lay := ⟨[], [(false, 0, .ifc 120 (.st []))], [⟨[], []⟩]⟩
noncomputable def abiReaderKindEF (F : List UInt8 × Int → Option ((KT × List UInt8 × Int) ⊕ (Unit))) : Entry := mkP 1 1 1 [true] abiReaderKindI abiReaderKindO abiReaderKindP (F)
noncomputable def abiReaderKindG (g : ringAbiReaderKind) : Entry := abiReaderKindEF (fun p => g.abiReaderKind p)
def abiReaderRowI : Lay := ⟨[(false, 0, .ptr 0 [])], [(true, 0, .st [.str, .int .i64])], [⟨[(0, 0)], []⟩]⟩
def abiReaderRowO : Lay := ⟨[], [(false, 0, .isl true (.d .kind)), (true, 0, .st [.str, .int .i64])], [⟨[(0, 0)], []⟩]⟩
def abiReaderRowP : Lay := ⟨[], [(false, 0, .ifc 120 (.st []))], [⟨[], []⟩]⟩
noncomputable def abiReaderRowEF (F : List UInt8 × Int → Option ((List KT × List UInt8 × Int) ⊕ (Unit))) : Entry := mkP 1 1 1 [true] abiReaderRowI abiReaderRowO abiReaderRowP (F)
noncomputable def abiReaderRowG (g : ringAbiReaderKind) : Entry := abiReaderRowEF (fun p => g.abiReaderRow p)
noncomputable def abiReaderRowE : Entry := abiReaderRowEF (fun p => abiReaderRow p)
def abiReaderFirstI : Lay := ⟨[(false, 0, .ptr 0 [])], [(true, 0, .st [.str, .int .i64])], [⟨[(0, 0)], []⟩]⟩
def abiReaderFirstO : Lay := ⟨[], [(false, 0, .el .kind), (true, 0, .st [.str, .int .i64])], [⟨[(0, 0)], []⟩]⟩
def abiReaderFirstP : Lay := ⟨[], [(false, 0, .ifc 120 (.st []))], [⟨[], []⟩]⟩
noncomputable def abiReaderFirstEF (F : List UInt8 × Int → Option ((KT × List UInt8 × Int) ⊕ (Unit))) : Entry := mkP 1 1 1 [true] abiReaderFirstI abiReaderFirstO abiReaderFirstP (F)
noncomputable def abiReaderFirstG (g : ringAbiReaderKind) : Entry := abiReaderFirstEF (fun p => g.abiReaderFirst p)
def ringAbiReaderKindOk (g : ringAbiReaderKind) : Prop := CallOk Tryd.prog (Glob globs1x5) 75 (abiReaderKindG g) ∧ CallOk Tryd.prog (Glob globs1x5) 87 (abiReaderRowG g) ∧ CallOk Tryd.prog (Glob globs1x5) 109 (abiReaderFirstG g) ∧ True
def abiReaderKindL0Y : Lay := ⟨[(false, 0, .ptr 0 [])], [(false, 3, .el .kind), (true, 0, .st [.str, .int .i64])], [⟨[(0, 0)], []⟩]⟩
def abiReaderKindL0Z : List (Ex × Lay) := [(.panic, ⟨[], [(false, 23, .ifc 120 (.st []))], [⟨[], []⟩]⟩), (.exit 0, ⟨[], [(false, 3, .el .kind), (true, 0, .st [.str, .int .i64])], [⟨[(0, 0)], []⟩]⟩)]
noncomputable def abiReaderKindL0E (g : ringAbiReaderKind) : LEntry := mkL abiReaderKindL0Y abiReaderKindL0Z fun p => abiReaderKindL0 g p.1 p.2
noncomputable def abiReaderKindX (g : ringAbiReaderKind) : Cx := mkCx Tryd.prog 23 globs1x5 [(74, abiReaderFailE), (88, abiReaderSoundE), (109, abiReaderFirstG g), (110, abiReaderIsE), (111, abiReaderNumberE), (112, abiIListOfE)] [(2, (abiReaderKindL0E g))] []
theorem abiReaderKindC (g : ringAbiReaderKind) (h : ringAbiReaderKindOk g) : CxOk (abiReaderKindX g) (Glob globs1x5) := cx_ok (by kernel_rfl) (by kernel_rfl) ⟨(abiReaderFailK.up globsF_globs1x5), (abiReaderSoundK.up globsF_globs1x5), h.2.2.1, (abiReaderIsK.up globsF_globs1x5), (abiReaderNumberK.up globsF_globs1x5), (abiIListOfK.up globs5_globs1x5), trivial⟩
theorem abiReaderKindL0K (g : ringAbiReaderKind) (h : ringAbiReaderKindOk g) (w0 : Ini) (hG : Glob globs1x5 w0) : LoopOk (abiReaderKindX g) w0 (loopAt Tryd.f75 0) (abiReaderKindL0E g) :=
 loop_okH (abiReaderKindC g h) hG (loopAt Tryd.f75 0) (lall_of lall_nil (by kernel_rfl : loopsOf (loopAt Tryd.f75 0) = _))
  abiReaderKindL0Y abiReaderKindL0Z (by kernel_rfl) (fun p => abiReaderKindL0R g p.1 p.2) (fun p => bigFuel) (fun p => by kernel_rfl) _ (fun p => abiReaderKindL0_eq g p.1 p.2)
theorem abiReaderKindS (g : ringAbiReaderKind) (h : ringAbiReaderKindOk g) : CallOk Tryd.prog (Glob globs1x5) 75 (abiReaderKindG (ringAbiReaderKindS g)) :=
 fun_okP (cx := (abiReaderKindX g)) (abiReaderKindC g h) (fn := Tryd.f75) Tryd.func75 (by kernel_rfl) Tryd.ntmps75 Tryd.call75 _ _ _ _ _ _ _ _ (by kernel_rfl) (by kernel_rfl) (by kernel_rfl) (by kernel_rfl)
  (fun w0 hG => lall_of (lall_cut (b := loopAt Tryd.f75 0) (abiReaderKindL0K g h w0 hG) (by kernel_rfl) (lall_nil)) (by kernel_rfl : loopsOf (bodyOf Tryd.f75) = _)) (fun p => Eq.trans (b := abiReaderKindB g p) (by kernel_rfl) rfl)
def abiReaderRowL0Y : Lay := ⟨[(false, 0, .ptr 0 []), (false, 3, .own 1024 (.d .kind))], [(true, 0, .st [.str, .int .i64]), (true, 1024, .row (.d .kind))], [⟨[(0, 0)], [(false, 3, [], 1024)]⟩, ⟨[(0, 0), (1024, 1015)], []⟩]⟩
def abiReaderRowL0Z : List (Ex × Lay) := [(.ret, ⟨[(false, 2, .own 1015 (.d .kind))], [(true, 1015, .row (.d .kind)), (true, 0, .st [.str, .int .i64])], [⟨[(1015, 1015), (0, 0)], []⟩]⟩), (.panic, ⟨[], [(false, 24, .ifc 120 (.st []))], [⟨[], []⟩]⟩)]
noncomputable def abiReaderRowL0E (g : ringAbiReaderKind) : LEntry := mkL abiReaderRowL0Y abiReaderRowL0Z fun p => abiReaderRowL0 g p.1 p.2
noncomputable def abiReaderRowX (g : ringAbiReaderKind) : Cx := mkCx Tryd.prog 24 globs1x5 [(74, abiReaderFailE), (75, abiReaderKindG g), (110, abiReaderIsE)] [(6, (abiReaderRowL0E g))] [] [(2000000, [.ice 1015, .iceT 2])]
theorem abiReaderRowC (g : ringAbiReaderKind) (h : ringAbiReaderKindOk g) : CxOk (abiReaderRowX g) (Glob globs1x5) := cx_ok (by kernel_rfl) (by kernel_rfl) ⟨(abiReaderFailK.up globsF_globs1x5), h.1, (abiReaderIsK.up globsF_globs1x5), trivial⟩
theorem abiReaderRowL0K (g : ringAbiReaderKind) (h : ringAbiReaderKindOk g) (w0 : Ini) (hG : Glob globs1x5 w0) : LoopOk (abiReaderRowX g) w0 (loopAt Tryd.f87 0) (abiReaderRowL0E g) :=
 loop_okH (abiReaderRowC g h) hG (loopAt Tryd.f87 0) (lall_of lall_nil (by kernel_rfl : loopsOf (loopAt Tryd.f87 0) = _))
  abiReaderRowL0Y abiReaderRowL0Z (by kernel_rfl) (fun p => abiReaderRowL0R g p.1 p.2) (fun p => bigFuel) (fun p => by kernel_rfl) _ (fun p => abiReaderRowL0_eq g p.1 p.2)
theorem abiReaderRowS (g : ringAbiReaderKind) (h : ringAbiReaderKindOk g) : CallOk Tryd.prog (Glob globs1x5) 87 (abiReaderRowG (ringAbiReaderKindS g)) :=
 fun_okP (cx := (abiReaderRowX g)) (abiReaderRowC g h) (fn := Tryd.f87) Tryd.func87 (by kernel_rfl) Tryd.ntmps87 Tryd.call87 _ _ _ _ _ _ _ _ (by kernel_rfl) (by kernel_rfl) (by kernel_rfl) (by kernel_rfl)
  (fun w0 hG => lall_of (lall_cut (b := loopAt Tryd.f87 0) (abiReaderRowL0K g h w0 hG) (by kernel_rfl) (lall_nil)) (by kernel_rfl : loopsOf (bodyOf Tryd.f87) = _)) (fun p => Eq.trans (b := abiReaderRowB g p) (by kernel_rfl) rfl)
def abiReaderFirstL0Y : Lay := ⟨[(false, 0, .ptr 0 [])], [(false, 43, .arr (.d .base) 6), (false, 44, .int .i64), (true, 0, .st [.str, .int .i64])], [⟨[(0, 0)], []⟩]⟩
def abiReaderFirstL0Z : List (Ex × Lay) := [(.ret, ⟨[], [(false, 2, .el .kind), (true, 0, .st [.str, .int .i64])], [⟨[(0, 0)], []⟩]⟩), (.panic, ⟨[], [(false, 75, .ifc 120 (.st []))], [⟨[], []⟩]⟩), (.exit 0, ⟨[(false, 0, .ptr 0 [])], [(true, 0, .st [.str, .int .i64])], [⟨[(0, 0)], []⟩]⟩)]
noncomputable def abiReaderFirstL0E (g : ringAbiReaderKind) : LEntry := mkL abiReaderFirstL0Y abiReaderFirstL0Z fun p => abiReaderFirstL0 g p.1 p.2.1 p.2.2
noncomputable def abiReaderFirstX (g : ringAbiReaderKind) : Cx := mkCx Tryd.prog 75 globs1x5 [(74, abiReaderFailE), (87, abiReaderRowG g), (88, abiReaderSoundE), (89, abiITupleOfE), (133, stringsHasPrefixE), (134, abiReaderRestE)] [(8, (abiReaderFirstL0E g))] [] [(2000000, [.pack 2 .kind])]
theorem abiReaderFirstC (g : ringAbiReaderKind) (h : ringAbiReaderKindOk g) : CxOk (abiReaderFirstX g) (Glob globs1x5) := cx_ok (by kernel_rfl) (by kernel_rfl) ⟨(abiReaderFailK.up globsF_globs1x5), h.2.1, (abiReaderSoundK.up globsF_globs1x5), (abiITupleOfK.up globsF_globs1x5), (stringsHasPrefixK.up globsF_globs1x5), (abiReaderRestK.up globs5_globs1x5), trivial⟩
theorem abiReaderFirstL0K (g : ringAbiReaderKind) (h : ringAbiReaderKindOk g) (w0 : Ini) (hG : Glob globs1x5 w0) : LoopOk (abiReaderFirstX g) w0 (loopAt Tryd.f109 0) (abiReaderFirstL0E g) :=
 loop_okH (abiReaderFirstC g h) hG (loopAt Tryd.f109 0) (lall_of lall_nil (by kernel_rfl : loopsOf (loopAt Tryd.f109 0) = _))
  abiReaderFirstL0Y abiReaderFirstL0Z (by kernel_rfl) (fun p => abiReaderFirstL0R g p.1 p.2.1 p.2.2) (fun p => bigFuel) (fun p => by kernel_rfl) _ (fun p => abiReaderFirstL0_eq g p.1 p.2.1 p.2.2)
theorem abiReaderFirstS (g : ringAbiReaderKind) (h : ringAbiReaderKindOk g) : CallOk Tryd.prog (Glob globs1x5) 109 (abiReaderFirstG (ringAbiReaderKindS g)) :=
 fun_okP (cx := (abiReaderFirstX g)) (abiReaderFirstC g h) (fn := Tryd.f109) Tryd.func109 (by kernel_rfl) Tryd.ntmps109 Tryd.call109 _ _ _ _ _ _ _ _ (by kernel_rfl) (by kernel_rfl) (by kernel_rfl) (by kernel_rfl)
  (fun w0 hG => lall_of (lall_cut (b := loopAt Tryd.f109 0) (abiReaderFirstL0K g h w0 hG) (by kernel_rfl) (lall_nil)) (by kernel_rfl : loopsOf (bodyOf Tryd.f109) = _)) (fun p => Eq.trans (b := abiReaderFirstB g p) (by kernel_rfl) rfl)
theorem ringAbiReaderKindA : ∀ n, ringAbiReaderKindOk (ringAbiReaderKindI n)
 | 0 => ⟨callOk_none (fun h => by cases h) (fun _ => rfl), callOk_none (fun h => by cases h) (fun _ => rfl), callOk_none (fun h => by cases h) (fun _ => rfl), trivial⟩
 | n + 1 => ⟨abiReaderKindS _ (ringAbiReaderKindA n), abiReaderRowS _ (ringAbiReaderKindA n), abiReaderFirstS _ (ringAbiReaderKindA n), trivial⟩
theorem abiReaderRowK : CallOk Tryd.prog (Glob globs1x5) 87 abiReaderRowE :=
 (congrArg (fun F => CallOk Tryd.prog (Glob globs1x5) 87 (abiReaderRowEF F)) (funext fun p : List UInt8 × Int => abiReaderRow_eq p)).mpr (ringAbiReaderKindA bigFuel).2.1
noncomputable def ref22IStartsE : Entry := mkE [.str, .int .i64, .str] [.bool] fun p => ref22IStarts p.1 p.2.1 p.2.2
noncomputable def ref22IStartsX : Cx := mkCx Tryd.prog 25 globsF [] [] []
theorem ref22IStartsC : CxOk ref22IStartsX (Glob globsF) := cx_ok (by kernel_rfl) (by kernel_rfl) trivial
theorem ref22IStartsK : CallOk Tryd.prog (Glob globsF) 114 ref22IStartsE :=
 fun_ok (cx := ref22IStartsX) ref22IStartsC (fn := Tryd.f114) Tryd.func114 (by kernel_rfl) Tryd.ntmps114 Tryd.call114 _ _ _ (by kernel_rfl) (by kernel_rfl) (by kernel_rfl)
  (fun w0 hG => lall_of lall_nil (by kernel_rfl : loopsOf (bodyOf Tryd.f114) = _)) (fun p => Eq.trans (b := ref22IStartsB p.1 p.2.1 p.2.2) (by kernel_rfl) (ref22IStarts_eq p.1 p.2.1 p.2.2).symm)
noncomputable def ref22IDigitE : Entry := mkE [.int .u8] [.bool] fun p => ref22IDigit p
noncomputable def ref22IDigitX : Cx := mkCx Tryd.prog 9 globsF [] [] []
theorem ref22IDigitC : CxOk ref22IDigitX (Glob globsF) := cx_ok (by kernel_rfl) (by kernel_rfl) trivial
theorem ref22IDigitK : CallOk Tryd.prog (Glob globsF) 94 ref22IDigitE :=
 fun_ok (cx := ref22IDigitX) ref22IDigitC (fn := Tryd.f94) Tryd.func94 (by kernel_rfl) Tryd.ntmps94 Tryd.call94 _ _ _ (by kernel_rfl) (by kernel_rfl) (by kernel_rfl)
  (fun w0 hG => lall_of lall_nil (by kernel_rfl : loopsOf (bodyOf Tryd.f94) = _)) (fun p => Eq.trans (b := ref22IDigitB p) (by kernel_rfl) (ref22IDigit_eq p).symm)
noncomputable def ref22INumberE : Entry := mkE [.str, .int .i64] [.int .i64, .int .i64] fun p => ref22INumber p.1 p.2
def ref22INumberL0Y : Lay := ⟨[], [(false, 0, .str), (false, 1, .int .i64), (false, 6, .int .i64), (false, 7, .int .i64)], [⟨[], []⟩]⟩
def ref22INumberL0Z : List (Ex × Lay) := [(.exit 0, ⟨[], [(false, 0, .str), (false, 1, .int .i64), (false, 6, .int .i64), (false, 7, .int .i64)], [⟨[], []⟩]⟩)]
noncomputable def ref22INumberL0E : LEntry := mkL ref22INumberL0Y ref22INumberL0Z fun p => ref22INumberL0 p.1 p.2.1 p.2.2.1 p.2.2.2
noncomputable def ref22INumberX : Cx := mkCx Tryd.prog 46 globsF [(94, ref22IDigitE)] [(3, ref22INumberL0E)] []
theorem ref22INumberC : CxOk ref22INumberX (Glob globsF) := cx_ok (by kernel_rfl) (by kernel_rfl) ⟨ref22IDigitK, trivial⟩
theorem ref22INumberL0K (w0 : Ini) (hG : Glob globsF w0) : LoopOk ref22INumberX w0 (loopAt Tryd.f115 0) ref22INumberL0E :=
 loop_okH ref22INumberC hG (loopAt Tryd.f115 0) (lall_of lall_nil (by kernel_rfl : loopsOf (loopAt Tryd.f115 0) = _))
  ref22INumberL0Y ref22INumberL0Z (by kernel_rfl) (fun p => ref22INumberL0R p.1 p.2.1 p.2.2.1 p.2.2.2) (fun p => bigFuel) (fun p => by kernel_rfl) _ (fun p => ref22INumberL0_eq p.1 p.2.1 p.2.2.1 p.2.2.2)
theorem ref22INumberK : CallOk Tryd.prog (Glob globsF) 115 ref22INumberE :=
 fun_ok (cx := ref22INumberX) ref22INumberC (fn := Tryd.f115) Tryd.func115 (by kernel_rfl) Tryd.ntmps115 Tryd.call115 _ _ _ (by kernel_rfl) (by kernel_rfl) (by kernel_rfl)
  (fun w0 hG => lall_of (lall_cut (b := loopAt Tryd.f115 0) (ref22INumberL0K w0 hG) (by kernel_rfl) (lall_nil)) (by kernel_rfl : loopsOf (bodyOf Tryd.f115) = _)) (fun p => Eq.trans (b := ref22INumberB p.1 p.2) (by kernel_rfl) (ref22INumber_eq p.1 p.2).symm)
noncomputable def ref22ISizedE : Entry := mkE [.str, .int .i64, .int .i64, .int .i64, .int .i64, .int .i64, .int .i64] [.el .rtyp, .int .i64, .bool] fun p => ref22ISized p.1 p.2.1 p.2.2.1 p.2.2.2.1 p.2.2.2.2.1 p.2.2.2.2.2.1 p.2.2.2.2.2.2
noncomputable def ref22ISizedX : Cx := mkCx Tryd.prog 59 globsF [(94, ref22IDigitE), (115, ref22INumberE)] [] [] [(1, [.packB 1014 .rtyp]), (2000000, [.packB 1014 .rtyp])]
theorem ref22ISizedC : CxOk ref22ISizedX (Glob globsF) := cx_ok (by kernel_rfl) (by kernel_rfl) ⟨ref22IDigitK, ref22INumberK, trivial⟩
theorem ref22ISizedK : CallOk Tryd.prog (Glob globsF) 136 ref22ISizedE :=
 fun_ok (cx := ref22ISizedX) ref22ISizedC (fn := Tryd.f136) Tryd.func136 (by kernel_rfl) Tryd.ntmps136 Tryd.call136 _ _ _ (by kernel_rfl) (by kernel_rfl) (by kernel_rfl)
  (fun w0 hG => lall_of lall_nil (by kernel_rfl : loopsOf (bodyOf Tryd.f136) = _)) (fun p => Eq.trans (b := ref22ISizedB p.1 p.2.1 p.2.2.1 p.2.2.2.1 p.2.2.2.2.1 p.2.2.2.2.2.1 p.2.2.2.2.2.2) (by kernel_rfl) (ref22ISized_eq p.1 p.2.1 p.2.2.1 p.2.2.2.1 p.2.2.2.2.1 p.2.2.2.2.2.1 p.2.2.2.2.2.2).symm)
noncomputable def ref22ITypedEF (F : List UInt8 × Int → Option (RT × Int × Bool)) : Entry := mkE [.str, .int .i64] [.el .rtyp, .int .i64, .bool] F
noncomputable def ref22ITypedG (g : ringRef22ITyped) : Entry := ref22ITypedEF (fun p => g.ref22ITyped p.1 p.2)
noncomputable def ref22ITypedE : Entry := ref22ITypedEF (fun p => ref22ITyped p.1 p.2)
noncomputable def ref22IBaseEF (F : List UInt8 × Int → Option (RT × Int × Bool)) : Entry := mkE [.str, .int .i64] [.el .rtyp, .int .i64, .bool] F
noncomputable def ref22IBaseG (g : ringRef22ITyped) : Entry := ref22IBaseEF (fun p => g.ref22IBase p.1 p.2)
noncomputable def ref22ITupleEF (F : List UInt8 × Int → Option (RT × Int × Bool)) : Entry := mkE [.str, .int .i64] [.el .rtyp, .int .i64, .bool] F
noncomputable def ref22ITupleG (g : ringRef22ITyped) : Entry := ref22ITupleEF (fun p => g.ref22ITuple p.1 p.2)
def ringRef22ITypedOk (g : ringRef22ITyped) : Prop := CallOk Tryd.prog (Glob globsF) 76 (ref22ITypedG g) ∧ CallOk Tryd.prog (Glob globsF) 113 (ref22IBaseG g) ∧ CallOk Tryd.prog (Glob globsF) 137 (ref22ITupleG g) ∧ True
def ref22ITypedL0Y : Lay := ⟨[(false, 4, .ptr 1004 []), (false, 7, .ptr 1007 [])], [(false, 0, .str), (false, 8, .int .i64), (true, 1004, .el .rtyp), (true, 1007, .el .rtyp)], [⟨[(1004, 1004), (1007, 1007)], []⟩]⟩
def ref22ITypedL0Z : List (Ex × Lay) := [(.ret, ⟨[(false, 4, .ptr 1004 []), (false, 5, .int .i64 0), (false, 6, .bool false)], [(true, 1004, .st [.int .i64, .int .i64, .nsl (.d .rtyp)])], [⟨[(1004, 1004)], []⟩]⟩), (.exit 0, ⟨[(false, 4, .ptr 1004 []), (false, 7, .ptr 1007 [])], [(false, 8, .int .i64), (true, 1004, .el .rtyp), (true, 1007, .el .rtyp)], [⟨[(1004, 1004), (1007, 1007)], []⟩]⟩)]
noncomputable def ref22ITypedL0E (g : ringRef22ITyped) : LEntry := mkL ref22ITypedL0Y ref22ITypedL0Z fun p => ref22ITypedL0 g p.1 p.2.1 p.2.2.1 p.2.2.2
noncomputable def ref22ITypedX (g : ringRef22ITyped) : Cx := mkCx Tryd.prog 63 globsF [(113, ref22IBaseG g), (114, ref22IStartsE), (115, ref22INumberE)] [(4, (ref22ITypedL0E g))] [] [(1, [.packB 1004 .rtyp]), (7, [.ice 1029, .packB 1007 .rtyp]), (12, [.ice 1057, .packB 1007 .rtyp]), (2000000, [.packB 1004 .rtyp])]
theorem ref22ITypedC (g : ringRef22ITyped) (h : ringRef22ITypedOk g) : CxOk (ref22ITypedX g) (Glob globsF) := cx_ok (by kernel_rfl) (by kernel_rfl) ⟨h.2.1, ref22IStartsK, ref22INumberK, trivial⟩
theorem ref22ITypedL0K (g : ringRef22ITyped) (h : ringRef22ITypedOk g) (w0 : Ini) (hG : Glob globsF w0) : LoopOk (ref22ITypedX g) w0 (loopAt Tryd.f76 0) (ref22ITypedL0E g) :=
 loop_okH (ref22ITypedC g h) hG (loopAt Tryd.f76 0) (lall_of lall_nil (by kernel_rfl : loopsOf (loopAt Tryd.f76 0) = _))
  ref22ITypedL0Y ref22ITypedL0Z (by kernel_rfl) (fun p => ref22ITypedL0R g p.1 p.2.1 p.2.2.1 p.2.2.2) (fun p => bigFuel) (fun p => by kernel_rfl) _ (fun p => ref22ITypedL0_eq g p.1 p.2.1 p.2.2.1 p.2.2.2)
theorem ref22ITypedS (g : ringRef22ITyped) (h : ringRef22ITypedOk g) : CallOk Tryd.prog (Glob globsF) 76 (ref22ITypedG (ringRef22ITypedS g)) :=
 fun_ok (cx := (ref22ITypedX g)) (ref22ITypedC g h) (fn := Tryd.f76) Tryd.func76 (by kernel_rfl) Tryd.ntmps76 Tryd.call76 _ _ _ (by kernel_rfl) (by kernel_rfl) (by kernel_rfl)
  (fun w0 hG => lall_of (lall_cut (b := loopAt Tryd.f76 0) (ref22ITypedL0K g h w0 hG) (by kernel_rfl) (lall_nil)) (by kernel_rfl : loopsOf (bodyOf Tryd.f76) = _)) (fun p => Eq.trans (b := ref22ITypedB g p.1 p.2) (by kernel_rfl) rfl)
noncomputable def ref22IBaseX (g : ringRef22ITyped) : Cx := mkCx Tryd.prog 94 globsF [(114, ref22IStartsE), (136, ref22ISizedE), (137, ref22ITupleG g)] [] [] [(1, [.packB 1004 .rtyp]), (2000000, [.packB 1004 .rtyp])]
theorem ref22IBaseC (g : ringRef22ITyped) (h : ringRef22ITypedOk g) : CxOk (ref22IBaseX g) (Glob globsF) := cx_ok (by kernel_rfl) (by kernel_rfl) ⟨ref22IStartsK, ref22ISizedK, h.2.2.1, trivial⟩
theorem ref22IBaseS (g : ringRef22ITyped) (h : ringRef22ITypedOk g) : CallOk Tryd.prog (Glob globsF) 113 (ref22IBaseG (ringRef22ITypedS g)) :=
 fun_ok (cx := (ref22IBaseX g)) (ref22IBaseC g h) (fn := Tryd.f113) Tryd.func113 (by kernel_rfl) Tryd.ntmps113 Tryd.call113 _ _ _ (by kernel_rfl) (by kernel_rfl) (by kernel_rfl)
  (fun w0 hG => lall_of lall_nil (by kernel_rfl : loopsOf (bodyOf Tryd.f113) = _)) (fun p => Eq.trans (b := ref22IBaseB g p.1 p.2) (by kernel_rfl) rfl)
def ref22ITupleL0Y : Lay := ⟨[(false, 4, .ptr 1004 []), (false, 7, .ptr 1007 [])], [(false, 0, .str), (false, 1, .int .i64), (true, 1004, .st [.int .i64, .int .i64, .nsl (.d .rtyp)]), (true, 1007, .st [.int .i64, .int .i64, .own 1046 (.d .rtyp)]), (true, 1046, .row (.d .rtyp))], [⟨[(1004, 1004), (1007, 1007)], [(true, 1007, [.fld 2 2], 1046)]⟩, ⟨[(1004, 1004), (1007, 1007), (1046, 1030)], []⟩]⟩
def ref22ITupleL0Z : List (Ex × Lay) := [(.ret, ⟨[(false, 4, .ptr 1004 [])], [(false, 5, .int .i64), (false, 6, .bool), (true, 1004, .st [.int .i64, .int .i64, .own 1030 (.d .rtyp)]), (true, 1030, .row (.d .rtyp))], [⟨[(1004, 1004)], [(true, 1004, [.fld 2 2], 1030)]⟩, ⟨[(1004, 1004), (1030, 1030)], []⟩]⟩), (.exit 0, ⟨[(false, 4, .ptr 1004 [])], [(true, 1004, .st [.int .i64, .int .i64, .nsl (.d .rtyp)])], [⟨[(1004, 1004)], []⟩]⟩)]
noncomputable def ref22ITupleL0E (g : ringRef22ITyped) : LEntry := mkL ref22ITupleL0Y ref22ITupleL0Z fun p => ref22ITupleL0 g p.1 p.2.1 p.2.2.1 p.2.2.2.1 p.2.2.2.2
noncomputable def ref22ITupleX (g : ringRef22ITyped) : Cx := mkCx Tryd.prog 46 globsF [(76, ref22ITypedG g), (114, ref22IStartsE)] [(2, (ref22ITupleL0E g))] [] [(2000000, [.ice 1030, .packB 1004 .rtyp])]
theorem ref22ITupleC (g : ringRef22ITyped) (h : ringRef22ITypedOk g) : CxOk (ref22ITupleX g) (Glob globsF) := cx_ok (by kernel_rfl) (by kernel_rfl) ⟨h.1, ref22IStartsK, trivial⟩
theorem ref22ITupleL0K (g : ringRef22ITyped) (h : ringRef22ITypedOk g) (w0 : Ini) (hG : Glob globsF w0) : LoopOk (ref22ITupleX g) w0 (loopAt Tryd.f137 0) (ref22ITupleL0E g) :=
 loop_okH (ref22ITupleC g h) hG (loopAt Tryd.f137 0) (lall_of lall_nil (by kernel_rfl : loopsOf (loopAt Tryd.f137 0) = _))
  ref22ITupleL0Y ref22ITupleL0Z (by kernel_rfl) (fun p => ref22ITupleL0R g p.1 p.2.1 p.2.2.1 p.2.2.2.1 p.2.2.2.2) (fun p => bigFuel) (fun p => by kernel_rfl) _ (fun p => ref22ITupleL0_eq g p.1 p.2.1 p.2.2.1 p.2.2.2.1 p.2.2.2.2)
theorem ref22ITupleS (g : ringRef22ITyped) (h : ringRef22ITypedOk g) : CallOk Tryd.prog (Glob globsF) 137 (ref22ITupleG (ringRef22ITypedS g)) :=
 fun_ok (cx := (ref22ITupleX g)) (ref22ITupleC g h) (fn := Tryd.f137) Tryd.func137 (by kernel_rfl) Tryd.ntmps137 Tryd.call137 _ _ _ (by kernel_rfl) (by kernel_rfl) (by kernel_rfl)
  (fun w0 hG => lall_of (lall_cut (b := loopAt Tryd.f137 0) (ref22ITupleL0K g h w0 hG) (by kernel_rfl) (lall_nil)) (by kernel_rfl : loopsOf (bodyOf Tryd.f137) = _)) (fun p => Eq.trans (b := ref22ITupleB g p.1 p.2) (by kernel_rfl) rfl)
theorem ringRef22ITypedA : ∀ n, ringRef22ITypedOk (ringRef22ITypedI n)
 | 0 => ⟨callOk_none (fun h => by exact ⟨rfl, fun _ => rfl⟩) (fun _ => rfl), callOk_none (fun h => by exact ⟨rfl, fun _ => rfl⟩) (fun _ => rfl), callOk_none (fun h => by exact ⟨rfl, fun _ => rfl⟩) (fun _ => rfl), trivial⟩
 | n + 1 => ⟨ref22ITypedS _ (ringRef22ITypedA n), ref22IBaseS _ (ringRef22ITypedA n), ref22ITupleS _ (ringRef22ITypedA n), trivial⟩
theorem ref22ITypedK : CallOk Tryd.prog (Glob globsF) 76 ref22ITypedE :=
 (congrArg (fun F => CallOk Tryd.prog (Glob globsF) 76 (ref22ITypedEF F)) (funext fun p : List UInt8 × Int => ref22ITyped_eq p.1 p.2)).mpr (ringRef22ITypedA bigFuel).1
noncomputable def ref22IDeepEF (F : RT → Option (Int)) : Entry := mkE [.el .rtyp] [.int .i64] F
noncomputable def ref22IDeepG (g : ringRef22IDeep) : Entry := ref22IDeepEF (fun p => g.ref22IDeep p)
noncomputable def ref22IDeepE : Entry := ref22IDeepEF (fun p => ref22IDeep p)
def ringRef22IDeepOk (g : ringRef22IDeep) : Prop := CallOk Tryd.prog (Glob globsF) 77 (ref22IDeepG g) ∧ True
def ref22IDeepL0Y : Lay := ⟨[(false, 1, .ptr 1001 [])], [(false, 3, .int .i64), (false, 4, .int .i64), (true, 1001, .el .rtyp)], [⟨[(1001, 1001)], []⟩]⟩
def ref22IDeepL0Z : List (Ex × Lay) := [(.exit 0, ⟨[], [(false, 3, .int .i64)], [⟨[], []⟩]⟩)]
noncomputable def ref22IDeepL0E (g : ringRef22IDeep) : LEntry := mkL ref22IDeepL0Y ref22IDeepL0Z fun p => ref22IDeepL0 g p.1 p.2.1 p.2.2
noncomputable def ref22IDeepX (g : ringRef22IDeep) : Cx := mkCx Tryd.prog 26 globsF [(77, ref22IDeepG g)] [(5, (ref22IDeepL0E g))] []
theorem ref22IDeepC (g : ringRef22IDeep) (h : ringRef22IDeepOk g) : CxOk (ref22IDeepX g) (Glob globsF) := cx_ok (by kernel_rfl) (by kernel_rfl) ⟨h.1, trivial⟩
theorem ref22IDeepL0K (g : ringRef22IDeep) (h : ringRef22IDeepOk g) (w0 : Ini) (hG : Glob globsF w0) : LoopOk (ref22IDeepX g) w0 (loopAt Tryd.f77 0) (ref22IDeepL0E g) :=
 loop_okH (ref22IDeepC g h) hG (loopAt Tryd.f77 0) (lall_of lall_nil (by kernel_rfl : loopsOf (loopAt Tryd.f77 0) = _))
  ref22IDeepL0Y ref22IDeepL0Z (by kernel_rfl) (fun p => ref22IDeepL0R g p.1 p.2.1 p.2.2) (fun p => bigFuel) (fun p => by kernel_rfl) _ (fun p => ref22IDeepL0_eq g p.1 p.2.1 p.2.2)
theorem ref22IDeepS (g : ringRef22IDeep) (h : ringRef22IDeepOk g) : CallOk Tryd.prog (Glob globsF) 77 (ref22IDeepG (ringRef22IDeepS g)) :=
 fun_ok (cx := (ref22IDeepX g)) (ref22IDeepC g h) (fn := Tryd.f77) Tryd.func77 (by kernel_rfl) Tryd.ntmps77 Tryd.call77 _ _ _ (by kernel_rfl) (by kernel_rfl) (by kernel_rfl)
  (fun w0 hG => lall_of (lall_cut (b := loopAt Tryd.f77 0) (ref22IDeepL0K g h w0 hG) (by kernel_rfl) (lall_nil)) (by kernel_rfl : loopsOf (bodyOf Tryd.f77) = _)) (fun p => Eq.trans (b := ref22IDeepB g p) (by kernel_rfl) rfl)
theorem ringRef22IDeepA : ∀ n, ringRef22IDeepOk (ringRef22IDeepI n)
 | 0 => ⟨callOk_none (fun h => by exact ⟨rfl, fun _ => rfl⟩) (fun _ => rfl), trivial⟩
 | n + 1 => ⟨ref22IDeepS _ (ringRef22IDeepA n), trivial⟩
theorem ref22IDeepK : CallOk Tryd.prog (Glob globsF) 77 ref22IDeepE :=
 (congrArg (fun F => CallOk Tryd.prog (Glob globsF) 77 (ref22IDeepEF F)) (funext fun p : RT => ref22IDeep_eq p)).mpr (ringRef22IDeepA bigFuel).1
noncomputable def ref22IWidthEF (F : RT → Option (Int)) : Entry := mkE [.el .rtyp] [.int .i64] F
noncomputable def ref22IWidthG (g : ringRef22IWidth) : Entry := ref22IWidthEF (fun p => g.ref22IWidth p)
noncomputable def ref22IWidthE : Entry := ref22IWidthEF (fun p => ref22IWidth p)
noncomputable def ref22IWidthsEF (F : List RT → Option (Int)) : Entry := mkE [.isl false (.d .rtyp)] [.int .i64] F
noncomputable def ref22IWidthsG (g : ringRef22IWidth) : Entry := ref22IWidthsEF (fun p => g.ref22IWidths p)
def ringRef22IWidthOk (g : ringRef22IWidth) : Prop := CallOk Tryd.prog (Glob globsF) 80 (ref22IWidthG g) ∧ CallOk Tryd.prog (Glob globsF) 98 (ref22IWidthsG g) ∧ True
noncomputable def ref22IWidthX (g : ringRef22IWidth) : Cx := mkCx Tryd.prog 23 globsF [(80, ref22IWidthG g), (98, ref22IWidthsG g)] [] []
theorem ref22IWidthC (g : ringRef22IWidth) (h : ringRef22IWidthOk g) : CxOk (ref22IWidthX g) (Glob globsF) := cx_ok (by kernel_rfl) (by kernel_rfl) ⟨h.1, h.2.1, trivial⟩
theorem ref22IWidthS (g : ringRef22IWidth) (h : ringRef22IWidthOk g) : CallOk Tryd.prog (Glob globsF) 80 (ref22IWidthG (ringRef22IWidthS g)) :=
 fun_ok (cx := (ref22IWidthX g)) (ref22IWidthC g h) (fn := Tryd.f80) Tryd.func80 (by kernel_rfl) Tryd.ntmps80 Tryd.call80 _ _ _ (by kernel_rfl) (by kernel_rfl) (by kernel_rfl)
  (fun w0 hG => lall_of lall_nil (by kernel_rfl : loopsOf (bodyOf Tryd.f80) = _)) (fun p => Eq.trans (b := ref22IWidthB g p) (by kernel_rfl) rfl)
def ref22IWidthsL0Y : Lay := ⟨[], [(false, 0, .isl false (.d .rtyp)), (false, 3, .int .i64), (false, 4, .int .i64)], [⟨[], []⟩]⟩
def ref22IWidthsL0Z : List (Ex × Lay) := [(.exit 0, ⟨[], [(false, 3, .int .i64)], [⟨[], []⟩]⟩)]
noncomputable def ref22IWidthsL0E (g : ringRef22IWidth) : LEntry := mkL ref22IWidthsL0Y ref22IWidthsL0Z fun p => ref22IWidthsL0 g p.1 p.2.1 p.2.2
noncomputable def ref22IWidthsX (g : ringRef22IWidth) : Cx := mkCx Tryd.prog 20 globsF [(80, ref22IWidthG g)] [(3, (ref22IWidthsL0E g))] []
theorem ref22IWidthsC (g : ringRef22IWidth) (h : ringRef22IWidthOk g) : CxOk (ref22IWidthsX g) (Glob globsF) := cx_ok (by kernel_rfl) (by kernel_rfl) ⟨h.1, trivial⟩
theorem ref22IWidthsL0K (g : ringRef22IWidth) (h : ringRef22IWidthOk g) (w0 : Ini) (hG : Glob globsF w0) : LoopOk (ref22IWidthsX g) w0 (loopAt Tryd.f98 0) (ref22IWidthsL0E g) :=
 loop_okH (ref22IWidthsC g h) hG (loopAt Tryd.f98 0) (lall_of lall_nil (by kernel_rfl : loopsOf (loopAt Tryd.f98 0) = _))
  ref22IWidthsL0Y ref22IWidthsL0Z (by kernel_rfl) (fun p => ref22IWidthsL0R g p.1 p.2.1 p.2.2) (fun p => bigFuel) (fun p => by kernel_rfl) _ (fun p => ref22IWidthsL0_eq g p.1 p.2.1 p.2.2)
theorem ref22IWidthsS (g : ringRef22IWidth) (h : ringRef22IWidthOk g) : CallOk Tryd.prog (Glob globsF) 98 (ref22IWidthsG (ringRef22IWidthS g)) :=
 fun_ok (cx := (ref22IWidthsX g)) (ref22IWidthsC g h) (fn := Tryd.f98) Tryd.func98 (by kernel_rfl) Tryd.ntmps98 Tryd.call98 _ _ _ (by kernel_rfl) (by kernel_rfl) (by kernel_rfl)
  (fun w0 hG => lall_of (lall_cut (b := loopAt Tryd.f98 0) (ref22IWidthsL0K g h w0 hG) (by kernel_rfl) (lall_nil)) (by kernel_rfl : loopsOf (bodyOf Tryd.f98) = _)) (fun p => Eq.trans (b := ref22IWidthsB g p) (by kernel_rfl) rfl)
theorem ringRef22IWidthA : ∀ n, ringRef22IWidthOk (ringRef22IWidthI n)
 | 0 => ⟨callOk_none (fun h => by exact ⟨rfl, fun _ => rfl⟩) (fun _ => rfl), callOk_none (fun h => by exact ⟨rfl, fun _ => rfl⟩) (fun _ => rfl), trivial⟩
 | n + 1 => ⟨ref22IWidthS _ (ringRef22IWidthA n), ref22IWidthsS _ (ringRef22IWidthA n), trivial⟩
theorem ref22IWidthK : CallOk Tryd.prog (Glob globsF) 80 ref22IWidthE :=
 (congrArg (fun F => CallOk Tryd.prog (Glob globsF) 80 (ref22IWidthEF F)) (funext fun p : RT => ref22IWidth_eq p)).mpr (ringRef22IWidthA bigFuel).1
noncomputable def ref22INarrowEF (F : RT → Option (Bool)) : Entry := mkE [.el .rtyp] [.bool] F
noncomputable def ref22INarrowG (g : ringRef22INarrow) : Entry := ref22INarrowEF (fun p => g.ref22INarrow p)
noncomputable def ref22INarrowE : Entry := ref22INarrowEF (fun p => ref22INarrow p)
def ringRef22INarrowOk (g : ringRef22INarrow) : Prop := CallOk Tryd.prog (Glob globsF) 78 (ref22INarrowG g) ∧ True
def ref22INarrowL0Y : Lay := ⟨[(false, 1, .ptr 1001 [])], [(false, 3, .int .i64), (true, 1001, .el .rtyp)], [⟨[(1001, 1001)], []⟩]⟩
def ref22INarrowL0Z : List (Ex × Lay) := [(.ret, ⟨[(false, 2, .bool false)], [], [⟨[], []⟩]⟩), (.exit 0, ⟨[], [], [⟨[], []⟩]⟩)]
noncomputable def ref22INarrowL0E (g : ringRef22INarrow) : LEntry := mkL ref22INarrowL0Y ref22INarrowL0Z fun p => ref22INarrowL0 g p.1 p.2
noncomputable def ref22INarrowX (g : ringRef22INarrow) : Cx := mkCx Tryd.prog 21 globsF [(78, ref22INarrowG g), (80, ref22IWidthE)] [(4, (ref22INarrowL0E g))] []
theorem ref22INarrowC (g : ringRef22INarrow) (h : ringRef22INarrowOk g) : CxOk (ref22INarrowX g) (Glob globsF) := cx_ok (by kernel_rfl) (by kernel_rfl) ⟨h.1, ref22IWidthK, trivial⟩
theorem ref22INarrowL0K (g : ringRef22INarrow) (h : ringRef22INarrowOk g) (w0 : Ini) (hG : Glob globsF w0) : LoopOk (ref22INarrowX g) w0 (loopAt Tryd.f78 0) (ref22INarrowL0E g) :=
 loop_okH (ref22INarrowC g h) hG (loopAt Tryd.f78 0) (lall_of lall_nil (by kernel_rfl : loopsOf (loopAt Tryd.f78 0) = _))
  ref22INarrowL0Y ref22INarrowL0Z (by kernel_rfl) (fun p => ref22INarrowL0R g p.1 p.2) (fun p => bigFuel) (fun p => by kernel_rfl) _ (fun p => ref22INarrowL0_eq g p.1 p.2)
theorem ref22INarrowS (g : ringRef22INarrow) (h : ringRef22INarrowOk g) : CallOk Tryd.prog (Glob globsF) 78 (ref22INarrowG (ringRef22INarrowS g)) :=
 fun_ok (cx := (ref22INarrowX g)) (ref22INarrowC g h) (fn := Tryd.f78) Tryd.func78 (by kernel_rfl) Tryd.ntmps78 Tryd.call78 _ _ _ (by kernel_rfl) (by kernel_rfl) (by kernel_rfl)
  (fun w0 hG => lall_of (lall_cut (b := loopAt Tryd.f78 0) (ref22INarrowL0K g h w0 hG) (by kernel_rfl) (lall_nil)) (by kernel_rfl : loopsOf (bodyOf Tryd.f78) = _)) (fun p => Eq.trans (b := ref22INarrowB g p) (by kernel_rfl) rfl)
theorem ringRef22INarrowA : ∀ n, ringRef22INarrowOk (ringRef22INarrowI n)
 | 0 => ⟨callOk_none (fun h => by exact ⟨rfl, fun _ => rfl⟩) (fun _ => rfl), trivial⟩
 | n + 1 => ⟨ref22INarrowS _ (ringRef22INarrowA n), trivial⟩
theorem ref22INarrowK : CallOk Tryd.prog (Glob globsF) 78 ref22INarrowE :=
 (congrArg (fun F => CallOk Tryd.prog (Glob globsF) 78 (ref22INarrowEF F)) (funext fun p : RT => ref22INarrow_eq p)).mpr (ringRef22INarrowA bigFuel).1
noncomputable def ref22ReadE : Entry := mkE [.str] [.el .rtyp, .int .i64] fun p => ref22Read p
noncomputable def ref22ReadX : Cx := mkCx Tryd.prog 37 globsF [(76, ref22ITypedE), (77, ref22IDeepE), (78, ref22INarrowE)] [] [] [(1, [.packB 1002 .rtyp]), (2000000, [.packB 1002 .rtyp])]
theorem ref22ReadC : CxOk ref22ReadX (Glob globsF) := cx_ok (by kernel_rfl) (by kernel_rfl) ⟨ref22ITypedK, ref22IDeepK, ref22INarrowK, trivial⟩
theorem ref22ReadK : CallOk Tryd.prog (Glob globsF) 49 ref22ReadE :=
 fun_ok (cx := ref22ReadX) ref22ReadC (fn := Tryd.f49) Tryd.func49 (by kernel_rfl) Tryd.ntmps49 Tryd.call49 _ _ _ (by kernel_rfl) (by kernel_rfl) (by kernel_rfl)
  (fun w0 hG => lall_of lall_nil (by kernel_rfl : loopsOf (bodyOf Tryd.f49) = _)) (fun p => Eq.trans (b := ref22ReadB p) (by kernel_rfl) (ref22Read_eq p).symm)
noncomputable def ref22IDecimalEF (F : Int → Option (List UInt8)) : Entry := mkE [.int .i64] [.str] F
noncomputable def ref22IDecimalG (g : ringRef22IDecimal) : Entry := ref22IDecimalEF (fun p => g.ref22IDecimal p)
noncomputable def ref22IDecimalE : Entry := ref22IDecimalEF (fun p => ref22IDecimal p)
def ringRef22IDecimalOk (g : ringRef22IDecimal) : Prop := CallOk Tryd.prog (Glob globsF) 79 (ref22IDecimalG g) ∧ True
noncomputable def ref22IDecimalX (g : ringRef22IDecimal) : Cx := mkCx Tryd.prog 17 globsF [(79, ref22IDecimalG g)] [] []
theorem ref22IDecimalC (g : ringRef22IDecimal) (h : ringRef22IDecimalOk g) : CxOk (ref22IDecimalX g) (Glob globsF) := cx_ok (by kernel_rfl) (by kernel_rfl) ⟨h.1, trivial⟩
theorem ref22IDecimalS (g : ringRef22IDecimal) (h : ringRef22IDecimalOk g) : CallOk Tryd.prog (Glob globsF) 79 (ref22IDecimalG (ringRef22IDecimalS g)) :=
 fun_ok (cx := (ref22IDecimalX g)) (ref22IDecimalC g h) (fn := Tryd.f79) Tryd.func79 (by kernel_rfl) Tryd.ntmps79 Tryd.call79 _ _ _ (by kernel_rfl) (by kernel_rfl) (by kernel_rfl)
  (fun w0 hG => lall_of lall_nil (by kernel_rfl : loopsOf (bodyOf Tryd.f79) = _)) (fun p => Eq.trans (b := ref22IDecimalB g p) (by kernel_rfl) rfl)
theorem ringRef22IDecimalA : ∀ n, ringRef22IDecimalOk (ringRef22IDecimalI n)
 | 0 => ⟨callOk_none (fun h => by exact ⟨rfl, fun _ => rfl⟩) (fun _ => rfl), trivial⟩
 | n + 1 => ⟨ref22IDecimalS _ (ringRef22IDecimalA n), trivial⟩
theorem ref22IDecimalK : CallOk Tryd.prog (Glob globsF) 79 ref22IDecimalE :=
 (congrArg (fun F => CallOk Tryd.prog (Glob globsF) 79 (ref22IDecimalEF F)) (funext fun p : Int => ref22IDecimal_eq p)).mpr (ringRef22IDecimalA bigFuel).1
noncomputable def ref22TextEF (F : RT → Option (List UInt8)) : Entry := mkE [.el .rtyp] [.str] F
noncomputable def ref22TextG (g : ringRef22Text) : Entry := ref22TextEF (fun p => g.ref22Text p)
noncomputable def ref22TextE : Entry := ref22TextEF (fun p => ref22Text p)
noncomputable def ref22ITextsEF (F : List RT → Option (List UInt8)) : Entry := mkE [.isl false (.d .rtyp)] [.str] F
noncomputable def ref22ITextsG (g : ringRef22Text) : Entry := ref22ITextsEF (fun p => g.ref22ITexts p)
noncomputable def ref22ITextsE : Entry := ref22ITextsEF (fun p => ref22ITexts p)
def ringRef22TextOk (g : ringRef22Text) : Prop := CallOk Tryd.prog (Glob globsF) 50 (ref22TextG g) ∧ CallOk Tryd.prog (Glob globsF) 58 (ref22ITextsG g) ∧ True
noncomputable def ref22TextX (g : ringRef22Text) : Cx := mkCx Tryd.prog 57 globsF [(50, ref22TextG g), (58, ref22ITextsG g), (79, ref22IDecimalE)] [] []
theorem ref22TextC (g : ringRef22Text) (h : ringRef22TextOk g) : CxOk (ref22TextX g) (Glob globsF) := cx_ok (by kernel_rfl) (by kernel_rfl) ⟨h.1, h.2.1, ref22IDecimalK, trivial⟩
theorem ref22TextS (g : ringRef22Text) (h : ringRef22TextOk g) : CallOk Tryd.prog (Glob globsF) 50 (ref22TextG (ringRef22TextS g)) :=
 fun_ok (cx := (ref22TextX g)) (ref22TextC g h) (fn := Tryd.f50) Tryd.func50 (by kernel_rfl) Tryd.ntmps50 Tryd.call50 _ _ _ (by kernel_rfl) (by kernel_rfl) (by kernel_rfl)
  (fun w0 hG => lall_of lall_nil (by kernel_rfl : loopsOf (bodyOf Tryd.f50) = _)) (fun p => Eq.trans (b := ref22TextB g p) (by kernel_rfl) rfl)
def ref22ITextsL0Y : Lay := ⟨[], [(false, 0, .isl false (.d .rtyp)), (false, 3, .str), (false, 4, .int .i64)], [⟨[], []⟩]⟩
def ref22ITextsL0Z : List (Ex × Lay) := [(.exit 0, ⟨[], [(false, 3, .str)], [⟨[], []⟩]⟩)]
noncomputable def ref22ITextsL0E (g : ringRef22Text) : LEntry := mkL ref22ITextsL0Y ref22ITextsL0Z fun p => ref22ITextsL0 g p.1 p.2.1 p.2.2
noncomputable def ref22ITextsX (g : ringRef22Text) : Cx := mkCx Tryd.prog 23 globsF [(50, ref22TextG g)] [(3, (ref22ITextsL0E g))] []
theorem ref22ITextsC (g : ringRef22Text) (h : ringRef22TextOk g) : CxOk (ref22ITextsX g) (Glob globsF) := cx_ok (by kernel_rfl) (by kernel_rfl) ⟨h.1, trivial⟩
theorem ref22ITextsL0K (g : ringRef22Text) (h : ringRef22TextOk g) (w0 : Ini) (hG : Glob globsF w0) : LoopOk (ref22ITextsX g) w0 (loopAt Tryd.f58 0) (ref22ITextsL0E g) :=
 loop_okH (ref22ITextsC g h) hG (loopAt Tryd.f58 0) (lall_of lall_nil (by kernel_rfl : loopsOf (loopAt Tryd.f58 0) = _))
  ref22ITextsL0Y ref22ITextsL0Z (by kernel_rfl) (fun p => ref22ITextsL0R g p.1 p.2.1 p.2.2) (fun p => bigFuel) (fun p => by kernel_rfl) _ (fun p => ref22ITextsL0_eq g p.1 p.2.1 p.2.2)
theorem ref22ITextsS (g : ringRef22Text) (h : ringRef22TextOk g) : CallOk Tryd.prog (Glob globsF) 58 (ref22ITextsG (ringRef22TextS g)) :=
 fun_ok (cx := (ref22ITextsX g)) (ref22ITextsC g h) (fn := Tryd.f58) Tryd.func58 (by kernel_rfl) Tryd.ntmps58 Tryd.call58 _ _ _ (by kernel_rfl) (by kernel_rfl) (by kernel_rfl)
  (fun w0 hG => lall_of (lall_cut (b := loopAt Tryd.f58 0) (ref22ITextsL0K g h w0 hG) (by kernel_rfl) (lall_nil)) (by kernel_rfl : loopsOf (bodyOf Tryd.f58) = _)) (fun p => Eq.trans (b := ref22ITextsB g p) (by kernel_rfl) rfl)
theorem ringRef22TextA : ∀ n, ringRef22TextOk (ringRef22TextI n)
 | 0 => ⟨callOk_none (fun h => by exact ⟨rfl, fun _ => rfl⟩) (fun _ => rfl), callOk_none (fun h => by exact ⟨rfl, fun _ => rfl⟩) (fun _ => rfl), trivial⟩
 | n + 1 => ⟨ref22TextS _ (ringRef22TextA n), ref22ITextsS _ (ringRef22TextA n), trivial⟩
theorem ref22TextK : CallOk Tryd.prog (Glob globsF) 50 ref22TextE :=
 (congrArg (fun F => CallOk Tryd.prog (Glob globsF) 50 (ref22TextEF F)) (funext fun p : RT => ref22Text_eq p)).mpr (ringRef22TextA bigFuel).1
theorem ref22ITextsK : CallOk Tryd.prog (Glob globsF) 58 ref22ITextsE :=
 (congrArg (fun F => CallOk Tryd.prog (Glob globsF) 58 (ref22ITextsEF F)) (funext fun p : List RT => ref22ITexts_eq p)).mpr (ringRef22TextA bigFuel).2.1
noncomputable def law22INumE : Entry := mkE [.int .i64] [.int .i64] fun p => law22INum p
noncomputable def law22INumX : Cx := mkCx Tryd.prog 4 globsF [] [] []
theorem law22INumC : CxOk law22INumX (Glob globsF) := cx_ok (by kernel_rfl) (by kernel_rfl) trivial
theorem law22INumK : CallOk Tryd.prog (Glob globsF) 16 law22INumE :=
 fun_ok (cx := law22INumX) law22INumC (fn := Tryd.f16) Tryd.func16 (by kernel_rfl) Tryd.ntmps16 Tryd.call16 _ _ _ (by kernel_rfl) (by kernel_rfl) (by kernel_rfl)
  (fun w0 hG => lall_of lall_nil (by kernel_rfl : loopsOf (bodyOf Tryd.f16) = _)) (fun p => Eq.trans (b := law22INumB p) (by kernel_rfl) (law22INum_eq p).symm)
end Go.Sy
