/- The links: each typed function is what the code computes. Printed by a program. -/
import Derived.Test.YtapnedegcnmhgaaDoorSyVN
import Derived.Test.YtapnedegcnmhgaaDoorSyWT
set_option linter.unusedVariables false
set_option linter.unusedSimpArgs false
set_option maxRecDepth 100000
namespace Go.Sy
open Go Go.Proofs
noncomputable def abiILetterE : Entry := mkE [.int .u8] [.bool] fun p => abiILetter p
noncomputable def abiILetterX : Cx := mkCx Tryd.prog 25 globsF [] [] []
theorem abiILetterC : CxOk abiILetterX (Glob globsF) := cx_ok (by kernel_rfl) (by kernel_rfl) trivial
theorem abiILetterK : CallOk Tryd.prog (Glob globsF) 86 abiILetterE :=
 fun_ok (cx := abiILetterX) abiILetterC (fn := Tryd.f86) Tryd.func86 (by kernel_rfl) Tryd.ntmps86 Tryd.call86 _ _ _ (by kernel_rfl) (by kernel_rfl) (by kernel_rfl)
  (fun w0 hG => lall_of lall_nil (by kernel_rfl : loopsOf (bodyOf Tryd.f86) = _)) (fun p => Eq.trans (b := abiILetterB p) (by kernel_rfl) (abiILetter_eq p).symm)
def abiISignatureC1aI : Lay := ⟨[(false, 0, .ptr 0 []), (false, 1, .ptr 1 []), (false, 2, .ptr 2 [])], [(true, 0, .str), (true, 1, .isl true (.d .kind)), (true, 2, .int .i64), (false, 6, .nili)], [⟨[(0, 0), (1, 1), (2, 2)], []⟩]⟩
def abiISignatureC1aO : Lay := ⟨[], [(true, 0, .str), (true, 1, .isl true (.d .kind)), (true, 2, .int .i64)], [⟨[(0, 0), (1, 1), (2, 2)], []⟩]⟩
noncomputable def abiISignatureC1aE : Entry := mkR 3 6 3 [true, true, true] abiISignatureC1aI abiISignatureC1aO (fun p => abiISignatureC1a p.1 p.2.1 p.2.2.1 p.2.2.2)
noncomputable def abiISignatureC1aX : Cx := mkCx Tryd.prog 12 globs1x5 [] [] []
theorem abiISignatureC1aC : CxOk abiISignatureC1aX (Glob globs1x5) := cx_ok (by kernel_rfl) (by kernel_rfl) trivial
theorem abiISignatureC1aK : CallOkD Tryd.prog (Glob globs1x5) 85 abiISignatureC1aE :=
 fun_okR (cx := abiISignatureC1aX) abiISignatureC1aC (fn := Tryd.f85) Tryd.func85 (id := 0) (o := firstO (bodyOf Tryd.f85)) (C := tailC (bodyOf Tryd.f85)) (by kernel_rfl) Tryd.ntmps85 (fun ρ w => rfl) (by kernel_rfl) (d := 6) (by kernel_rfl) (by kernel_rfl) 3 3 [true, true, true] abiISignatureC1aI abiISignatureC1aO _
  (by kernel_rfl) (by kernel_rfl) (by kernel_rfl) (fun w0 hG => lall_of lall_nil (by kernel_rfl : loopsOf (tailC (bodyOf Tryd.f85)) = _)) (fun p => Eq.trans (b := abiISignatureC1aB p.1 p.2.1 p.2.2.1 p.2.2.2) (by kernel_rfl) (abiISignatureC1a_eq p.1 p.2.1 p.2.2.1 p.2.2.2).symm)
def abiISignatureC1bI : Lay := ⟨[(false, 0, .ptr 0 []), (false, 1, .ptr 1 []), (false, 2, .ptr 2 [])], [(true, 0, .str), (true, 1, .isl true (.d .kind)), (true, 2, .int .i64), (false, 6, .ifc 120 (.st []))], [⟨[(0, 0), (1, 1), (2, 2)], []⟩]⟩
def abiISignatureC1bO : Lay := ⟨[], [(true, 0, .str), (true, 1, .isl true (.d .kind)), (true, 2, .int .i64)], [⟨[(0, 0), (1, 1), (2, 2)], []⟩]⟩
noncomputable def abiISignatureC1bE : Entry := mkR 3 6 3 [true, true, true] abiISignatureC1bI abiISignatureC1bO (fun p => abiISignatureC1b p.1 p.2.1 p.2.2.1 p.2.2.2)
noncomputable def abiISignatureC1bX : Cx := mkCx Tryd.prog 12 globs1x5 [] [] [] [(2000000, [.packB 1 .kind])]
theorem abiISignatureC1bC : CxOk abiISignatureC1bX (Glob globs1x5) := cx_ok (by kernel_rfl) (by kernel_rfl) trivial
theorem abiISignatureC1bK : CallOkD Tryd.prog (Glob globs1x5) 85 abiISignatureC1bE :=
 fun_okR (cx := abiISignatureC1bX) abiISignatureC1bC (fn := Tryd.f85) Tryd.func85 (id := 0) (o := firstO (bodyOf Tryd.f85)) (C := tailC (bodyOf Tryd.f85)) (by kernel_rfl) Tryd.ntmps85 (fun ρ w => rfl) (by kernel_rfl) (d := 6) (by kernel_rfl) (by kernel_rfl) 3 3 [true, true, true] abiISignatureC1bI abiISignatureC1bO _
  (by kernel_rfl) (by kernel_rfl) (by kernel_rfl) (fun w0 hG => lall_of lall_nil (by kernel_rfl : loopsOf (tailC (bodyOf Tryd.f85)) = _)) (fun p => Eq.trans (b := abiISignatureC1bB p.1 p.2.1 p.2.2.1 p.2.2.2) (by kernel_rfl) (abiISignatureC1b_eq p.1 p.2.1 p.2.2.1 p.2.2.2).symm)
def abiISignatureI : Lay := ⟨[], [(false, 0, .str)], [⟨[], []⟩]⟩
def abiISignatureO : Lay := ⟨[], [(false, 0, .str), (false, 1, .isl true (.d .kind)), (false, 2, .int .i64)], [⟨[], []⟩]⟩
noncomputable def abiISignatureE : Entry := mkB 1 3 0 [false] abiISignatureI abiISignatureO (fun p => abiISignature p)
def abiISignatureL0Y : Lay := ⟨[(false, 2, .ptr 0 []), (false, 3, .ptr 1 []), (false, 4, .ptr 2 []), (false, 5, .ptr 1009 [])], [(false, 0, .str), (true, 0, .str), (true, 1, .isl true (.d .kind)), (true, 2, .int .i64), (true, 1009, .st [.str, .int .i64])], [⟨[(0, 0), (1, 1), (2, 2), (1009, 1009)], []⟩]⟩
def abiISignatureL0Z : List (Ex × Lay) := [(.exit 0, ⟨[(false, 2, .ptr 0 []), (false, 3, .ptr 1 []), (false, 4, .ptr 2 []), (false, 5, .ptr 1009 [])], [(false, 0, .str), (true, 0, .str), (true, 1, .isl true (.d .kind)), (true, 2, .int .i64), (true, 1009, .st [.str, .int .i64])], [⟨[(0, 0), (1, 1), (2, 2), (1009, 1009)], []⟩]⟩)]
noncomputable def abiISignatureL0E : LEntry := mkL abiISignatureL0Y abiISignatureL0Z fun p => abiISignatureL0 p.1 p.2.1 p.2.2.1 p.2.2.2.1 p.2.2.2.2
noncomputable def abiISignatureX : Cx := mkCx Tryd.prog 96 globs1x5 [(74, abiReaderFailE), (86, abiILetterE), (87, abiReaderRowE), (88, abiReaderSoundE), (89, abiITupleOfE)] [(3, abiISignatureL0E)] [] [(2, [.packB 1 .kind])]
theorem abiISignatureC : CxOk abiISignatureX (Glob globs1x5) := cx_ok (by kernel_rfl) (by kernel_rfl) ⟨(abiReaderFailK.up globsF_globs1x5), (abiILetterK.up globsF_globs1x5), abiReaderRowK, (abiReaderSoundK.up globsF_globs1x5), (abiITupleOfK.up globsF_globs1x5), trivial⟩
theorem abiISignatureL0K (w0 : Ini) (hG : Glob globs1x5 w0) : LoopOk abiISignatureX w0 (loopAt Tryd.f55 0) abiISignatureL0E :=
 loop_okH abiISignatureC hG (loopAt Tryd.f55 0) (lall_of lall_nil (by kernel_rfl : loopsOf (loopAt Tryd.f55 0) = _))
  abiISignatureL0Y abiISignatureL0Z (by kernel_rfl) (fun p => abiISignatureL0R p.1 p.2.1 p.2.2.1 p.2.2.2.1 p.2.2.2.2) (fun p => bigFuel) (fun p => by kernel_rfl) _ (fun p => abiISignatureL0_eq p.1 p.2.1 p.2.2.1 p.2.2.2.1 p.2.2.2.2)
def abiISignatureM : Lay := ⟨[(false, 2, .ptr 0 []), (false, 3, .ptr 1 []), (false, 4, .ptr 2 []), (true, 1, .nsl (.d .kind))], [(false, 0, .str), (true, 0, .str), (true, 2, .int .i64)], []⟩
theorem abiISignatureD : Tryd.f55.body = some (.seq (headC (bodyOf Tryd.f55)) (.seq (.region 1 #[regO 0 (tailC (bodyOf Tryd.f55)), regO 1 (tailC (bodyOf Tryd.f55))] false) (tailC (tailC (bodyOf Tryd.f55))))) := by kernel_rfl
theorem abiISignatureDf (ρ : Operand → Value) (w : World) (cv : Array Value) (h : ρ (.tmp 6) = .func (.func 85) #[] cv) : (execOp ρ (regO 1 (tailC (bodyOf Tryd.f55)))).run Tryd.prog w = .ok (.defer ⟨.fn (.func 85) cv, #[]⟩) w :=
 defer_run (c := callOf (regO 1 (tailC (bodyOf Tryd.f55))).op) (by kernel_rfl) (by kernel_rfl) (by kernel_rfl) ρ w cv h
theorem abiISignatureK : CallOk Tryd.prog (Glob globs1x5) 55 abiISignatureE :=
 fun_okD (cx := abiISignatureX) abiISignatureC (fn := Tryd.f55) Tryd.func55 abiISignatureD Tryd.ntmps55 Tryd.call55 (t := 6) (g := 85) (by kernel_rfl) (by kernel_rfl) (by kernel_rfl) (by kernel_rfl) (by kernel_rfl) abiISignatureDf Tryd.call85 abiISignatureC1aK abiISignatureC1bK abiISignatureM ⟨[(0, 1002), (1, 1003), (2, 1004)], []⟩ [.ptr 0 [], .ptr 1 [], .ptr 2 []]
  1 3 0 [false] abiISignatureI abiISignatureO _ (by kernel_rfl) (by kernel_rfl) (by kernel_rfl) (by kernel_rfl)
  (fun w0 hG => lall_of lall_nil (by kernel_rfl : loopsOf (headC (bodyOf Tryd.f55)) = _)) (fun w0 hG => lall_of (lall_cut (b := loopAt Tryd.f55 0) (abiISignatureL0K w0 hG) (by kernel_rfl) (lall_nil)) (by kernel_rfl : loopsOf (tailC (tailC (bodyOf Tryd.f55))) = _)) (fun p => Eq.trans (b := abiISignatureB p) (by kernel_rfl) (abiISignature_eq p).symm)
noncomputable def abiSignatureE : Entry := mkE [.str] [.str, .isl true (.d .str), .int .i64] fun p => abiSignature p
def abiSignatureL0Y : Lay := ⟨[(false, 8, .own 1041 (.d .str))], [(false, 5, .str), (false, 20, .isl true (.d .kind)), (false, 21, .int .i64), (false, 22, .int .i64), (true, 1041, .row (.d .str))], [⟨[], [(false, 8, [], 1041)]⟩, ⟨[(1041, 1032)], []⟩]⟩
def abiSignatureL0Z : List (Ex × Lay) := [(.exit 0, ⟨[(false, 8, .own 1041 (.d .str))], [(false, 5, .str), (true, 1041, .row (.d .str))], [⟨[(1041, 1041)], []⟩]⟩)]
noncomputable def abiSignatureL0E : LEntry := mkL abiSignatureL0Y abiSignatureL0Z fun p => abiSignatureL0 p.1 p.2.1 p.2.2.1 p.2.2.2.1 p.2.2.2.2
noncomputable def abiSignatureX : Cx := mkCx Tryd.prog 41 globs1x5 [(55, abiISignatureE), (56, goJoinE)] [(6, abiSignatureL0E)] [] [(2000000, [.ice 1041, .iceT 3])]
theorem abiSignatureC : CxOk abiSignatureX (Glob globs1x5) := cx_ok (by kernel_rfl) (by kernel_rfl) ⟨abiISignatureK, (goJoinK.up globsF_globs1x5), trivial⟩
theorem abiSignatureL0K (w0 : Ini) (hG : Glob globs1x5 w0) : LoopOk abiSignatureX w0 (loopAt Tryd.f22 0) abiSignatureL0E :=
 loop_okH abiSignatureC hG (loopAt Tryd.f22 0) (lall_of lall_nil (by kernel_rfl : loopsOf (loopAt Tryd.f22 0) = _))
  abiSignatureL0Y abiSignatureL0Z (by kernel_rfl) (fun p => abiSignatureL0R p.1 p.2.1 p.2.2.1 p.2.2.2.1 p.2.2.2.2) (fun p => bigFuel) (fun p => by kernel_rfl) _ (fun p => abiSignatureL0_eq p.1 p.2.1 p.2.2.1 p.2.2.2.1 p.2.2.2.2)
theorem abiSignatureK : CallOk Tryd.prog (Glob globs1x5) 22 abiSignatureE :=
 fun_ok (cx := abiSignatureX) abiSignatureC (fn := Tryd.f22) Tryd.func22 (by kernel_rfl) Tryd.ntmps22 Tryd.call22 _ _ _ (by kernel_rfl) (by kernel_rfl) (by kernel_rfl)
  (fun w0 hG => lall_of (lall_cut (b := loopAt Tryd.f22 0) (abiSignatureL0K w0 hG) (by kernel_rfl) (lall_nil)) (by kernel_rfl : loopsOf (bodyOf Tryd.f22) = _)) (fun p => Eq.trans (b := abiSignatureB p) (by kernel_rfl) (abiSignature_eq p).symm)
noncomputable def ref22ILetterE : Entry := mkE [.int .u8] [.bool] fun p => ref22ILetter p
noncomputable def ref22ILetterX : Cx := mkCx Tryd.prog 25 globsF [] [] []
theorem ref22ILetterC : CxOk ref22ILetterX (Glob globsF) := cx_ok (by kernel_rfl) (by kernel_rfl) trivial
theorem ref22ILetterK : CallOk Tryd.prog (Glob globsF) 93 ref22ILetterE :=
 fun_ok (cx := ref22ILetterX) ref22ILetterC (fn := Tryd.f93) Tryd.func93 (by kernel_rfl) Tryd.ntmps93 Tryd.call93 _ _ _ (by kernel_rfl) (by kernel_rfl) (by kernel_rfl)
  (fun w0 hG => lall_of lall_nil (by kernel_rfl : loopsOf (bodyOf Tryd.f93) = _)) (fun p => Eq.trans (b := ref22ILetterB p) (by kernel_rfl) (ref22ILetter_eq p).symm)
noncomputable def ref22NamedE : Entry := mkE [.str] [.str, .isl true (.d .rtyp), .int .i64] fun p => ref22Named p
def ref22NamedL0Y : Lay := ⟨[], [(false, 0, .str), (false, 5, .int .i64)], [⟨[], []⟩]⟩
def ref22NamedL0Z : List (Ex × Lay) := [(.exit 0, ⟨[], [(false, 0, .str), (false, 5, .int .i64)], [⟨[], []⟩]⟩)]
noncomputable def ref22NamedL0E : LEntry := mkL ref22NamedL0Y ref22NamedL0Z fun p => ref22NamedL0 p.1 p.2
noncomputable def ref22NamedX : Cx := mkCx Tryd.prog 66 globsF [(49, ref22ReadE), (93, ref22ILetterE), (94, ref22IDigitE)] [(4, ref22NamedL0E)] [] [(2000000, [.iceT 3])]
theorem ref22NamedC : CxOk ref22NamedX (Glob globsF) := cx_ok (by kernel_rfl) (by kernel_rfl) ⟨ref22ReadK, ref22ILetterK, ref22IDigitK, trivial⟩
theorem ref22NamedL0K (w0 : Ini) (hG : Glob globsF w0) : LoopOk ref22NamedX w0 (loopAt Tryd.f57 0) ref22NamedL0E :=
 loop_okH ref22NamedC hG (loopAt Tryd.f57 0) (lall_of lall_nil (by kernel_rfl : loopsOf (loopAt Tryd.f57 0) = _))
  ref22NamedL0Y ref22NamedL0Z (by kernel_rfl) (fun p => ref22NamedL0R p.1 p.2) (fun p => bigFuel) (fun p => by kernel_rfl) _ (fun p => ref22NamedL0_eq p.1 p.2)
theorem ref22NamedK : CallOk Tryd.prog (Glob globsF) 57 ref22NamedE :=
 fun_ok (cx := ref22NamedX) ref22NamedC (fn := Tryd.f57) Tryd.func57 (by kernel_rfl) Tryd.ntmps57 Tryd.call57 _ _ _ (by kernel_rfl) (by kernel_rfl) (by kernel_rfl)
  (fun w0 hG => lall_of (lall_cut (b := loopAt Tryd.f57 0) (ref22NamedL0K w0 hG) (by kernel_rfl) (lall_nil)) (by kernel_rfl : loopsOf (bodyOf Tryd.f57) = _)) (fun p => Eq.trans (b := ref22NamedB p) (by kernel_rfl) (ref22Named_eq p).symm)
noncomputable def ref22SignatureE : Entry := mkE [.str] [.str, .isl true (.d .str), .int .i64] fun p => ref22Signature p
def ref22SignatureL0Y : Lay := ⟨[(false, 8, .own 1040 (.d .str))], [(false, 5, .str), (false, 6, .isl true (.d .rtyp)), (false, 9, .int .i64), (true, 1040, .row (.d .str))], [⟨[], [(false, 8, [], 1040)]⟩, ⟨[(1040, 1032)], []⟩]⟩
def ref22SignatureL0Z : List (Ex × Lay) := [(.exit 0, ⟨[(false, 8, .own 1040 (.d .str))], [(false, 5, .str), (false, 6, .isl true (.d .rtyp)), (true, 1040, .row (.d .str))], [⟨[(1040, 1040)], []⟩]⟩)]
noncomputable def ref22SignatureL0E : LEntry := mkL ref22SignatureL0Y ref22SignatureL0Z fun p => ref22SignatureL0 p.1 p.2.1 p.2.2.1 p.2.2.2
noncomputable def ref22SignatureX : Cx := mkCx Tryd.prog 40 globsF [(50, ref22TextE), (57, ref22NamedE), (58, ref22ITextsE)] [(6, ref22SignatureL0E)] [] [(2000000, [.ice 1040, .iceT 3])]
theorem ref22SignatureC : CxOk ref22SignatureX (Glob globsF) := cx_ok (by kernel_rfl) (by kernel_rfl) ⟨ref22TextK, ref22NamedK, ref22ITextsK, trivial⟩
theorem ref22SignatureL0K (w0 : Ini) (hG : Glob globsF w0) : LoopOk ref22SignatureX w0 (loopAt Tryd.f23 0) ref22SignatureL0E :=
 loop_okH ref22SignatureC hG (loopAt Tryd.f23 0) (lall_of lall_nil (by kernel_rfl : loopsOf (loopAt Tryd.f23 0) = _))
  ref22SignatureL0Y ref22SignatureL0Z (by kernel_rfl) (fun p => ref22SignatureL0R p.1 p.2.1 p.2.2.1 p.2.2.2) (fun p => bigFuel) (fun p => by kernel_rfl) _ (fun p => ref22SignatureL0_eq p.1 p.2.1 p.2.2.1 p.2.2.2)
theorem ref22SignatureK : CallOk Tryd.prog (Glob globsF) 23 ref22SignatureE :=
 fun_ok (cx := ref22SignatureX) ref22SignatureC (fn := Tryd.f23) Tryd.func23 (by kernel_rfl) Tryd.ntmps23 Tryd.call23 _ _ _ (by kernel_rfl) (by kernel_rfl) (by kernel_rfl)
  (fun w0 hG => lall_of (lall_cut (b := loopAt Tryd.f23 0) (ref22SignatureL0K w0 hG) (by kernel_rfl) (lall_nil)) (by kernel_rfl : loopsOf (bodyOf Tryd.f23) = _)) (fun p => Eq.trans (b := ref22SignatureB p) (by kernel_rfl) (ref22Signature_eq p).symm)
noncomputable def law22IWordsE : Entry := mkE [.isl false (.d .str), .isl false (.d .str)] [.bool] fun p => law22IWords p.1 p.2
def law22IWordsL0Y : Lay := ⟨[], [(false, 0, .isl false (.d .str)), (false, 1, .isl false (.d .str)), (false, 5, .int .i64)], [⟨[], []⟩]⟩
def law22IWordsL0Z : List (Ex × Lay) := [(.ret, ⟨[(false, 4, .bool false)], [], [⟨[], []⟩]⟩), (.exit 0, ⟨[], [], [⟨[], []⟩]⟩)]
noncomputable def law22IWordsL0E : LEntry := mkL law22IWordsL0Y law22IWordsL0Z fun p => law22IWordsL0 p.1 p.2.1 p.2.2
noncomputable def law22IWordsX : Cx := mkCx Tryd.prog 26 globsF [] [(4, law22IWordsL0E)] []
theorem law22IWordsC : CxOk law22IWordsX (Glob globsF) := cx_ok (by kernel_rfl) (by kernel_rfl) trivial
theorem law22IWordsL0K (w0 : Ini) (hG : Glob globsF w0) : LoopOk law22IWordsX w0 (loopAt Tryd.f24 0) law22IWordsL0E :=
 loop_okH law22IWordsC hG (loopAt Tryd.f24 0) (lall_of lall_nil (by kernel_rfl : loopsOf (loopAt Tryd.f24 0) = _))
  law22IWordsL0Y law22IWordsL0Z (by kernel_rfl) (fun p => law22IWordsL0R p.1 p.2.1 p.2.2) (fun p => bigFuel) (fun p => by kernel_rfl) _ (fun p => law22IWordsL0_eq p.1 p.2.1 p.2.2)
theorem law22IWordsK : CallOk Tryd.prog (Glob globsF) 24 law22IWordsE :=
 fun_ok (cx := law22IWordsX) law22IWordsC (fn := Tryd.f24) Tryd.func24 (by kernel_rfl) Tryd.ntmps24 Tryd.call24 _ _ _ (by kernel_rfl) (by kernel_rfl) (by kernel_rfl)
  (fun w0 hG => lall_of (lall_cut (b := loopAt Tryd.f24 0) (law22IWordsL0K w0 hG) (by kernel_rfl) (lall_nil)) (by kernel_rfl : loopsOf (bodyOf Tryd.f24) = _)) (fun p => Eq.trans (b := law22IWordsB p.1 p.2) (by kernel_rfl) (law22IWords_eq p.1 p.2).symm)
noncomputable def keccakIWaysE : Entry := mkE [] [.arr (.int .i64) 25, .arr (.int .i64) 25] fun _ => keccakIWays
noncomputable def keccakIWaysX : Cx := mkCx Tryd.prog 29 globsF [] [] []
theorem keccakIWaysC : CxOk keccakIWaysX (Glob globsF) := cx_ok (by kernel_rfl) (by kernel_rfl) trivial
theorem keccakIWaysK : CallOk Tryd.prog (Glob globsF) 154 keccakIWaysE :=
 fun_ok (cx := keccakIWaysX) keccakIWaysC (fn := Tryd.f154) Tryd.func154 (by kernel_rfl) Tryd.ntmps154 Tryd.call154 _ _ _ (by kernel_rfl) (by kernel_rfl) (by kernel_rfl)
  (fun w0 hG => lall_of (lall_free (b := loopAt Tryd.f154 0) (by kernel_rfl) (lall_free (b := loopAt Tryd.f154 1) (by kernel_rfl) (lall_nil))) (by kernel_rfl : loopsOf (bodyOf Tryd.f154) = _)) (fun p => Eq.trans (b := keccakIWaysB ) (by kernel_rfl) (keccakIWays_eq ).symm)
noncomputable def keccakINumbersE : Entry := mkE [] [.arr (.int .u64) 24] fun _ => keccakINumbers
noncomputable def keccakINumbersX : Cx := mkCx Tryd.prog 2 globsF [] [] []
theorem keccakINumbersC : CxOk keccakINumbersX (Glob globsF) := cx_ok (by kernel_rfl) (by kernel_rfl) trivial
theorem keccakINumbersK : CallOk Tryd.prog (Glob globsF) 155 keccakINumbersE :=
 fun_ok (cx := keccakINumbersX) keccakINumbersC (fn := Tryd.f155) Tryd.func155 (by kernel_rfl) Tryd.ntmps155 Tryd.call155 _ _ _ (by kernel_rfl) (by kernel_rfl) (by kernel_rfl)
  (fun w0 hG => lall_of lall_nil (by kernel_rfl : loopsOf (bodyOf Tryd.f155) = _)) (fun p => Eq.trans (b := keccakINumbersB ) (by kernel_rfl) (keccakINumbers_eq ).symm)
noncomputable def bitsRotateLeft64E : Entry := mkE [.int .u64, .int .i64] [.int .u64] fun p => bitsRotateLeft64 p.1 p.2
noncomputable def bitsRotateLeft64X : Cx := mkCx Tryd.prog 17 globsF [] [] []
theorem bitsRotateLeft64C : CxOk bitsRotateLeft64X (Glob globsF) := cx_ok (by kernel_rfl) (by kernel_rfl) trivial
theorem bitsRotateLeft64K : CallOk Tryd.prog (Glob globsF) 156 bitsRotateLeft64E :=
 fun_ok (cx := bitsRotateLeft64X) bitsRotateLeft64C (fn := Tryd.f156) Tryd.func156 (by kernel_rfl) Tryd.ntmps156 Tryd.call156 _ _ _ (by kernel_rfl) (by kernel_rfl) (by kernel_rfl)
  (fun w0 hG => lall_of lall_nil (by kernel_rfl : loopsOf (bodyOf Tryd.f156) = _)) (fun p => Eq.trans (b := bitsRotateLeft64B p.1 p.2) (by kernel_rfl) (bitsRotateLeft64_eq p.1 p.2).symm)
noncomputable def keccakPermuteE : Entry := mkE [.arr (.int .u64) 25] [.arr (.int .u64) 25] fun p => keccakPermute p
def keccakPermuteL1Y : Lay := ⟨[(false, 1, .ptr 1001 []), (false, 2, .ptr 1002 []), (false, 3, .ptr 1003 []), (false, 4, .ptr 1004 []), (false, 7, .ptr 1007 [])], [(false, 6, .int .u64), (false, 19, .arr (.int .u64) 24), (false, 20, .int .i64), (false, 23, .arr (.int .u64) 25), (false, 24, .int .i64), (true, 1001, .arr (.int .u64) 25), (true, 1002, .arr (.int .u64) 25), (true, 1003, .arr (.int .i64) 25), (true, 1004, .arr (.int .i64) 25), (true, 1007, .arr (.int .u64) 5)], [⟨[(1001, 1001), (1002, 1002), (1003, 1003), (1004, 1004), (1007, 1007)], []⟩]⟩
def keccakPermuteL1Z : List (Ex × Lay) := [(.exit 2, ⟨[(false, 1, .ptr 1001 []), (false, 2, .ptr 1002 []), (false, 3, .ptr 1003 []), (false, 4, .ptr 1004 []), (false, 7, .ptr 1007 [])], [(false, 6, .int .u64), (false, 19, .arr (.int .u64) 24), (false, 20, .int .i64), (true, 1001, .arr (.int .u64) 25), (true, 1002, .arr (.int .u64) 25), (true, 1003, .arr (.int .i64) 25), (true, 1004, .arr (.int .i64) 25), (true, 1007, .arr (.int .u64) 5)], [⟨[(1001, 1001), (1002, 1002), (1003, 1003), (1004, 1004), (1007, 1007)], []⟩]⟩)]
noncomputable def keccakPermuteL1E : LEntry := mkL keccakPermuteL1Y keccakPermuteL1Z fun p => keccakPermuteL1 p.1 p.2.1 p.2.2.1 p.2.2.2.1 p.2.2.2.2.1 p.2.2.2.2.2.1 p.2.2.2.2.2.2.1 p.2.2.2.2.2.2.2.1 p.2.2.2.2.2.2.2.2.1 p.2.2.2.2.2.2.2.2.2
def keccakPermuteL2Y : Lay := ⟨[(false, 1, .ptr 1001 []), (false, 2, .ptr 1002 []), (false, 3, .ptr 1003 []), (false, 4, .ptr 1004 []), (false, 7, .ptr 1007 []), (false, 10, .ptr 1010 [])], [(false, 6, .int .u64), (false, 19, .arr (.int .u64) 24), (false, 20, .int .i64), (false, 36, .arr (.int .u64) 25), (false, 37, .int .i64), (true, 1001, .arr (.int .u64) 25), (true, 1002, .arr (.int .u64) 25), (true, 1003, .arr (.int .i64) 25), (true, 1004, .arr (.int .i64) 25), (true, 1007, .arr (.int .u64) 5), (true, 1010, .arr (.int .u64) 25)], [⟨[(1001, 1001), (1002, 1002), (1003, 1003), (1004, 1004), (1007, 1007), (1010, 1010)], []⟩]⟩
def keccakPermuteL2Z : List (Ex × Lay) := [(.exit 4, ⟨[(false, 1, .ptr 1001 []), (false, 2, .ptr 1002 []), (false, 3, .ptr 1003 []), (false, 4, .ptr 1004 []), (false, 10, .ptr 1010 [])], [(false, 6, .int .u64), (false, 19, .arr (.int .u64) 24), (false, 20, .int .i64), (true, 1001, .arr (.int .u64) 25), (true, 1002, .arr (.int .u64) 25), (true, 1003, .arr (.int .i64) 25), (true, 1004, .arr (.int .i64) 25), (true, 1010, .arr (.int .u64) 25)], [⟨[(1001, 1001), (1002, 1002), (1003, 1003), (1004, 1004), (1010, 1010)], []⟩]⟩)]
noncomputable def keccakPermuteL2E : LEntry := mkL keccakPermuteL2Y keccakPermuteL2Z fun p => keccakPermuteL2 p.1 p.2.1 p.2.2.1 p.2.2.2.1 p.2.2.2.2.1 p.2.2.2.2.2.1 p.2.2.2.2.2.2.1 p.2.2.2.2.2.2.2.1 p.2.2.2.2.2.2.2.2.1 p.2.2.2.2.2.2.2.2.2.1 p.2.2.2.2.2.2.2.2.2.2
def keccakPermuteL3Y : Lay := ⟨[(false, 1, .ptr 1001 []), (false, 2, .ptr 1002 []), (false, 3, .ptr 1003 []), (false, 4, .ptr 1004 []), (false, 10, .ptr 1010 [])], [(false, 6, .int .u64), (false, 13, .int .i64), (false, 19, .arr (.int .u64) 24), (false, 20, .int .i64), (true, 1001, .arr (.int .u64) 25), (true, 1002, .arr (.int .u64) 25), (true, 1003, .arr (.int .i64) 25), (true, 1004, .arr (.int .i64) 25), (true, 1010, .arr (.int .u64) 25)], [⟨[(1001, 1001), (1002, 1002), (1003, 1003), (1004, 1004), (1010, 1010)], []⟩]⟩
def keccakPermuteL3Z : List (Ex × Lay) := [(.exit 6, ⟨[(false, 1, .ptr 1001 []), (false, 2, .ptr 1002 []), (false, 3, .ptr 1003 []), (false, 4, .ptr 1004 [])], [(false, 6, .int .u64), (false, 19, .arr (.int .u64) 24), (false, 20, .int .i64), (true, 1001, .arr (.int .u64) 25), (true, 1002, .arr (.int .u64) 25), (true, 1003, .arr (.int .i64) 25), (true, 1004, .arr (.int .i64) 25)], [⟨[(1001, 1001), (1002, 1002), (1003, 1003), (1004, 1004)], []⟩]⟩)]
noncomputable def keccakPermuteL3E : LEntry := mkL keccakPermuteL3Y keccakPermuteL3Z fun p => keccakPermuteL3 p.1 p.2.1 p.2.2.1 p.2.2.2.1 p.2.2.2.2.1 p.2.2.2.2.2.1 p.2.2.2.2.2.2.1 p.2.2.2.2.2.2.2.1 p.2.2.2.2.2.2.2.2
def keccakPermuteL0Y : Lay := ⟨[(false, 1, .ptr 1001 []), (false, 2, .ptr 1002 []), (false, 3, .ptr 1003 []), (false, 4, .ptr 1004 [])], [(false, 19, .arr (.int .u64) 24), (false, 20, .int .i64), (true, 1001, .arr (.int .u64) 25), (true, 1002, .arr (.int .u64) 25), (true, 1003, .arr (.int .i64) 25), (true, 1004, .arr (.int .i64) 25)], [⟨[(1001, 1001), (1002, 1002), (1003, 1003), (1004, 1004)], []⟩]⟩
def keccakPermuteL0Z : List (Ex × Lay) := [(.exit 0, ⟨[(false, 1, .ptr 1001 []), (false, 2, .ptr 1002 [])], [(true, 1001, .arr (.int .u64) 25), (true, 1002, .arr (.int .u64) 25)], [⟨[(1001, 1001), (1002, 1002)], []⟩]⟩)]
noncomputable def keccakPermuteL0E : LEntry := mkL keccakPermuteL0Y keccakPermuteL0Z fun p => keccakPermuteL0 p.1 p.2.1 p.2.2.1 p.2.2.2.1 p.2.2.2.2.1 p.2.2.2.2.2
noncomputable def keccakPermuteX : Cx := mkCx Tryd.prog 106 globsF [(154, keccakIWaysE), (155, keccakINumbersE), (156, bitsRotateLeft64E)] [(3, keccakPermuteL0E), (7, keccakPermuteL1E), (13, keccakPermuteL2E), (19, keccakPermuteL3E)] []
theorem keccakPermuteC : CxOk keccakPermuteX (Glob globsF) := cx_ok (by kernel_rfl) (by kernel_rfl) ⟨keccakIWaysK, keccakINumbersK, bitsRotateLeft64K, trivial⟩
theorem keccakPermuteL1K (w0 : Ini) (hG : Glob globsF w0) : LoopOk keccakPermuteX w0 (loopAt Tryd.f148 1) keccakPermuteL1E :=
 loop_okH keccakPermuteC hG (loopAt Tryd.f148 1) (lall_of lall_nil (by kernel_rfl : loopsOf (loopAt Tryd.f148 1) = _))
  keccakPermuteL1Y keccakPermuteL1Z (by kernel_rfl) (fun p => keccakPermuteL1R p.1 p.2.1 p.2.2.1 p.2.2.2.1 p.2.2.2.2.1 p.2.2.2.2.2.1 p.2.2.2.2.2.2.1 p.2.2.2.2.2.2.2.1 p.2.2.2.2.2.2.2.2.1 p.2.2.2.2.2.2.2.2.2) (fun p => bigFuel) (fun p => by kernel_rfl) _ (fun p => keccakPermuteL1_eq p.1 p.2.1 p.2.2.1 p.2.2.2.1 p.2.2.2.2.1 p.2.2.2.2.2.1 p.2.2.2.2.2.2.1 p.2.2.2.2.2.2.2.1 p.2.2.2.2.2.2.2.2.1 p.2.2.2.2.2.2.2.2.2)
theorem keccakPermuteL2K (w0 : Ini) (hG : Glob globsF w0) : LoopOk keccakPermuteX w0 (loopAt Tryd.f148 2) keccakPermuteL2E :=
 loop_okH keccakPermuteC hG (loopAt Tryd.f148 2) (lall_of lall_nil (by kernel_rfl : loopsOf (loopAt Tryd.f148 2) = _))
  keccakPermuteL2Y keccakPermuteL2Z (by kernel_rfl) (fun p => keccakPermuteL2R p.1 p.2.1 p.2.2.1 p.2.2.2.1 p.2.2.2.2.1 p.2.2.2.2.2.1 p.2.2.2.2.2.2.1 p.2.2.2.2.2.2.2.1 p.2.2.2.2.2.2.2.2.1 p.2.2.2.2.2.2.2.2.2.1 p.2.2.2.2.2.2.2.2.2.2) (fun p => bigFuel) (fun p => by kernel_rfl) _ (fun p => keccakPermuteL2_eq p.1 p.2.1 p.2.2.1 p.2.2.2.1 p.2.2.2.2.1 p.2.2.2.2.2.1 p.2.2.2.2.2.2.1 p.2.2.2.2.2.2.2.1 p.2.2.2.2.2.2.2.2.1 p.2.2.2.2.2.2.2.2.2.1 p.2.2.2.2.2.2.2.2.2.2)
theorem keccakPermuteL3K (w0 : Ini) (hG : Glob globsF w0) : LoopOk keccakPermuteX w0 (loopAt Tryd.f148 3) keccakPermuteL3E :=
 loop_okH keccakPermuteC hG (loopAt Tryd.f148 3) (lall_of (lall_free (b := loopAt Tryd.f148 4) (by kernel_rfl) (lall_nil)) (by kernel_rfl : loopsOf (loopAt Tryd.f148 3) = _))
  keccakPermuteL3Y keccakPermuteL3Z (by kernel_rfl) (fun p => keccakPermuteL3R p.1 p.2.1 p.2.2.1 p.2.2.2.1 p.2.2.2.2.1 p.2.2.2.2.2.1 p.2.2.2.2.2.2.1 p.2.2.2.2.2.2.2.1 p.2.2.2.2.2.2.2.2) (fun p => bigFuel) (fun p => by kernel_rfl) _ (fun p => keccakPermuteL3_eq p.1 p.2.1 p.2.2.1 p.2.2.2.1 p.2.2.2.2.1 p.2.2.2.2.2.1 p.2.2.2.2.2.2.1 p.2.2.2.2.2.2.2.1 p.2.2.2.2.2.2.2.2)
theorem keccakPermuteL0K (w0 : Ini) (hG : Glob globsF w0) : LoopOk keccakPermuteX w0 (loopAt Tryd.f148 0) keccakPermuteL0E :=
 loop_okH keccakPermuteC hG (loopAt Tryd.f148 0) (lall_of (lall_cut (b := loopAt Tryd.f148 1) (keccakPermuteL1K w0 hG) (by kernel_rfl) (lall_cut (b := loopAt Tryd.f148 2) (keccakPermuteL2K w0 hG) (by kernel_rfl) (lall_cut (b := loopAt Tryd.f148 3) (keccakPermuteL3K w0 hG) (by kernel_rfl) (lall_free (b := loopAt Tryd.f148 4) (by kernel_rfl) (lall_nil))))) (by kernel_rfl : loopsOf (loopAt Tryd.f148 0) = _))
  keccakPermuteL0Y keccakPermuteL0Z (by kernel_rfl) (fun p => keccakPermuteL0R p.1 p.2.1 p.2.2.1 p.2.2.2.1 p.2.2.2.2.1 p.2.2.2.2.2) (fun p => bigFuel) (fun p => by kernel_rfl) _ (fun p => keccakPermuteL0_eq p.1 p.2.1 p.2.2.1 p.2.2.2.1 p.2.2.2.2.1 p.2.2.2.2.2)
theorem keccakPermuteK : CallOk Tryd.prog (Glob globsF) 148 keccakPermuteE :=
 fun_ok (cx := keccakPermuteX) keccakPermuteC (fn := Tryd.f148) Tryd.func148 (by kernel_rfl) Tryd.ntmps148 Tryd.call148 _ _ _ (by kernel_rfl) (by kernel_rfl) (by kernel_rfl)
  (fun w0 hG => lall_of (lall_cut (b := loopAt Tryd.f148 0) (keccakPermuteL0K w0 hG) (by kernel_rfl) (lall_cut (b := loopAt Tryd.f148 1) (keccakPermuteL1K w0 hG) (by kernel_rfl) (lall_cut (b := loopAt Tryd.f148 2) (keccakPermuteL2K w0 hG) (by kernel_rfl) (lall_cut (b := loopAt Tryd.f148 3) (keccakPermuteL3K w0 hG) (by kernel_rfl) (lall_free (b := loopAt Tryd.f148 4) (by kernel_rfl) (lall_nil)))))) (by kernel_rfl : loopsOf (bodyOf Tryd.f148) = _)) (fun p => Eq.trans (b := keccakPermuteB p) (by kernel_rfl) (keccakPermute_eq p).symm)
def keccakSpongeAbsorbI : Lay := ⟨[(false, 0, .ptr 0 [])], [(true, 0, .st [.int .i64, .arr (.int .u64) 25, .arr (.int .u8) 136, .int .i64, .int .i64])], [⟨[(0, 0)], []⟩]⟩
def keccakSpongeAbsorbO : Lay := ⟨[], [(true, 0, .st [.int .i64, .arr (.int .u64) 25, .arr (.int .u8) 136, .int .i64, .int .i64])], [⟨[(0, 0)], []⟩]⟩
noncomputable def keccakSpongeAbsorbE : Entry := mkB 1 0 1 [true] keccakSpongeAbsorbI keccakSpongeAbsorbO (fun p => keccakSpongeAbsorb p)
def keccakSpongeAbsorbL0Y : Lay := ⟨[(false, 0, .ptr 0 [])], [(false, 7, .arr (.int .u8) 136), (false, 8, .int .i64), (true, 0, .st [.int .i64, .arr (.int .u64) 25, .arr (.int .u8) 136, .int .i64, .int .i64])], [⟨[(0, 0)], []⟩]⟩
def keccakSpongeAbsorbL0Z : List (Ex × Lay) := [(.exit 0, ⟨[(false, 0, .ptr 0 [])], [(true, 0, .st [.int .i64, .arr (.int .u64) 25, .arr (.int .u8) 136, .int .i64, .int .i64])], [⟨[(0, 0)], []⟩]⟩)]
noncomputable def keccakSpongeAbsorbL0E : LEntry := mkL keccakSpongeAbsorbL0Y keccakSpongeAbsorbL0Z fun p => keccakSpongeAbsorbL0 p.1 p.2.1 p.2.2
noncomputable def keccakSpongeAbsorbX : Cx := mkCx Tryd.prog 41 globsF [(148, keccakPermuteE)] [(1, keccakSpongeAbsorbL0E)] []
theorem keccakSpongeAbsorbC : CxOk keccakSpongeAbsorbX (Glob globsF) := cx_ok (by kernel_rfl) (by kernel_rfl) ⟨keccakPermuteK, trivial⟩
theorem keccakSpongeAbsorbL0K (w0 : Ini) (hG : Glob globsF w0) : LoopOk keccakSpongeAbsorbX w0 (loopAt Tryd.f132 0) keccakSpongeAbsorbL0E :=
 loop_okH keccakSpongeAbsorbC hG (loopAt Tryd.f132 0) (lall_of lall_nil (by kernel_rfl : loopsOf (loopAt Tryd.f132 0) = _))
  keccakSpongeAbsorbL0Y keccakSpongeAbsorbL0Z (by kernel_rfl) (fun p => keccakSpongeAbsorbL0R p.1 p.2.1 p.2.2) (fun p => bigFuel) (fun p => by kernel_rfl) _ (fun p => keccakSpongeAbsorbL0_eq p.1 p.2.1 p.2.2)
theorem keccakSpongeAbsorbK : CallOk Tryd.prog (Glob globsF) 132 keccakSpongeAbsorbE :=
 fun_okB (cx := keccakSpongeAbsorbX) keccakSpongeAbsorbC (fn := Tryd.f132) Tryd.func132 (by kernel_rfl) Tryd.ntmps132 Tryd.call132 _ _ _ _ _ _ _ (by kernel_rfl) (by kernel_rfl) (by kernel_rfl)
  (fun w0 hG => lall_of (lall_cut (b := loopAt Tryd.f132 0) (keccakSpongeAbsorbL0K w0 hG) (by kernel_rfl) (lall_nil)) (by kernel_rfl : loopsOf (bodyOf Tryd.f132) = _)) (fun p => Eq.trans (b := keccakSpongeAbsorbB p) (by kernel_rfl) (keccakSpongeAbsorb_eq p).symm)
def keccakSpongeWriteI : Lay := ⟨[(false, 0, .ptr 0 [])], [(true, 0, .st [.int .i64, .arr (.int .u64) 25, .arr (.int .u8) 136, .int .i64, .int .i64]), (false, 1, .isl false (.int .u8))], [⟨[(0, 0)], []⟩]⟩
def keccakSpongeWriteO : Lay := ⟨[], [(true, 0, .st [.int .i64, .arr (.int .u64) 25, .arr (.int .u8) 136, .int .i64, .int .i64])], [⟨[(0, 0)], []⟩]⟩
noncomputable def keccakSpongeWriteE : Entry := mkB 2 0 1 [true, false] keccakSpongeWriteI keccakSpongeWriteO (fun p => keccakSpongeWrite p.1 p.2)
def keccakSpongeWriteL0Y : Lay := ⟨[(false, 0, .ptr 0 [])], [(false, 1, .isl false (.int .u8)), (true, 0, .st [.int .i64, .arr (.int .u64) 25, .arr (.int .u8) 136, .int .i64, .int .i64])], [⟨[(0, 0)], []⟩]⟩
def keccakSpongeWriteL0Z : List (Ex × Lay) := [(.exit 0, ⟨[], [(true, 0, .st [.int .i64, .arr (.int .u64) 25, .arr (.int .u8) 136, .int .i64, .int .i64])], [⟨[(0, 0)], []⟩]⟩)]
noncomputable def keccakSpongeWriteL0E : LEntry := mkL keccakSpongeWriteL0Y keccakSpongeWriteL0Z fun p => keccakSpongeWriteL0 p.1 p.2
noncomputable def keccakSpongeWriteX : Cx := mkCx Tryd.prog 47 globsF [(132, keccakSpongeAbsorbE)] [(2, keccakSpongeWriteL0E)] []
theorem keccakSpongeWriteC : CxOk keccakSpongeWriteX (Glob globsF) := cx_ok (by kernel_rfl) (by kernel_rfl) ⟨keccakSpongeAbsorbK, trivial⟩
theorem keccakSpongeWriteL0K (w0 : Ini) (hG : Glob globsF w0) : LoopOk keccakSpongeWriteX w0 (loopAt Tryd.f107 0) keccakSpongeWriteL0E :=
 loop_okH keccakSpongeWriteC hG (loopAt Tryd.f107 0) (lall_of lall_nil (by kernel_rfl : loopsOf (loopAt Tryd.f107 0) = _))
  keccakSpongeWriteL0Y keccakSpongeWriteL0Z (by kernel_rfl) (fun p => keccakSpongeWriteL0R p.1 p.2) (fun p => bigFuel) (fun p => by kernel_rfl) _ (fun p => keccakSpongeWriteL0_eq p.1 p.2)
theorem keccakSpongeWriteK : CallOk Tryd.prog (Glob globsF) 107 keccakSpongeWriteE :=
 fun_okB (cx := keccakSpongeWriteX) keccakSpongeWriteC (fn := Tryd.f107) Tryd.func107 (by kernel_rfl) Tryd.ntmps107 Tryd.call107 _ _ _ _ _ _ _ (by kernel_rfl) (by kernel_rfl) (by kernel_rfl)
  (fun w0 hG => lall_of (lall_cut (b := loopAt Tryd.f107 0) (keccakSpongeWriteL0K w0 hG) (by kernel_rfl) (lall_nil)) (by kernel_rfl : loopsOf (bodyOf Tryd.f107) = _)) (fun p => Eq.trans (b := keccakSpongeWriteB p.1 p.2) (by kernel_rfl) (keccakSpongeWrite_eq p.1 p.2).symm)
noncomputable def keccakSpongeSumE : Entry := mkE [.pim false (.st [.int .i64, .arr (.int .u64) 25, .arr (.int .u8) 136, .int .i64, .int .i64])] [.arr (.int .u8) 32] fun p => keccakSpongeSum p
def keccakSpongeSumL0Y : Lay := ⟨[(false, 2, .ptr 1002 []), (false, 3, .ptr 1003 []), (false, 4, .ptr 1004 [])], [(false, 35, .int .i64), (true, 1002, .arr (.int .u8) 32), (true, 1003, .st [.int .i64, .arr (.int .u64) 25, .arr (.int .u8) 136, .int .i64, .int .i64]), (true, 1004, .arr (.int .u8) 32)], [⟨[(1002, 1002), (1003, 1003), (1004, 1004)], []⟩]⟩
def keccakSpongeSumL0Z : List (Ex × Lay) := [(.exit 0, ⟨[(false, 2, .ptr 1002 []), (false, 4, .ptr 1004 [])], [(true, 1002, .arr (.int .u8) 32), (true, 1004, .arr (.int .u8) 32)], [⟨[(1002, 1002), (1004, 1004)], []⟩]⟩)]
noncomputable def keccakSpongeSumL0E : LEntry := mkL keccakSpongeSumL0Y keccakSpongeSumL0Z fun p => keccakSpongeSumL0 p.1 p.2.1 p.2.2.1 p.2.2.2
noncomputable def keccakSpongeSumX : Cx := mkCx Tryd.prog 52 globs0 [(132, keccakSpongeAbsorbE)] [(10, keccakSpongeSumL0E)] []
theorem keccakSpongeSumC : CxOk keccakSpongeSumX (Glob globs0) := cx_ok (by kernel_rfl) (by kernel_rfl) ⟨(keccakSpongeAbsorbK.up globsF_globs0), trivial⟩
theorem keccakSpongeSumL0K (w0 : Ini) (hG : Glob globs0 w0) : LoopOk keccakSpongeSumX w0 (loopAt Tryd.f108 0) keccakSpongeSumL0E :=
 loop_okH keccakSpongeSumC hG (loopAt Tryd.f108 0) (lall_of lall_nil (by kernel_rfl : loopsOf (loopAt Tryd.f108 0) = _))
  keccakSpongeSumL0Y keccakSpongeSumL0Z (by kernel_rfl) (fun p => keccakSpongeSumL0R p.1 p.2.1 p.2.2.1 p.2.2.2) (fun p => bigFuel) (fun p => by kernel_rfl) _ (fun p => keccakSpongeSumL0_eq p.1 p.2.1 p.2.2.1 p.2.2.2)
theorem keccakSpongeSumK : CallOk Tryd.prog (Glob globs0) 108 keccakSpongeSumE :=
 fun_ok (cx := keccakSpongeSumX) keccakSpongeSumC (fn := Tryd.f108) Tryd.func108 (by kernel_rfl) Tryd.ntmps108 Tryd.call108 _ _ _ (by kernel_rfl) (by kernel_rfl) (by kernel_rfl)
  (fun w0 hG => lall_of (lall_cut (b := loopAt Tryd.f108 0) (keccakSpongeSumL0K w0 hG) (by kernel_rfl) (lall_nil)) (by kernel_rfl : loopsOf (bodyOf Tryd.f108) = _)) (fun p => Eq.trans (b := keccakSpongeSumB p) (by kernel_rfl) (keccakSpongeSum_eq p).symm)
noncomputable def keccakIDigestE : Entry := mkE [.int .i64, .isl false .bytes] [.arr (.int .u8) 32] fun p => keccakIDigest p.1 p.2
def keccakIDigestL0Y : Lay := ⟨[(false, 4, .ptr 1004 []), (false, 5, .ptr 1005 [])], [(false, 10, .isl false .bytes), (false, 11, .int .i64), (false, 12, .int .i64), (true, 1004, .arr (.int .u8) 32), (true, 1005, .st [.int .i64, .arr (.int .u64) 25, .arr (.int .u8) 136, .int .i64, .int .i64])], [⟨[(1004, 1004), (1005, 1005)], []⟩]⟩
def keccakIDigestL0Z : List (Ex × Lay) := [(.exit 0, ⟨[(false, 4, .ptr 1004 []), (false, 5, .ptr 1005 [])], [(true, 1004, .arr (.int .u8) 32), (true, 1005, .st [.int .i64, .arr (.int .u64) 25, .arr (.int .u8) 136, .int .i64, .int .i64])], [⟨[(1004, 1004), (1005, 1005)], []⟩]⟩)]
noncomputable def keccakIDigestL0E : LEntry := mkL keccakIDigestL0Y keccakIDigestL0Z fun p => keccakIDigestL0 p.1 p.2.1 p.2.2.1 p.2.2.2.1 p.2.2.2.2
noncomputable def keccakIDigestX : Cx := mkCx Tryd.prog 20 globs0 [(107, keccakSpongeWriteE), (108, keccakSpongeSumE)] [(3, keccakIDigestL0E)] []
theorem keccakIDigestC : CxOk keccakIDigestX (Glob globs0) := cx_ok (by kernel_rfl) (by kernel_rfl) ⟨(keccakSpongeWriteK.up globsF_globs0), keccakSpongeSumK, trivial⟩
theorem keccakIDigestL0K (w0 : Ini) (hG : Glob globs0 w0) : LoopOk keccakIDigestX w0 (loopAt Tryd.f71 0) keccakIDigestL0E :=
 loop_okH keccakIDigestC hG (loopAt Tryd.f71 0) (lall_of lall_nil (by kernel_rfl : loopsOf (loopAt Tryd.f71 0) = _))
  keccakIDigestL0Y keccakIDigestL0Z (by kernel_rfl) (fun p => keccakIDigestL0R p.1 p.2.1 p.2.2.1 p.2.2.2.1 p.2.2.2.2) (fun p => bigFuel) (fun p => by kernel_rfl) _ (fun p => keccakIDigestL0_eq p.1 p.2.1 p.2.2.1 p.2.2.2.1 p.2.2.2.2)
theorem keccakIDigestK : CallOk Tryd.prog (Glob globs0) 71 keccakIDigestE :=
 fun_ok (cx := keccakIDigestX) keccakIDigestC (fn := Tryd.f71) Tryd.func71 (by kernel_rfl) Tryd.ntmps71 Tryd.call71 _ _ _ (by kernel_rfl) (by kernel_rfl) (by kernel_rfl)
  (fun w0 hG => lall_of (lall_cut (b := loopAt Tryd.f71 0) (keccakIDigestL0K w0 hG) (by kernel_rfl) (lall_nil)) (by kernel_rfl : loopsOf (bodyOf Tryd.f71) = _)) (fun p => Eq.trans (b := keccakIDigestB p.1 p.2) (by kernel_rfl) (keccakIDigest_eq p.1 p.2).symm)
noncomputable def keccakSumE : Entry := mkE [.isl false .bytes] [.arr (.int .u8) 32] fun p => keccakSum p
noncomputable def keccakSumX : Cx := mkCx Tryd.prog 5 globs0 [(71, keccakIDigestE)] [] []
theorem keccakSumC : CxOk keccakSumX (Glob globs0) := cx_ok (by kernel_rfl) (by kernel_rfl) ⟨keccakIDigestK, trivial⟩
theorem keccakSumK : CallOk Tryd.prog (Glob globs0) 43 keccakSumE :=
 fun_ok (cx := keccakSumX) keccakSumC (fn := Tryd.f43) Tryd.func43 (by kernel_rfl) Tryd.ntmps43 Tryd.call43 _ _ _ (by kernel_rfl) (by kernel_rfl) (by kernel_rfl)
  (fun w0 hG => lall_of lall_nil (by kernel_rfl : loopsOf (bodyOf Tryd.f43) = _)) (fun p => Eq.trans (b := keccakSumB p) (by kernel_rfl) (keccakSum_eq p).symm)
noncomputable def abiTopicE : Entry := mkE [.str] [.arr (.int .u8) 32, .int .i64] fun p => abiTopic p
noncomputable def abiTopicX : Cx := mkCx Tryd.prog 21 globs0x1x5 [(22, abiSignatureE), (43, keccakSumE)] [] []
theorem abiTopicC : CxOk abiTopicX (Glob globs0x1x5) := cx_ok (by kernel_rfl) (by kernel_rfl) ⟨(abiSignatureK.up globs1x5_globs0x1x5), (keccakSumK.up globs0_globs0x1x5), trivial⟩
theorem abiTopicK : CallOk Tryd.prog (Glob globs0x1x5) 27 abiTopicE :=
 fun_ok (cx := abiTopicX) abiTopicC (fn := Tryd.f27) Tryd.func27 (by kernel_rfl) Tryd.ntmps27 Tryd.call27 _ _ _ (by kernel_rfl) (by kernel_rfl) (by kernel_rfl)
  (fun w0 hG => lall_of lall_nil (by kernel_rfl : loopsOf (bodyOf Tryd.f27) = _)) (fun p => Eq.trans (b := abiTopicB p) (by kernel_rfl) (abiTopic_eq p).symm)
noncomputable def abiSelectorE : Entry := mkE [.str] [.arr (.int .u8) 4, .int .i64] fun p => abiSelector p
noncomputable def abiSelectorX : Cx := mkCx Tryd.prog 15 globs0x1x5 [(27, abiTopicE)] [] []
theorem abiSelectorC : CxOk abiSelectorX (Glob globs0x1x5) := cx_ok (by kernel_rfl) (by kernel_rfl) ⟨abiTopicK, trivial⟩
theorem abiSelectorK : CallOk Tryd.prog (Glob globs0x1x5) 25 abiSelectorE :=
 fun_ok (cx := abiSelectorX) abiSelectorC (fn := Tryd.f25) Tryd.func25 (by kernel_rfl) Tryd.ntmps25 Tryd.call25 _ _ _ (by kernel_rfl) (by kernel_rfl) (by kernel_rfl)
  (fun w0 hG => lall_of lall_nil (by kernel_rfl : loopsOf (bodyOf Tryd.f25) = _)) (fun p => Eq.trans (b := abiSelectorB p) (by kernel_rfl) (abiSelector_eq p).symm)
noncomputable def ref02IJoinedE : Entry := mkE [.isl false .bytes] [.isl true (.int .u8)] fun p => ref02IJoined p
def ref02IJoinedL0Y : Lay := ⟨[(false, 3, .own 1018 (.int .u8))], [(false, 0, .isl false .bytes), (false, 4, .int .i64), (true, 1018, .row (.int .u8))], [⟨[], [(false, 3, [], 1018)]⟩, ⟨[(1018, 1016)], []⟩]⟩
def ref02IJoinedL0Z : List (Ex × Lay) := [(.exit 0, ⟨[(false, 3, .own 1018 (.int .u8))], [(true, 1018, .row (.int .u8))], [⟨[(1018, 1018)], []⟩]⟩)]
noncomputable def ref02IJoinedL0E : LEntry := mkL ref02IJoinedL0Y ref02IJoinedL0Z fun p => ref02IJoinedL0 p.1 p.2.1 p.2.2
noncomputable def ref02IJoinedX : Cx := mkCx Tryd.prog 18 globsF [] [(3, ref02IJoinedL0E)] [] [(2000000, [.ice 1018])]
theorem ref02IJoinedC : CxOk ref02IJoinedX (Glob globsF) := cx_ok (by kernel_rfl) (by kernel_rfl) trivial
theorem ref02IJoinedL0K (w0 : Ini) (hG : Glob globsF w0) : LoopOk ref02IJoinedX w0 (loopAt Tryd.f96 0) ref02IJoinedL0E :=
 loop_okH ref02IJoinedC hG (loopAt Tryd.f96 0) (lall_of lall_nil (by kernel_rfl : loopsOf (loopAt Tryd.f96 0) = _))
  ref02IJoinedL0Y ref02IJoinedL0Z (by kernel_rfl) (fun p => ref02IJoinedL0R p.1 p.2.1 p.2.2) (fun p => bigFuel) (fun p => by kernel_rfl) _ (fun p => ref02IJoinedL0_eq p.1 p.2.1 p.2.2)
theorem ref02IJoinedK : CallOk Tryd.prog (Glob globsF) 96 ref02IJoinedE :=
 fun_ok (cx := ref02IJoinedX) ref02IJoinedC (fn := Tryd.f96) Tryd.func96 (by kernel_rfl) Tryd.ntmps96 Tryd.call96 _ _ _ (by kernel_rfl) (by kernel_rfl) (by kernel_rfl)
  (fun w0 hG => lall_of (lall_cut (b := loopAt Tryd.f96 0) (ref02IJoinedL0K w0 hG) (by kernel_rfl) (lall_nil)) (by kernel_rfl : loopsOf (bodyOf Tryd.f96) = _)) (fun p => Eq.trans (b := ref02IJoinedB p) (by kernel_rfl) (ref02IJoined_eq p).symm)
noncomputable def ref02IFilledE : Entry := mkE [.isl false (.int .u8), .int .u8] [.isl true (.int .u8)] fun p => ref02IFilled p.1 p.2
def ref02IFilledL0Y : Lay := ⟨[(false, 5, .own 1012 (.int .u8))], [(true, 1012, .row (.int .u8))], [⟨[(1012, 1012)], []⟩, ⟨[(1012, 1019)], []⟩]⟩
def ref02IFilledL0Z : List (Ex × Lay) := [(.exit 0, ⟨[(false, 5, .own 1012 (.int .u8))], [(true, 1012, .row (.int .u8))], [⟨[(1012, 1012)], []⟩]⟩)]
noncomputable def ref02IFilledL0E : LEntry := mkL ref02IFilledL0Y ref02IFilledL0Z fun p => ref02IFilledL0 p
noncomputable def ref02IFilledX : Cx := mkCx Tryd.prog 33 globsF [] [(4, ref02IFilledL0E)] [] [(2000000, [.ice 1012])]
theorem ref02IFilledC : CxOk ref02IFilledX (Glob globsF) := cx_ok (by kernel_rfl) (by kernel_rfl) trivial
theorem ref02IFilledL0K (w0 : Ini) (hG : Glob globsF w0) : LoopOk ref02IFilledX w0 (loopAt Tryd.f122 0) ref02IFilledL0E :=
 loop_okH ref02IFilledC hG (loopAt Tryd.f122 0) (lall_of lall_nil (by kernel_rfl : loopsOf (loopAt Tryd.f122 0) = _))
  ref02IFilledL0Y ref02IFilledL0Z (by kernel_rfl) (fun p => ref02IFilledL0R p) (fun p => bigFuel) (fun p => by kernel_rfl) _ (fun p => ref02IFilledL0_eq p)
theorem ref02IFilledK : CallOk Tryd.prog (Glob globsF) 122 ref02IFilledE :=
 fun_ok (cx := ref02IFilledX) ref02IFilledC (fn := Tryd.f122) Tryd.func122 (by kernel_rfl) Tryd.ntmps122 Tryd.call122 _ _ _ (by kernel_rfl) (by kernel_rfl) (by kernel_rfl)
  (fun w0 hG => lall_of (lall_cut (b := loopAt Tryd.f122 0) (ref02IFilledL0K w0 hG) (by kernel_rfl) (lall_nil)) (by kernel_rfl : loopsOf (bodyOf Tryd.f122) = _)) (fun p => Eq.trans (b := ref02IFilledB p.1 p.2) (by kernel_rfl) (ref02IFilled_eq p.1 p.2).symm)
noncomputable def ref02IAtE : Entry := mkE [.int .i64, .int .i64] [.int .i64] fun p => ref02IAt p.1 p.2
noncomputable def ref02IAtX : Cx := mkCx Tryd.prog 11 globsF [] [] []
theorem ref02IAtC : CxOk ref02IAtX (Glob globsF) := cx_ok (by kernel_rfl) (by kernel_rfl) trivial
theorem ref02IAtK : CallOk Tryd.prog (Glob globsF) 151 ref02IAtE :=
 fun_ok (cx := ref02IAtX) ref02IAtC (fn := Tryd.f151) Tryd.func151 (by kernel_rfl) Tryd.ntmps151 Tryd.call151 _ _ _ (by kernel_rfl) (by kernel_rfl) (by kernel_rfl)
  (fun w0 hG => lall_of lall_nil (by kernel_rfl : loopsOf (bodyOf Tryd.f151) = _)) (fun p => Eq.trans (b := ref02IAtB p.1 p.2) (by kernel_rfl) (ref02IAt_eq p.1 p.2).symm)
noncomputable def ref02RotE : Entry := mkE [.int .u64, .int .i64] [.int .u64] fun p => ref02Rot p.1 p.2
noncomputable def ref02RotX : Cx := mkCx Tryd.prog 18 globsF [] [] []
theorem ref02RotC : CxOk ref02RotX (Glob globsF) := cx_ok (by kernel_rfl) (by kernel_rfl) trivial
theorem ref02RotK : CallOk Tryd.prog (Glob globsF) 152 ref02RotE :=
 fun_ok (cx := ref02RotX) ref02RotC (fn := Tryd.f152) Tryd.func152 (by kernel_rfl) Tryd.ntmps152 Tryd.call152 _ _ _ (by kernel_rfl) (by kernel_rfl) (by kernel_rfl)
  (fun w0 hG => lall_of lall_nil (by kernel_rfl : loopsOf (bodyOf Tryd.f152) = _)) (fun p => Eq.trans (b := ref02RotB p.1 p.2) (by kernel_rfl) (ref02Rot_eq p.1 p.2).symm)
noncomputable def ref02IColumnsE : Entry := mkE [.arr (.int .u64) 25] [.arr (.int .u64) 25] fun p => ref02IColumns p
def ref02IColumnsL0Y : Lay := ⟨[(false, 1, .ptr 1001 []), (false, 2, .ptr 1002 []), (false, 3, .ptr 1003 [])], [(false, 4, .int .i64), (true, 1001, .arr (.int .u64) 25), (true, 1002, .arr (.int .u64) 25), (true, 1003, .arr (.int .u64) 5)], [⟨[(1001, 1001), (1002, 1002), (1003, 1003)], []⟩]⟩
def ref02IColumnsL0Z : List (Ex × Lay) := [(.exit 0, ⟨[(false, 1, .ptr 1001 []), (false, 2, .ptr 1002 []), (false, 3, .ptr 1003 [])], [(true, 1001, .arr (.int .u64) 25), (true, 1002, .arr (.int .u64) 25), (true, 1003, .arr (.int .u64) 5)], [⟨[(1001, 1001), (1002, 1002), (1003, 1003)], []⟩]⟩)]
noncomputable def ref02IColumnsL0E : LEntry := mkL ref02IColumnsL0Y ref02IColumnsL0Z fun p => ref02IColumnsL0 p.1 p.2.1 p.2.2.1 p.2.2.2
def ref02IColumnsL2Y : Lay := ⟨[(false, 1, .ptr 1001 []), (false, 2, .ptr 1002 []), (false, 3, .ptr 1003 []), (false, 5, .ptr 1005 [])], [(false, 6, .int .i64), (false, 7, .int .i64), (true, 1001, .arr (.int .u64) 25), (true, 1002, .arr (.int .u64) 25), (true, 1003, .arr (.int .u64) 5), (true, 1005, .arr (.int .u64) 25)], [⟨[(1001, 1001), (1002, 1002), (1003, 1003), (1005, 1005)], []⟩]⟩
def ref02IColumnsL2Z : List (Ex × Lay) := [(.exit 4, ⟨[(false, 1, .ptr 1001 []), (false, 2, .ptr 1002 []), (false, 3, .ptr 1003 []), (false, 5, .ptr 1005 [])], [(false, 6, .int .i64), (true, 1001, .arr (.int .u64) 25), (true, 1002, .arr (.int .u64) 25), (true, 1003, .arr (.int .u64) 5), (true, 1005, .arr (.int .u64) 25)], [⟨[(1001, 1001), (1002, 1002), (1003, 1003), (1005, 1005)], []⟩]⟩)]
noncomputable def ref02IColumnsL2E : LEntry := mkL ref02IColumnsL2Y ref02IColumnsL2Z fun p => ref02IColumnsL2 p.1 p.2.1 p.2.2.1 p.2.2.2.1 p.2.2.2.2.1 p.2.2.2.2.2
def ref02IColumnsL1Y : Lay := ⟨[(false, 1, .ptr 1001 []), (false, 2, .ptr 1002 []), (false, 3, .ptr 1003 []), (false, 5, .ptr 1005 [])], [(false, 6, .int .i64), (true, 1001, .arr (.int .u64) 25), (true, 1002, .arr (.int .u64) 25), (true, 1003, .arr (.int .u64) 5), (true, 1005, .arr (.int .u64) 25)], [⟨[(1001, 1001), (1002, 1002), (1003, 1003), (1005, 1005)], []⟩]⟩
def ref02IColumnsL1Z : List (Ex × Lay) := [(.exit 2, ⟨[(false, 2, .ptr 1002 []), (false, 5, .ptr 1005 [])], [(true, 1002, .arr (.int .u64) 25), (true, 1005, .arr (.int .u64) 25)], [⟨[(1002, 1002), (1005, 1005)], []⟩]⟩)]
noncomputable def ref02IColumnsL1E : LEntry := mkL ref02IColumnsL1Y ref02IColumnsL1Z fun p => ref02IColumnsL1 p.1 p.2.1 p.2.2.1 p.2.2.2.1 p.2.2.2.2
noncomputable def ref02IColumnsX : Cx := mkCx Tryd.prog 70 globsF [(151, ref02IAtE), (152, ref02RotE)] [(3, ref02IColumnsL0E), (8, ref02IColumnsL1E), (11, ref02IColumnsL2E)] []
theorem ref02IColumnsC : CxOk ref02IColumnsX (Glob globsF) := cx_ok (by kernel_rfl) (by kernel_rfl) ⟨ref02IAtK, ref02RotK, trivial⟩
theorem ref02IColumnsL0K (w0 : Ini) (hG : Glob globsF w0) : LoopOk ref02IColumnsX w0 (loopAt Tryd.f142 0) ref02IColumnsL0E :=
 loop_okH ref02IColumnsC hG (loopAt Tryd.f142 0) (lall_of lall_nil (by kernel_rfl : loopsOf (loopAt Tryd.f142 0) = _))
  ref02IColumnsL0Y ref02IColumnsL0Z (by kernel_rfl) (fun p => ref02IColumnsL0R p.1 p.2.1 p.2.2.1 p.2.2.2) (fun p => bigFuel) (fun p => by kernel_rfl) _ (fun p => ref02IColumnsL0_eq p.1 p.2.1 p.2.2.1 p.2.2.2)
theorem ref02IColumnsL2K (w0 : Ini) (hG : Glob globsF w0) : LoopOk ref02IColumnsX w0 (loopAt Tryd.f142 2) ref02IColumnsL2E :=
 loop_okH ref02IColumnsC hG (loopAt Tryd.f142 2) (lall_of lall_nil (by kernel_rfl : loopsOf (loopAt Tryd.f142 2) = _))
  ref02IColumnsL2Y ref02IColumnsL2Z (by kernel_rfl) (fun p => ref02IColumnsL2R p.1 p.2.1 p.2.2.1 p.2.2.2.1 p.2.2.2.2.1 p.2.2.2.2.2) (fun p => bigFuel) (fun p => by kernel_rfl) _ (fun p => ref02IColumnsL2_eq p.1 p.2.1 p.2.2.1 p.2.2.2.1 p.2.2.2.2.1 p.2.2.2.2.2)
theorem ref02IColumnsL1K (w0 : Ini) (hG : Glob globsF w0) : LoopOk ref02IColumnsX w0 (loopAt Tryd.f142 1) ref02IColumnsL1E :=
 loop_okH ref02IColumnsC hG (loopAt Tryd.f142 1) (lall_of (lall_cut (b := loopAt Tryd.f142 2) (ref02IColumnsL2K w0 hG) (by kernel_rfl) (lall_nil)) (by kernel_rfl : loopsOf (loopAt Tryd.f142 1) = _))
  ref02IColumnsL1Y ref02IColumnsL1Z (by kernel_rfl) (fun p => ref02IColumnsL1R p.1 p.2.1 p.2.2.1 p.2.2.2.1 p.2.2.2.2) (fun p => bigFuel) (fun p => by kernel_rfl) _ (fun p => ref02IColumnsL1_eq p.1 p.2.1 p.2.2.1 p.2.2.2.1 p.2.2.2.2)
theorem ref02IColumnsK : CallOk Tryd.prog (Glob globsF) 142 ref02IColumnsE :=
 fun_ok (cx := ref02IColumnsX) ref02IColumnsC (fn := Tryd.f142) Tryd.func142 (by kernel_rfl) Tryd.ntmps142 Tryd.call142 _ _ _ (by kernel_rfl) (by kernel_rfl) (by kernel_rfl)
  (fun w0 hG => lall_of (lall_cut (b := loopAt Tryd.f142 0) (ref02IColumnsL0K w0 hG) (by kernel_rfl) (lall_cut (b := loopAt Tryd.f142 1) (ref02IColumnsL1K w0 hG) (by kernel_rfl) (lall_cut (b := loopAt Tryd.f142 2) (ref02IColumnsL2K w0 hG) (by kernel_rfl) (lall_nil)))) (by kernel_rfl : loopsOf (bodyOf Tryd.f142) = _)) (fun p => Eq.trans (b := ref02IColumnsB p) (by kernel_rfl) (ref02IColumns_eq p).symm)
noncomputable def ref02IMovedE : Entry := mkE [.arr (.int .u64) 25] [.arr (.int .u64) 25] fun p => ref02IMoved p
def ref02IMovedL1Y : Lay := ⟨[(false, 1, .ptr 1001 []), (false, 2, .ptr 1002 []), (false, 3, .ptr 1003 [])], [(false, 4, .int .i64), (false, 5, .int .i64), (true, 1001, .arr (.int .u64) 25), (true, 1002, .arr (.int .u64) 25), (true, 1003, .arr (.int .u64) 25)], [⟨[(1001, 1001), (1002, 1002), (1003, 1003)], []⟩]⟩
def ref02IMovedL1Z : List (Ex × Lay) := [(.exit 2, ⟨[(false, 1, .ptr 1001 []), (false, 2, .ptr 1002 []), (false, 3, .ptr 1003 [])], [(false, 4, .int .i64), (true, 1001, .arr (.int .u64) 25), (true, 1002, .arr (.int .u64) 25), (true, 1003, .arr (.int .u64) 25)], [⟨[(1001, 1001), (1002, 1002), (1003, 1003)], []⟩]⟩)]
noncomputable def ref02IMovedL1E : LEntry := mkL ref02IMovedL1Y ref02IMovedL1Z fun p => ref02IMovedL1 p.1 p.2.1 p.2.2.1 p.2.2.2.1 p.2.2.2.2
def ref02IMovedL0Y : Lay := ⟨[(false, 1, .ptr 1001 []), (false, 2, .ptr 1002 []), (false, 3, .ptr 1003 [])], [(false, 4, .int .i64), (true, 1001, .arr (.int .u64) 25), (true, 1002, .arr (.int .u64) 25), (true, 1003, .arr (.int .u64) 25)], [⟨[(1001, 1001), (1002, 1002), (1003, 1003)], []⟩]⟩
def ref02IMovedL0Z : List (Ex × Lay) := [(.exit 0, ⟨[(false, 2, .ptr 1002 []), (false, 3, .ptr 1003 [])], [(true, 1002, .arr (.int .u64) 25), (true, 1003, .arr (.int .u64) 25)], [⟨[(1002, 1002), (1003, 1003)], []⟩]⟩)]
noncomputable def ref02IMovedL0E : LEntry := mkL ref02IMovedL0Y ref02IMovedL0Z fun p => ref02IMovedL0 p.1 p.2.1 p.2.2.1 p.2.2.2
noncomputable def ref02IMovedX : Cx := mkCx Tryd.prog 34 globs4 [(151, ref02IAtE), (152, ref02RotE)] [(3, ref02IMovedL0E), (6, ref02IMovedL1E)] []
theorem ref02IMovedC : CxOk ref02IMovedX (Glob globs4) := cx_ok (by kernel_rfl) (by kernel_rfl) ⟨(ref02IAtK.up globsF_globs4), (ref02RotK.up globsF_globs4), trivial⟩
theorem ref02IMovedL1K (w0 : Ini) (hG : Glob globs4 w0) : LoopOk ref02IMovedX w0 (loopAt Tryd.f143 1) ref02IMovedL1E :=
 loop_okH ref02IMovedC hG (loopAt Tryd.f143 1) (lall_of lall_nil (by kernel_rfl : loopsOf (loopAt Tryd.f143 1) = _))
  ref02IMovedL1Y ref02IMovedL1Z (by kernel_rfl) (fun p => ref02IMovedL1R p.1 p.2.1 p.2.2.1 p.2.2.2.1 p.2.2.2.2) (fun p => bigFuel) (fun p => by kernel_rfl) _ (fun p => ref02IMovedL1_eq p.1 p.2.1 p.2.2.1 p.2.2.2.1 p.2.2.2.2)
theorem ref02IMovedL0K (w0 : Ini) (hG : Glob globs4 w0) : LoopOk ref02IMovedX w0 (loopAt Tryd.f143 0) ref02IMovedL0E :=
 loop_okH ref02IMovedC hG (loopAt Tryd.f143 0) (lall_of (lall_cut (b := loopAt Tryd.f143 1) (ref02IMovedL1K w0 hG) (by kernel_rfl) (lall_nil)) (by kernel_rfl : loopsOf (loopAt Tryd.f143 0) = _))
  ref02IMovedL0Y ref02IMovedL0Z (by kernel_rfl) (fun p => ref02IMovedL0R p.1 p.2.1 p.2.2.1 p.2.2.2) (fun p => bigFuel) (fun p => by kernel_rfl) _ (fun p => ref02IMovedL0_eq p.1 p.2.1 p.2.2.1 p.2.2.2)
theorem ref02IMovedK : CallOk Tryd.prog (Glob globs4) 143 ref02IMovedE :=
 fun_ok (cx := ref02IMovedX) ref02IMovedC (fn := Tryd.f143) Tryd.func143 (by kernel_rfl) Tryd.ntmps143 Tryd.call143 _ _ _ (by kernel_rfl) (by kernel_rfl) (by kernel_rfl)
  (fun w0 hG => lall_of (lall_cut (b := loopAt Tryd.f143 0) (ref02IMovedL0K w0 hG) (by kernel_rfl) (lall_cut (b := loopAt Tryd.f143 1) (ref02IMovedL1K w0 hG) (by kernel_rfl) (lall_nil))) (by kernel_rfl : loopsOf (bodyOf Tryd.f143) = _)) (fun p => Eq.trans (b := ref02IMovedB p) (by kernel_rfl) (ref02IMoved_eq p).symm)
noncomputable def ref02IMixedE : Entry := mkE [.arr (.int .u64) 25] [.arr (.int .u64) 25] fun p => ref02IMixed p
def ref02IMixedL1Y : Lay := ⟨[(false, 1, .ptr 1001 []), (false, 2, .ptr 1002 []), (false, 3, .ptr 1003 [])], [(false, 4, .int .i64), (false, 5, .int .i64), (true, 1001, .arr (.int .u64) 25), (true, 1002, .arr (.int .u64) 25), (true, 1003, .arr (.int .u64) 25)], [⟨[(1001, 1001), (1002, 1002), (1003, 1003)], []⟩]⟩
def ref02IMixedL1Z : List (Ex × Lay) := [(.exit 2, ⟨[(false, 1, .ptr 1001 []), (false, 2, .ptr 1002 []), (false, 3, .ptr 1003 [])], [(false, 4, .int .i64), (true, 1001, .arr (.int .u64) 25), (true, 1002, .arr (.int .u64) 25), (true, 1003, .arr (.int .u64) 25)], [⟨[(1001, 1001), (1002, 1002), (1003, 1003)], []⟩]⟩)]
noncomputable def ref02IMixedL1E : LEntry := mkL ref02IMixedL1Y ref02IMixedL1Z fun p => ref02IMixedL1 p.1 p.2.1 p.2.2.1 p.2.2.2.1 p.2.2.2.2
def ref02IMixedL0Y : Lay := ⟨[(false, 1, .ptr 1001 []), (false, 2, .ptr 1002 []), (false, 3, .ptr 1003 [])], [(false, 4, .int .i64), (true, 1001, .arr (.int .u64) 25), (true, 1002, .arr (.int .u64) 25), (true, 1003, .arr (.int .u64) 25)], [⟨[(1001, 1001), (1002, 1002), (1003, 1003)], []⟩]⟩
def ref02IMixedL0Z : List (Ex × Lay) := [(.exit 0, ⟨[(false, 2, .ptr 1002 []), (false, 3, .ptr 1003 [])], [(true, 1002, .arr (.int .u64) 25), (true, 1003, .arr (.int .u64) 25)], [⟨[(1002, 1002), (1003, 1003)], []⟩]⟩)]
noncomputable def ref02IMixedL0E : LEntry := mkL ref02IMixedL0Y ref02IMixedL0Z fun p => ref02IMixedL0 p.1 p.2.1 p.2.2.1 p.2.2.2
noncomputable def ref02IMixedX : Cx := mkCx Tryd.prog 39 globsF [(151, ref02IAtE)] [(3, ref02IMixedL0E), (6, ref02IMixedL1E)] []
theorem ref02IMixedC : CxOk ref02IMixedX (Glob globsF) := cx_ok (by kernel_rfl) (by kernel_rfl) ⟨ref02IAtK, trivial⟩
theorem ref02IMixedL1K (w0 : Ini) (hG : Glob globsF w0) : LoopOk ref02IMixedX w0 (loopAt Tryd.f144 1) ref02IMixedL1E :=
 loop_okH ref02IMixedC hG (loopAt Tryd.f144 1) (lall_of lall_nil (by kernel_rfl : loopsOf (loopAt Tryd.f144 1) = _))
  ref02IMixedL1Y ref02IMixedL1Z (by kernel_rfl) (fun p => ref02IMixedL1R p.1 p.2.1 p.2.2.1 p.2.2.2.1 p.2.2.2.2) (fun p => bigFuel) (fun p => by kernel_rfl) _ (fun p => ref02IMixedL1_eq p.1 p.2.1 p.2.2.1 p.2.2.2.1 p.2.2.2.2)
theorem ref02IMixedL0K (w0 : Ini) (hG : Glob globsF w0) : LoopOk ref02IMixedX w0 (loopAt Tryd.f144 0) ref02IMixedL0E :=
 loop_okH ref02IMixedC hG (loopAt Tryd.f144 0) (lall_of (lall_cut (b := loopAt Tryd.f144 1) (ref02IMixedL1K w0 hG) (by kernel_rfl) (lall_nil)) (by kernel_rfl : loopsOf (loopAt Tryd.f144 0) = _))
  ref02IMixedL0Y ref02IMixedL0Z (by kernel_rfl) (fun p => ref02IMixedL0R p.1 p.2.1 p.2.2.1 p.2.2.2) (fun p => bigFuel) (fun p => by kernel_rfl) _ (fun p => ref02IMixedL0_eq p.1 p.2.1 p.2.2.1 p.2.2.2)
theorem ref02IMixedK : CallOk Tryd.prog (Glob globsF) 144 ref02IMixedE :=
 fun_ok (cx := ref02IMixedX) ref02IMixedC (fn := Tryd.f144) Tryd.func144 (by kernel_rfl) Tryd.ntmps144 Tryd.call144 _ _ _ (by kernel_rfl) (by kernel_rfl) (by kernel_rfl)
  (fun w0 hG => lall_of (lall_cut (b := loopAt Tryd.f144 0) (ref02IMixedL0K w0 hG) (by kernel_rfl) (lall_cut (b := loopAt Tryd.f144 1) (ref02IMixedL1K w0 hG) (by kernel_rfl) (lall_nil))) (by kernel_rfl : loopsOf (bodyOf Tryd.f144) = _)) (fun p => Eq.trans (b := ref02IMixedB p) (by kernel_rfl) (ref02IMixed_eq p).symm)
noncomputable def ref02PermuteE : Entry := mkE [.arr (.int .u64) 25] [.arr (.int .u64) 25] fun p => ref02Permute p
def ref02PermuteL0Y : Lay := ⟨[(false, 2, .ptr 1002 []), (false, 3, .ptr 1003 [])], [(false, 4, .int .i64), (true, 1002, .arr (.int .u64) 25), (true, 1003, .arr (.int .u64) 25)], [⟨[(1002, 1002), (1003, 1003)], []⟩]⟩
def ref02PermuteL0Z : List (Ex × Lay) := [(.exit 0, ⟨[(false, 2, .ptr 1002 []), (false, 3, .ptr 1003 [])], [(true, 1002, .arr (.int .u64) 25), (true, 1003, .arr (.int .u64) 25)], [⟨[(1002, 1002), (1003, 1003)], []⟩]⟩)]
noncomputable def ref02PermuteL0E : LEntry := mkL ref02PermuteL0Y ref02PermuteL0Z fun p => ref02PermuteL0 p.1 p.2.1 p.2.2
noncomputable def ref02PermuteX : Cx := mkCx Tryd.prog 24 globs2x4 [(142, ref02IColumnsE), (143, ref02IMovedE), (144, ref02IMixedE)] [(3, ref02PermuteL0E)] []
theorem ref02PermuteC : CxOk ref02PermuteX (Glob globs2x4) := cx_ok (by kernel_rfl) (by kernel_rfl) ⟨(ref02IColumnsK.up globsF_globs2x4), (ref02IMovedK.up globs4_globs2x4), (ref02IMixedK.up globsF_globs2x4), trivial⟩
theorem ref02PermuteL0K (w0 : Ini) (hG : Glob globs2x4 w0) : LoopOk ref02PermuteX w0 (loopAt Tryd.f123 0) ref02PermuteL0E :=
 loop_okH ref02PermuteC hG (loopAt Tryd.f123 0) (lall_of lall_nil (by kernel_rfl : loopsOf (loopAt Tryd.f123 0) = _))
  ref02PermuteL0Y ref02PermuteL0Z (by kernel_rfl) (fun p => ref02PermuteL0R p.1 p.2.1 p.2.2) (fun p => bigFuel) (fun p => by kernel_rfl) _ (fun p => ref02PermuteL0_eq p.1 p.2.1 p.2.2)
theorem ref02PermuteK : CallOk Tryd.prog (Glob globs2x4) 123 ref02PermuteE :=
 fun_ok (cx := ref02PermuteX) ref02PermuteC (fn := Tryd.f123) Tryd.func123 (by kernel_rfl) Tryd.ntmps123 Tryd.call123 _ _ _ (by kernel_rfl) (by kernel_rfl) (by kernel_rfl)
  (fun w0 hG => lall_of (lall_cut (b := loopAt Tryd.f123 0) (ref02PermuteL0K w0 hG) (by kernel_rfl) (lall_nil)) (by kernel_rfl : loopsOf (bodyOf Tryd.f123) = _)) (fun p => Eq.trans (b := ref02PermuteB p) (by kernel_rfl) (ref02Permute_eq p).symm)
noncomputable def ref02DigestE : Entry := mkE [.isl false (.int .u8), .int .u8] [.arr (.int .u8) 32] fun p => ref02Digest p.1 p.2
def ref02DigestL1Y : Lay := ⟨[(false, 4, .ptr 1004 []), (false, 6, .ptr 1006 [])], [(false, 5, .isl true (.int .u8)), (false, 7, .int .i64), (false, 8, .int .i64), (true, 1004, .arr (.int .u8) 32), (true, 1006, .arr (.int .u64) 25)], [⟨[(1004, 1004), (1006, 1006)], []⟩]⟩
def ref02DigestL1Z : List (Ex × Lay) := [(.exit 2, ⟨[(false, 4, .ptr 1004 []), (false, 6, .ptr 1006 [])], [(false, 5, .isl true (.int .u8)), (false, 7, .int .i64), (true, 1004, .arr (.int .u8) 32), (true, 1006, .arr (.int .u64) 25)], [⟨[(1004, 1004), (1006, 1006)], []⟩]⟩)]
noncomputable def ref02DigestL1E : LEntry := mkL ref02DigestL1Y ref02DigestL1Z fun p => ref02DigestL1 p.1 p.2.1 p.2.2.1 p.2.2.2.1 p.2.2.2.2
def ref02DigestL0Y : Lay := ⟨[(false, 4, .ptr 1004 []), (false, 6, .ptr 1006 [])], [(false, 5, .isl true (.int .u8)), (false, 7, .int .i64), (true, 1004, .arr (.int .u8) 32), (true, 1006, .arr (.int .u64) 25)], [⟨[(1004, 1004), (1006, 1006)], []⟩]⟩
def ref02DigestL0Z : List (Ex × Lay) := [(.exit 0, ⟨[(false, 4, .ptr 1004 []), (false, 6, .ptr 1006 [])], [(true, 1004, .arr (.int .u8) 32), (true, 1006, .arr (.int .u64) 25)], [⟨[(1004, 1004), (1006, 1006)], []⟩]⟩)]
noncomputable def ref02DigestL0E : LEntry := mkL ref02DigestL0Y ref02DigestL0Z fun p => ref02DigestL0 p.1 p.2.1 p.2.2.1 p.2.2.2
def ref02DigestL2Y : Lay := ⟨[(false, 4, .ptr 1004 []), (false, 6, .ptr 1006 []), (false, 9, .ptr 1009 [])], [(false, 10, .int .i64), (true, 1004, .arr (.int .u8) 32), (true, 1006, .arr (.int .u64) 25), (true, 1009, .arr (.int .u8) 32)], [⟨[(1004, 1004), (1006, 1006), (1009, 1009)], []⟩]⟩
def ref02DigestL2Z : List (Ex × Lay) := [(.exit 4, ⟨[(false, 4, .ptr 1004 []), (false, 9, .ptr 1009 [])], [(true, 1004, .arr (.int .u8) 32), (true, 1009, .arr (.int .u8) 32)], [⟨[(1004, 1004), (1009, 1009)], []⟩]⟩)]
noncomputable def ref02DigestL2E : LEntry := mkL ref02DigestL2Y ref02DigestL2Z fun p => ref02DigestL2 p.1 p.2.1 p.2.2.1 p.2.2.2
noncomputable def ref02DigestX : Cx := mkCx Tryd.prog 63 globs2x4 [(122, ref02IFilledE), (123, ref02PermuteE)] [(4, ref02DigestL0E), (7, ref02DigestL1E), (13, ref02DigestL2E)] []
theorem ref02DigestC : CxOk ref02DigestX (Glob globs2x4) := cx_ok (by kernel_rfl) (by kernel_rfl) ⟨(ref02IFilledK.up globsF_globs2x4), ref02PermuteK, trivial⟩
theorem ref02DigestL1K (w0 : Ini) (hG : Glob globs2x4 w0) : LoopOk ref02DigestX w0 (loopAt Tryd.f95 1) ref02DigestL1E :=
 loop_okH ref02DigestC hG (loopAt Tryd.f95 1) (lall_of lall_nil (by kernel_rfl : loopsOf (loopAt Tryd.f95 1) = _))
  ref02DigestL1Y ref02DigestL1Z (by kernel_rfl) (fun p => ref02DigestL1R p.1 p.2.1 p.2.2.1 p.2.2.2.1 p.2.2.2.2) (fun p => bigFuel) (fun p => by kernel_rfl) _ (fun p => ref02DigestL1_eq p.1 p.2.1 p.2.2.1 p.2.2.2.1 p.2.2.2.2)
theorem ref02DigestL0K (w0 : Ini) (hG : Glob globs2x4 w0) : LoopOk ref02DigestX w0 (loopAt Tryd.f95 0) ref02DigestL0E :=
 loop_okH ref02DigestC hG (loopAt Tryd.f95 0) (lall_of (lall_cut (b := loopAt Tryd.f95 1) (ref02DigestL1K w0 hG) (by kernel_rfl) (lall_nil)) (by kernel_rfl : loopsOf (loopAt Tryd.f95 0) = _))
  ref02DigestL0Y ref02DigestL0Z (by kernel_rfl) (fun p => ref02DigestL0R p.1 p.2.1 p.2.2.1 p.2.2.2) (fun p => bigFuel) (fun p => by kernel_rfl) _ (fun p => ref02DigestL0_eq p.1 p.2.1 p.2.2.1 p.2.2.2)
theorem ref02DigestL2K (w0 : Ini) (hG : Glob globs2x4 w0) : LoopOk ref02DigestX w0 (loopAt Tryd.f95 2) ref02DigestL2E :=
 loop_okH ref02DigestC hG (loopAt Tryd.f95 2) (lall_of lall_nil (by kernel_rfl : loopsOf (loopAt Tryd.f95 2) = _))
  ref02DigestL2Y ref02DigestL2Z (by kernel_rfl) (fun p => ref02DigestL2R p.1 p.2.1 p.2.2.1 p.2.2.2) (fun p => bigFuel) (fun p => by kernel_rfl) _ (fun p => ref02DigestL2_eq p.1 p.2.1 p.2.2.1 p.2.2.2)
theorem ref02DigestK : CallOk Tryd.prog (Glob globs2x4) 95 ref02DigestE :=
 fun_ok (cx := ref02DigestX) ref02DigestC (fn := Tryd.f95) Tryd.func95 (by kernel_rfl) Tryd.ntmps95 Tryd.call95 _ _ _ (by kernel_rfl) (by kernel_rfl) (by kernel_rfl)
  (fun w0 hG => lall_of (lall_cut (b := loopAt Tryd.f95 0) (ref02DigestL0K w0 hG) (by kernel_rfl) (lall_cut (b := loopAt Tryd.f95 1) (ref02DigestL1K w0 hG) (by kernel_rfl) (lall_cut (b := loopAt Tryd.f95 2) (ref02DigestL2K w0 hG) (by kernel_rfl) (lall_nil)))) (by kernel_rfl : loopsOf (bodyOf Tryd.f95) = _)) (fun p => Eq.trans (b := ref02DigestB p.1 p.2) (by kernel_rfl) (ref02Digest_eq p.1 p.2).symm)
noncomputable def ref02SumE : Entry := mkE [.isl false .bytes] [.arr (.int .u8) 32] fun p => ref02Sum p
noncomputable def ref02SumX : Cx := mkCx Tryd.prog 6 globs2x4 [(95, ref02DigestE), (96, ref02IJoinedE)] [] []
theorem ref02SumC : CxOk ref02SumX (Glob globs2x4) := cx_ok (by kernel_rfl) (by kernel_rfl) ⟨ref02DigestK, (ref02IJoinedK.up globsF_globs2x4), trivial⟩
theorem ref02SumK : CallOk Tryd.prog (Glob globs2x4) 59 ref02SumE :=
 fun_ok (cx := ref02SumX) ref02SumC (fn := Tryd.f59) Tryd.func59 (by kernel_rfl) Tryd.ntmps59 Tryd.call59 _ _ _ (by kernel_rfl) (by kernel_rfl) (by kernel_rfl)
  (fun w0 hG => lall_of lall_nil (by kernel_rfl : loopsOf (bodyOf Tryd.f59) = _)) (fun p => Eq.trans (b := ref02SumB p) (by kernel_rfl) (ref02Sum_eq p).symm)
noncomputable def ref22TopicE : Entry := mkE [.str] [.arr (.int .u8) 32, .int .i64] fun p => ref22Topic p
noncomputable def ref22TopicX : Cx := mkCx Tryd.prog 21 globs2x4 [(23, ref22SignatureE), (59, ref02SumE)] [] []
theorem ref22TopicC : CxOk ref22TopicX (Glob globs2x4) := cx_ok (by kernel_rfl) (by kernel_rfl) ⟨(ref22SignatureK.up globsF_globs2x4), ref02SumK, trivial⟩
theorem ref22TopicK : CallOk Tryd.prog (Glob globs2x4) 28 ref22TopicE :=
 fun_ok (cx := ref22TopicX) ref22TopicC (fn := Tryd.f28) Tryd.func28 (by kernel_rfl) Tryd.ntmps28 Tryd.call28 _ _ _ (by kernel_rfl) (by kernel_rfl) (by kernel_rfl)
  (fun w0 hG => lall_of lall_nil (by kernel_rfl : loopsOf (bodyOf Tryd.f28) = _)) (fun p => Eq.trans (b := ref22TopicB p) (by kernel_rfl) (ref22Topic_eq p).symm)
noncomputable def ref22SelectorE : Entry := mkE [.str] [.arr (.int .u8) 4, .int .i64] fun p => ref22Selector p
noncomputable def ref22SelectorX : Cx := mkCx Tryd.prog 21 globs2x4 [(28, ref22TopicE)] [] []
theorem ref22SelectorC : CxOk ref22SelectorX (Glob globs2x4) := cx_ok (by kernel_rfl) (by kernel_rfl) ⟨ref22TopicK, trivial⟩
theorem ref22SelectorK : CallOk Tryd.prog (Glob globs2x4) 26 ref22SelectorE :=
 fun_ok (cx := ref22SelectorX) ref22SelectorC (fn := Tryd.f26) Tryd.func26 (by kernel_rfl) Tryd.ntmps26 Tryd.call26 _ _ _ (by kernel_rfl) (by kernel_rfl) (by kernel_rfl)
  (fun w0 hG => lall_of lall_nil (by kernel_rfl : loopsOf (bodyOf Tryd.f26) = _)) (fun p => Eq.trans (b := ref22SelectorB p) (by kernel_rfl) (ref22Selector_eq p).symm)
noncomputable def law22AbiNamesE : Entry := mkE [.str] [.bool] fun p => law22AbiNames p
noncomputable def law22AbiNamesX : Cx := mkCx Tryd.prog 82 globsG [(16, law22INumE), (22, abiSignatureE), (23, ref22SignatureE), (24, law22IWordsE), (25, abiSelectorE), (26, ref22SelectorE), (27, abiTopicE), (28, ref22TopicE)] [] []
theorem law22AbiNamesC : CxOk law22AbiNamesX (Glob globsG) := cx_ok (by kernel_rfl) (by kernel_rfl) ⟨(law22INumK.up globsF_globsG), (abiSignatureK.up globs1x5_globsG), (ref22SignatureK.up globsF_globsG), (law22IWordsK.up globsF_globsG), (abiSelectorK.up globs0x1x5_globsG), (ref22SelectorK.up globs2x4_globsG), (abiTopicK.up globs0x1x5_globsG), (ref22TopicK.up globs2x4_globsG), trivial⟩
theorem law22AbiNamesK : CallOk Tryd.prog (Glob globsG) 5 law22AbiNamesE :=
 fun_ok (cx := law22AbiNamesX) law22AbiNamesC (fn := Tryd.f5) Tryd.func5 (by kernel_rfl) Tryd.ntmps5 Tryd.call5 _ _ _ (by kernel_rfl) (by kernel_rfl) (by kernel_rfl)
  (fun w0 hG => lall_of lall_nil (by kernel_rfl : loopsOf (bodyOf Tryd.f5) = _)) (fun p => Eq.trans (b := law22AbiNamesB p) (by kernel_rfl) (law22AbiNames_eq p).symm)
end Go.Sy
