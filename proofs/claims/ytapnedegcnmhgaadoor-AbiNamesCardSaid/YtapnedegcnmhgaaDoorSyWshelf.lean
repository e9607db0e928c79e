/-
  DERIVED: THE SHELF's CONTRACTS AT THIS DUMP, IN PLAIN WORDS (tools/lay-plain.mjs out of 'TrydShelf.lean', which tools/lay-shelf.mjs wrote): THE SAME DECLARATIONS UNDER THE SAME NAMES: 'import', 'namespace', 'open', 'def', 'theorem' AND NOTHING ELSE: no command of the shelf's: FOR A HAND-IN. Each laying: the table of numbers ('.._ren') and one theorem, a field a fact of the dump's own or the kernel's comparison; each contract: ONE APPLICATION.
-/
import Derived.Shelf.Strings.Builder1
import Derived.Shelf.Strings.Builder2
import Derived.Shelf.Strings.OnBuilder
import Derived.Shelf.Strconv.Itoa0
import Derived.Shelf.Strconv.Itoa1
import Derived.Shelf.LaysM
import Derived.Shelf.Strconv.Itoa2
import Derived.Shelf.Strconv.Itoa3
import Derived.Test.YtapnedegcnmhgaaDoorProg
namespace Go.Proofs
open Go.Shelf
def Tryd.lays156_ren : Go.Shelf.Ren := ⟨fun | 156 => 56 | 165 => 90 | 166 => 91 | 169 => 92 | 240 => 120 | 241 => 121 | 276 => 140 | 277 => 141 | n => n, fun | 31 => 46 | 9 => 9 | 3 => 3 | 4 => 4 | 0 => 0 | 20 => 20 | 72 => 137 | 76 => 141 | 70 => 135 | 37 => 36 | 75 => 140 | 127 => 171 | 164 => 192 | 5 => 5 | 80 => 143 | n => n, fun | n => n⟩
theorem Tryd.lays156 : Go.Proofs.Lays.n156 Tryd.prog Tryd.lays156_ren := {
 mixed := by kernel_rfl
 f156 := Tryd.func56.trans (congrArg some (by kernel_rfl))
 f165 := Tryd.func90.trans (congrArg some (by kernel_rfl))
 f166 := Tryd.func91.trans (congrArg some (by kernel_rfl))
 f169 := Tryd.func92.trans (congrArg some (by kernel_rfl))
 f240 := Tryd.func120.trans (congrArg some (by kernel_rfl))
 f241 := Tryd.func121.trans (congrArg some (by kernel_rfl))
 f276 := Tryd.func140.trans (congrArg some (by kernel_rfl))
 f277 := Tryd.func141.trans (congrArg some (by kernel_rfl))
 t0 := Tryd.underlying0
 a0 := Tryd.isAgg0
 z0 := Tryd.sizeOf0
 v0 := Tryd.zeroValue0
 t3 := Tryd.underlying3
 a3 := Tryd.isAgg3
 z3 := Tryd.sizeOf3
 v3 := Tryd.zeroValue3
 t4 := Tryd.underlying4
 a4 := Tryd.isAgg4
 z4 := Tryd.sizeOf4
 v4 := Tryd.zeroValue4
 t9 := Tryd.underlying9
 a9 := Tryd.isAgg9
 z9 := Tryd.sizeOf9
 v9 := Tryd.zeroValue9
 t20 := Tryd.underlying20
 a20 := Tryd.isAgg20
 z20 := Tryd.sizeOf20
 v20 := Tryd.zeroValue20
 t31 := Tryd.underlying46
 a31 := Tryd.isAgg46
 z31 := Tryd.sizeOf46
 v31 := Tryd.zeroValue46
 t37 := Tryd.underlying36
 a37 := Tryd.isAgg36
 z37 := Tryd.sizeOf36
 v37 := Tryd.zeroValue36
 t70 := Tryd.underlying135
 a70 := Tryd.isAgg135
 z70 := Tryd.sizeOf135
 v70 := Tryd.zeroValue135
 t72 := Tryd.underlying137
 a72 := Tryd.isAgg137
 z72 := Tryd.sizeOf137
 v72 := Tryd.zeroValue137
 t75 := Tryd.underlying140
 a75 := Tryd.isAgg140
 z75 := Tryd.sizeOf140
 v75 := Tryd.zeroValue140
 t76 := Tryd.underlying141
 a76 := Tryd.isAgg141
 z76 := Tryd.sizeOf141
 v76 := Tryd.zeroValue141
 t127 := Tryd.underlying171
 a127 := Tryd.isAgg171
 z127 := Tryd.sizeOf171
 v127 := Tryd.zeroValue171
 t164 := Tryd.underlying192
 a164 := Tryd.isAgg192
 z164 := Tryd.sizeOf192
 v164 := Tryd.zeroValue192 }
theorem Tryd.Builder_Extra_156 : Builder.Extra Tryd.prog Tryd.lays156_ren := {
 sizeBuilder := by kernel_rfl
 liesBuilder := by kernel_rfl
 t5 := Tryd.underlying5
 a5 := Tryd.isAgg5
 z5 := Tryd.sizeOf5
 v5 := Tryd.zeroValue5
 infoByte := by kernel_rfl
 cellsByte := by kernel_rfl
 sizeByte := by kernel_rfl
 neB5 := by decide }
open Go.RowKit in
theorem Tryd.strings_Join_none (a : Option Addr) (c : Nat) (sep : ByteArray) (w : World) :
  Calls Tryd.prog 56 #[.slice a 0 c, .string sep] w fun e w' => e = .returned (.string ⟨#[]⟩) ∧ w' = w := Any.strings_Join_none Tryd.lays156 Tryd.Builder_Extra_156 a c sep w
open Go.RowKit in
theorem Tryd.strings_Join (bk o c : Nat) (xs : List ByteArray) (sep : ByteArray) (w : World) (hcells : ∀ (j : Nat) x, xs[j]? = some x → w.cell? ⟨bk, o + j, none⟩ = some (.string x)) (hbk : bk < w.heap.size) (hN : xs.length ≤ 140737488355328) (hcap : xs.length ≤ c) (hlen : (Lib.join (xs.map (·.data.toList)) sep.data.toList).length ≤ 140737488355328) :
  Calls Tryd.prog 56 #[.slice (some ⟨bk, o, none⟩) xs.length c, .string sep] w fun e w' => e = .returned (.string ⟨(Lib.join (xs.map (·.data.toList)) sep.data.toList).toArray⟩) ∧ Below w.heap.size w w' := Any.strings_Join Tryd.lays156 Tryd.Builder_Extra_156 bk o c xs sep w hcells hbk hN hcap hlen
def Tryd.laysM171_ren : Go.Shelf.Ren := ⟨fun | 171 => 135 | 243 => 150 | 246 => 157 | 283 => 159 | 284 => 160 | 285 => 161 | 286 => 162 | 129 => 138 | 317 => 164 | 318 => 165 | 319 => 166 | 320 => 167 | 337 => 168 | 338 => 169 | n => n, fun | 3 => 3 | 9 => 9 | 2 => 2 | 4 => 4 | 171 => 207 | 0 => 0 | 53 => 33 | 37 => 36 | 5 => 5 | 173 => 209 | 212 => 214 | 51 => 215 | 20 => 20 | 213 => 216 | 46 => 173 | 232 => 57 | 233 => 220 | n => n, fun | 17 => 5 | 18 => 6 | 19 => 7 | n => n⟩
theorem Tryd.laysM171 : Go.Proofs.LaysM.n171 Tryd.prog Tryd.laysM171_ren := {
 mixed := by kernel_rfl
 f129 := Tryd.func138.trans (congrArg some (by kernel_rfl))
 f171 := Tryd.func135.trans (congrArg some (by kernel_rfl))
 f243 := Tryd.func150.trans (congrArg some (by kernel_rfl))
 f246 := Tryd.func157.trans (congrArg some (by kernel_rfl))
 f283 := Tryd.func159.trans (congrArg some (by kernel_rfl))
 f284 := Tryd.func160.trans (congrArg some (by kernel_rfl))
 f285 := Tryd.func161.trans (congrArg some (by kernel_rfl))
 f286 := Tryd.func162.trans (congrArg some (by kernel_rfl))
 f317 := Tryd.func164.trans (congrArg some (by kernel_rfl))
 f318 := Tryd.func165.trans (congrArg some (by kernel_rfl))
 f319 := Tryd.func166.trans (congrArg some (by kernel_rfl))
 f320 := Tryd.func167.trans (congrArg some (by kernel_rfl))
 f337 := Tryd.func168.trans (congrArg some (by kernel_rfl))
 f338 := Tryd.func169.trans (congrArg some (by kernel_rfl))
 t0 := Tryd.underlying0
 a0 := Tryd.isAgg0
 z0 := Tryd.sizeOf0
 v0 := Tryd.zeroValue0
 t2 := Tryd.underlying2
 a2 := Tryd.isAgg2
 z2 := Tryd.sizeOf2
 v2 := Tryd.zeroValue2
 t3 := Tryd.underlying3
 a3 := Tryd.isAgg3
 z3 := Tryd.sizeOf3
 v3 := Tryd.zeroValue3
 t4 := Tryd.underlying4
 a4 := Tryd.isAgg4
 z4 := Tryd.sizeOf4
 v4 := Tryd.zeroValue4
 t5 := Tryd.underlying5
 a5 := Tryd.isAgg5
 z5 := Tryd.sizeOf5
 v5 := Tryd.zeroValue5
 t9 := Tryd.underlying9
 a9 := Tryd.isAgg9
 z9 := Tryd.sizeOf9
 v9 := Tryd.zeroValue9
 t20 := Tryd.underlying20
 a20 := Tryd.isAgg20
 z20 := Tryd.sizeOf20
 v20 := Tryd.zeroValue20
 t37 := Tryd.underlying36
 a37 := Tryd.isAgg36
 z37 := Tryd.sizeOf36
 v37 := Tryd.zeroValue36
 t46 := Tryd.underlying173
 a46 := Tryd.isAgg173
 z46 := Tryd.sizeOf173
 v46 := Tryd.zeroValue173
 t51 := Tryd.underlying215
 a51 := Tryd.isAgg215
 z51 := Tryd.sizeOf215
 v51 := Tryd.zeroValue215
 t53 := Tryd.underlying33
 a53 := Tryd.isAgg33
 z53 := Tryd.sizeOf33
 v53 := Tryd.zeroValue33
 t171 := Tryd.underlying207
 a171 := Tryd.isAgg207
 z171 := Tryd.sizeOf207
 v171 := Tryd.zeroValue207
 t173 := Tryd.underlying209
 a173 := Tryd.isAgg209
 z173 := Tryd.sizeOf209
 v173 := Tryd.zeroValue209
 t212 := Tryd.underlying214
 a212 := Tryd.isAgg214
 z212 := Tryd.sizeOf214
 v212 := Tryd.zeroValue214
 t213 := Tryd.underlying216
 a213 := Tryd.isAgg216
 z213 := Tryd.sizeOf216
 t232 := Tryd.underlying57
 a232 := Tryd.isAgg57
 z232 := Tryd.sizeOf57
 v232 := Tryd.zeroValue57
 t233 := Tryd.underlying220
 a233 := Tryd.isAgg220
 z233 := Tryd.sizeOf220
 v233 := Tryd.zeroValue220
 g17 := by kernel_rfl
 g18 := by kernel_rfl
 g19 := by kernel_rfl
 i0 := by kernel_rfl
 i2 := by kernel_rfl
 i3 := by kernel_rfl
 i4 := by kernel_rfl
 i5 := by kernel_rfl
 i9 := by kernel_rfl
 i20 := by kernel_rfl
 i37 := by kernel_rfl
 i46 := by kernel_rfl
 i51 := by kernel_rfl
 i53 := by kernel_rfl
 i171 := by kernel_rfl
 i173 := by kernel_rfl
 i212 := by kernel_rfl
 i232 := by kernel_rfl
 i233 := by kernel_rfl
 m17 := by kernel_rfl
 m18 := by kernel_rfl
 m19 := by kernel_rfl }
open Go.RowKit Go.Sort Go.Lib in
theorem Tryd.strconv_Itoa (n : Int) (h0 : -9223372036854775808 ≤ n) (h1 : n ≤ 9223372036854775807) (w : World) (htab : Lib.TabIs Tryd.prog w "internal/strconv.uint64pow10" .u64 Lib.pow10Tab) :
  Calls Tryd.prog 135 #[.int .i64 n] w fun e w' => e = .returned (.string ⟨(Lib.itoa n).toArray⟩) ∧ ∃ k os, w' = grow (w.drewN k) os := Any.strconv_Itoa Tryd.laysM171 n h0 h1 w htab
end Go.Proofs
