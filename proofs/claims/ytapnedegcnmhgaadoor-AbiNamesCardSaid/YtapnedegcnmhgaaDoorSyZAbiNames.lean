/- AbiNames: whatever the input, the law returns true, and the input reads as it did. The row, and its tied card. No condition beyond the row's own. -/
import Derived.Test.YtapnedegcnmhgaaDoorSyWN
import Derived.Test.YtapnedegcnmhgaaDoorSyNi
import Derived.Test.YtapnedegcnmhgaaDoorSyKg
import Derived.Test.YtapnedegcnmhgaaDoorCards
import Derived.Test.YtapnedegcnmhgaaDoorTie
import Derived.Lay
import Derived.MakeChecks
import Derived.SevenTiedAt
set_option linter.unusedSimpArgs false
namespace Go.Proofs.YtapnedegcnmhgaaDoor
open Go Go.Sy Go.Proofs Go.ChangeShapes Go.WideShapes Go.RowKit
theorem own : ownKnob Tryd.prog.godebug = none := by kernel_rfl
def tab6 : List Int := [0, 1, 28, 2, 29, 14, 24, 3, 30, 22, 20, 15, 25, 17, 4, 8, 31, 27, 13, 23, 21, 19, 16, 7, 26, 12, 18, 6, 11, 5, 10, 9]
def tab7 : List Int := [0, 1, 56, 2, 57, 49, 28, 3, 61, 58, 42, 50, 38, 29, 17, 4, 62, 47, 59, 36, 45, 43, 51, 22, 53, 39, 33, 30, 24, 18, 12, 5, 63, 55, 48, 27, 60, 41, 37, 16, 46, 35, 44, 21, 52, 32, 23, 11, 54, 26, 40, 15, 34, 20, 31, 10, 25, 14, 19, 9, 13, 8, 7, 6]
def globsLaid : List (Nat × AV) := [(6, .arr (.int .u8) 32 tab6), (7, .arr (.int .u8) 64 tab7), (5, .arr (.int .u64) 20 pow10T), (0, .arr (.int .u8) 2 kecFirstT), (1, .arr (.d .base) 6 abiBases), (2, .arr (.int .u64) 24 kecRoundsT), (4, .arr (.int .i64) 25 kecTurnsT)]
theorem globs_sub : ∀ x ∈ globsG, x ∈ globsLaid := by
 intro x hx
 simp only [globsG, globsLaid, List.mem_cons, List.not_mem_nil, or_false] at hx ⊢
 rcases hx with h | h | h | h | h <;> simp [h]
theorem globs_laid (W : World) (h : laidMetH Tryd.prog [("math/bits.deBruijn32tab", Rows.laid_math_bits_deBruijn32tab), ("math/bits.deBruijn64tab", Rows.laid_math_bits_deBruijn64tab), ("internal/strconv.uint64pow10", Rows.laid_internal_strconv_uint64pow10), ("waybill/keccak.first", Rows.laid_waybill_keccak_first), ("waybill/abi.bases", Rows.laid_waybill_abi_bases), ("waybill/waybillref02.rounds", Rows.laid_waybill_waybillref02_rounds), ("waybill/waybillref02.turns", Rows.laid_waybill_waybillref02_turns)] W) : GlobW globsG W :=
 have hs : GlobW globsLaid W := glob_of (by kernel_rfl) (by kernel_rfl) (fun W h => by rw [MakeChecks.laidMetH_plain _ _ _ (by kernel_rfl)] at h; exact h) W h
 fun g v hg => hs g v (globs_sub _ hg)
def zeroLimbs : List Value := [.int .u64 0, .int .u64 0, .int .u64 0, .int .u64 0]
set_option maxRecDepth 100000 in
theorem abiNames_lifted (os : Os) (started : os.Started) (H : Type) (enc : TypeId × Value → H) :
  ReturnsInHanded {} Tryd.checked os 5 .any (fun w args => (Rows.abiNamesSpec.pre enc Tryd.prog Tryd.f5 [] false w args ∧ laidMetH Tryd.prog [("math/bits.deBruijn32tab", Rows.laid_math_bits_deBruijn32tab), ("math/bits.deBruijn64tab", Rows.laid_math_bits_deBruijn64tab), ("internal/strconv.uint64pow10", Rows.laid_internal_strconv_uint64pow10), ("waybill/keccak.first", Rows.laid_waybill_keccak_first), ("waybill/abi.bases", Rows.laid_waybill_abi_bases), ("waybill/waybillref02.rounds", Rows.laid_waybill_waybillref02_rounds), ("waybill/waybillref02.turns", Rows.laid_waybill_waybillref02_turns)] w) ∧ sizedMet enc Tryd.prog Tryd.f5 (OpenSpec.ofChange Rows.abiNamesSpec) false w args)
   (Rows.abiNamesSpec.post enc Tryd.prog Tryd.f5 false true false false) :=
 law_liftA (C := Tryd.checked) (s := Rows.abiNamesSpec) (tb := 4) [.str] (fun p => law22AbiNames p) own started (by kernel_rfl) Tryd.func5
  (ChangeSpec.witness_shaped (enc := enc) (C := Tryd.checked) (os := os) (X := fun w _ => laidMetH Tryd.prog [("math/bits.deBruijn32tab", Rows.laid_math_bits_deBruijn32tab), ("math/bits.deBruijn64tab", Rows.laid_math_bits_deBruijn64tab), ("internal/strconv.uint64pow10", Rows.laid_internal_strconv_uint64pow10), ("waybill/keccak.first", Rows.laid_waybill_keccak_first), ("waybill/abi.bases", Rows.laid_waybill_abi_bases), ("waybill/waybillref02.rounds", Rows.laid_waybill_waybillref02_rounds), ("waybill/waybillref02.turns", Rows.laid_waybill_waybillref02_turns)] w) false (World.laidAll Tryd.prog os [("math/bits.deBruijn32tab", Rows.laid_math_bits_deBruijn32tab), ("math/bits.deBruijn64tab", Rows.laid_math_bits_deBruijn64tab), ("internal/strconv.uint64pow10", Rows.laid_internal_strconv_uint64pow10), ("waybill/keccak.first", Rows.laid_waybill_keccak_first), ("waybill/abi.bases", Rows.laid_waybill_abi_bases), ("waybill/waybillref02.rounds", Rows.laid_waybill_waybillref02_rounds), ("waybill/waybillref02.turns", Rows.laid_waybill_waybillref02_turns)]) #[.string ⟨#[]⟩] 8 (World.laidAll_os _ _ _)
   (World.shaped_of_ZipB (by kernel_rfl) (by kernel_rfl)) (by kernel_rfl) (by kernel_rfl) (by kernel_rfl)
   (by rw [MakeChecks.laidMetH_plain _ _ _ (by kernel_rfl)]; exact laidMet_laidAll _ (by kernel_rfl) (by kernel_rfl)))
  globs_laid law22AbiNamesK Tryd.call5
  (fun x hx => law22AbiNames_true x (Nat.lt_of_le_of_lt (Nat.le_of_ble_eq_true (show Nat.ble (x : List UInt8).length 140737488351232 = true from hx)) (by decide)))
  (by kernel_rfl) (by kernel_rfl) (by kernel_rfl) (by kernel_rfl) (by kernel_rfl) rfl
  (fun ds h => by
   match ds, h with
   | [d0], _ => rfl)
theorem abiNames_holds : Rows.AbiNamesSaid :=
 OpenClaim.holds_of_wide 5 Tryd.f5 rfl rfl rfl rfl rfl rfl rfl ⟨rfl, rfl, rfl, rfl, rfl⟩ rfl rfl rfl rfl rfl (by kernel_rfl) Tryd.func5 (by kernel_rfl)
  (of_decide_eq_true (by kernel_rfl)) (by unfold Func.isWrapper; first | (rw [if_pos (by decide +kernel)]; kernel_rfl) | (rw [if_neg (by decide +kernel)]; exact ⟨rfl, rfl⟩))
  (fun os started H enc _ => abiNames_lifted os started H enc)
theorem abiNames_card : Rows.AbiNamesCardSaid :=
 Claim7.holds_tied_plain_at .later [] [.data, .data, .data, .data, .data, .data, .data] true (true, "72c3fdeb7f210dce7f6bf0ddf481c52ed390d6ce3c6102e4bd8e7500832c4780") true
  abiNames_holds (fun _ h => by cases h) (by kernel_rfl) (fun _ h => by cases h) abiNames_row_tie rfl ⟨rfl, rfl⟩ (by kernel_rfl) rfl
  (fun f fn hf hfn => by
   obtain rfl : f = 5 := Option.some.inj ((show Tryd.prog.funcNamed "waybill/waybilllaw22.AbiNames" = some 5 by kernel_rfl).symm.trans hf) |>.symm
   obtain rfl : fn = Tryd.f5 := (Option.some.inj (Tryd.func5.symm.trans hfn)).symm
   exact ⟨by kernel_rfl, fun j t ht => by
    have hm : t ∈ Tryd.f5.params.toList := by simpa using Array.mem_of_getElem? ht
    have hall : (Tryd.f5.params.toList.all fun u => !Tryd.prog.wantsStandIn u) = true := by kernel_rfl
    exact (show Tryd.prog.wantsStandIn t = false by simpa using List.all_eq_true.1 hall t hm)⟩)
  (by kernel_rfl)
#print axioms abiNames_card
end Go.Proofs.YtapnedegcnmhgaaDoor
