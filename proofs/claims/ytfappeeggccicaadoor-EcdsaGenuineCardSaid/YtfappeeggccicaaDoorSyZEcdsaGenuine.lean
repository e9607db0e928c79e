/- EcdsaGenuine: whatever the input, the law returns true, and the input reads as it did. The row, and its tied card. No condition beyond the row's own. -/

import Derived.Test.YtfappeeggccicaaDoorSyWG

import Derived.Test.YtfappeeggccicaaDoorSyMs7

import Derived.Test.YtfappeeggccicaaDoorSyHZ

import Derived.Test.YtfappeeggccicaaDoorSyKg

import Derived.Test.YtfappeeggccicaaDoorCards

import Derived.Test.YtfappeeggccicaaDoorTie

import Derived.Lay

import Derived.MakeChecks

import Derived.SevenTiedAt

set_option linter.unusedSimpArgs false

namespace Go.Proofs.YtfappeeggccicaaDoor

open Go Go.Sy Go.Proofs Go.ChangeShapes Go.WideShapes Go.RowKit

theorem own : ownKnob Tryd.prog.godebug = none := by kernel_rfl

theorem globs_laid (W : World) (h : laidMetH Tryd.prog [("waybill/sha.constants", Rows.laid_waybill_sha_constants), ("waybill/sha.start", Rows.laid_waybill_sha_start), ("waybill/field.moduli", Rows.laid_waybill_field_moduli), ("waybill/curve.base", Rows.laid_waybill_curve_base)] W) : GlobW globsG W :=
  have hs : GlobW [(3, .arr (.int .u32) 64 shaConstsT), (2, .arr (.int .u32) 8 shaStartT), (0, .arr .u2 2 fieldModuli), (1, .arr (.int .u64) 8 curveBase)] W := glob_of (by kernel_rfl) (by kernel_rfl) (fun W h => by rw [MakeChecks.laidMetH_plain _ _ _ (by kernel_rfl)] at h; exact h) W h
  fun g v hg => hs g v (by simp only [globsG, List.mem_cons, List.not_mem_nil, or_false] at hg ⊢; first | exact hg | exact hg.symm | (rcases hg with h | h | h <;> rw [h] <;> simp) | (rcases hg with h | h | h | h <;> rw [h] <;> simp))

def zeroLimbs : List Value := [.int .u64 0, .int .u64 0, .int .u64 0, .int .u64 0]

set_option maxRecDepth 100000 in
theorem ecdsaGenuine_lifted (os : Os) (started : os.Started) (H : Type) (enc : TypeId × Value → H) :
    ReturnsInHanded {} Tryd.checked os 8 .any (fun w args => (Rows.ecdsaGenuineSpec.pre enc Tryd.prog Tryd.f8 [] false w args ∧ laidMetH Tryd.prog [("waybill/sha.constants", Rows.laid_waybill_sha_constants), ("waybill/sha.start", Rows.laid_waybill_sha_start), ("waybill/field.moduli", Rows.laid_waybill_field_moduli), ("waybill/curve.base", Rows.laid_waybill_curve_base)] w) ∧ sizedMet enc Tryd.prog Tryd.f8 (OpenSpec.ofChange Rows.ecdsaGenuineSpec) false w args)
      (Rows.ecdsaGenuineSpec.post enc Tryd.prog Tryd.f8 false true false false) :=
  law_liftA (C := Tryd.checked) (s := Rows.ecdsaGenuineSpec) (tb := 4) [.u256, .arr (.int .u8) 32] (fun p => law06EcdsaGenuine p.1 p.2) own started (by kernel_rfl) Tryd.func8
    (ChangeSpec.witness_shaped (enc := enc) (C := Tryd.checked) (os := os) (X := fun w _ => laidMetH Tryd.prog [("waybill/sha.constants", Rows.laid_waybill_sha_constants), ("waybill/sha.start", Rows.laid_waybill_sha_start), ("waybill/field.moduli", Rows.laid_waybill_field_moduli), ("waybill/curve.base", Rows.laid_waybill_curve_base)] w) false (World.laidAll Tryd.prog os [("waybill/sha.constants", Rows.laid_waybill_sha_constants), ("waybill/sha.start", Rows.laid_waybill_sha_start), ("waybill/field.moduli", Rows.laid_waybill_field_moduli), ("waybill/curve.base", Rows.laid_waybill_curve_base)]) #[.agg zeroLimbs.toArray, .agg (List.replicate 32 (Value.int .u8 0)).toArray] 8 (World.laidAll_os _ _ _)
      (World.shaped_of_ZipB (by kernel_rfl) (by kernel_rfl)) (by kernel_rfl) (by kernel_rfl) (by kernel_rfl)
      (by rw [MakeChecks.laidMetH_plain _ _ _ (by kernel_rfl)]; exact laidMet_laidAll _ (by kernel_rfl) (by kernel_rfl)))
    globs_laid law06EcdsaGenuineK Tryd.call8
    (fun x hx => by simp only [Pat.oksA, Pat.okA, Pat.oksV, Pat.okV, Bool.and_eq_true] at hx; exact law06EcdsaGenuine_true (by simpa using hx.1) (bytes_of hx.2))
    (by kernel_rfl) (by kernel_rfl) (by kernel_rfl) (by kernel_rfl) (by kernel_rfl) rfl
    (fun ds h => by
      match ds, h with
      | [d0, d1], _ => rfl)

theorem ecdsaGenuine_holds : Rows.EcdsaGenuineSaid :=
  OpenClaim.holds_of_wide 8 Tryd.f8 rfl rfl rfl rfl rfl rfl rfl ⟨rfl, rfl, rfl, rfl, rfl⟩ rfl rfl rfl rfl rfl (by kernel_rfl) Tryd.func8 (by kernel_rfl)
    (of_decide_eq_true (by kernel_rfl)) (by unfold Func.isWrapper; first | (rw [if_pos (by decide +kernel)]; kernel_rfl) | (rw [if_neg (by decide +kernel)]; exact ⟨rfl, rfl⟩))
    (fun os started H enc _ => ecdsaGenuine_lifted os started H enc)

theorem ecdsaGenuine_card : Rows.EcdsaGenuineCardSaid :=
  Claim7.holds_tied_plain_at .later [] [.data, .data, .data, .data] true (true, "1168674e6e92cb5a98f828ccd8141b63dc2ecac04259b0f22eac6ea9b5562e5e") false
    ecdsaGenuine_holds (fun _ h => by cases h) (by kernel_rfl) (fun _ h => by cases h) ecdsaGenuine_row_tie rfl ⟨rfl, rfl⟩ (by kernel_rfl) rfl
    (fun f fn hf hfn => by
      obtain rfl : f = 8 := Option.some.inj ((show Tryd.prog.funcNamed "waybill/waybilllaw06.EcdsaGenuine" = some 8 by kernel_rfl).symm.trans hf) |>.symm
      obtain rfl : fn = Tryd.f8 := (Option.some.inj (Tryd.func8.symm.trans hfn)).symm
      exact ⟨by kernel_rfl, fun j t ht => by
        have hm : t ∈ Tryd.f8.params.toList := by simpa using Array.mem_of_getElem? ht
        have hall : (Tryd.f8.params.toList.all fun u => !Tryd.prog.wantsStandIn u) = true := by kernel_rfl
        exact (show Tryd.prog.wantsStandIn t = false by simpa using List.all_eq_true.1 hall t hm)⟩)
    (by kernel_rfl)
#print axioms ecdsaGenuine_card

end Go.Proofs.YtfappeeggccicaaDoor
