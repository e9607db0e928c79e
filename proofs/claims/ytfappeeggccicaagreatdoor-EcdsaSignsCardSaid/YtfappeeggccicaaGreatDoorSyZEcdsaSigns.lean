/- EcdsaSigns: whatever the input, the law returns true, and the input reads as it did. The row, and its tied card. No condition beyond the row's own. -/
import Derived.Test.YtfappeeggccicaaGreatDoorSyWG
import Derived.Test.YtfappeeggccicaaGreatDoorSyMs8
import Derived.Test.YtfappeeggccicaaGreatDoorSyHZ
import Derived.Test.YtfappeeggccicaaGreatDoorSyKg
import Derived.Test.YtfappeeggccicaaGreatDoorCards
import Derived.Test.YtfappeeggccicaaGreatDoorTie
import Derived.Lay
import Derived.MakeChecks
import Derived.SevenTiedAt
set_option linter.unusedSimpArgs false
namespace Go.Proofs.YtfappeeggccicaaGreatDoor
open Go Go.Sy Go.Proofs Go.ChangeShapes Go.WideShapes Go.RowKit
theorem own : ownKnob Tryz.prog.godebug = none := by kernel_rfl
theorem globs_laid (W : World) (h : laidMetH Tryz.prog [("waybill/sha.constants", Rows.laid_waybill_sha_constants), ("waybill/sha.start", Rows.laid_waybill_sha_start), ("waybill/field.moduli", Rows.laid_waybill_field_moduli), ("waybill/curve.base", Rows.laid_waybill_curve_base)] W) : GlobW globsG W :=
 have hs : GlobW [(3, .arr (.int .u32) 64 shaConstsT), (2, .arr (.int .u32) 8 shaStartT), (0, .arr .u2 2 fieldModuli), (1, .arr (.int .u64) 8 curveBase)] W := glob_of (by kernel_rfl) (by kernel_rfl) (fun W h => by rw [MakeChecks.laidMetH_plain _ _ _ (by kernel_rfl)] at h; exact h) W h
 fun g v hg => hs g v (by simp only [globsG, List.mem_cons, List.not_mem_nil, or_false] at hg ⊢; first | exact hg | exact hg.symm | (rcases hg with h | h | h <;> rw [h] <;> simp) | (rcases hg with h | h | h | h <;> rw [h] <;> simp))
def zeroLimbs : List Value := [.int .u64 0, .int .u64 0, .int .u64 0, .int .u64 0]
set_option maxRecDepth 100000 in
theorem ecdsaSigns_lifted (os : Os) (started : os.Started) (H : Type) (enc : TypeId × Value → H) :
  ReturnsInHanded {} Tryz.checked os 3 .any (fun w args => (Rows.ecdsaSignsSpec.pre enc Tryz.prog Tryz.f3 [] false w args ∧ laidMetH Tryz.prog [("waybill/sha.constants", Rows.laid_waybill_sha_constants), ("waybill/sha.start", Rows.laid_waybill_sha_start), ("waybill/field.moduli", Rows.laid_waybill_field_moduli), ("waybill/curve.base", Rows.laid_waybill_curve_base)] w) ∧ sizedMet enc Tryz.prog Tryz.f3 (OpenSpec.ofChange Rows.ecdsaSignsSpec) false w args)
   (Rows.ecdsaSignsSpec.post enc Tryz.prog Tryz.f3 false true false false) :=
 law_liftA (C := Tryz.checked) (s := Rows.ecdsaSignsSpec) (tb := 4) [.u256, .arr (.int .u8) 32] (fun p => law06EcdsaSigns p.1 p.2) own started (by kernel_rfl) Tryz.func3
  (ChangeSpec.witness_shaped (enc := enc) (C := Tryz.checked) (os := os) (X := fun w _ => laidMetH Tryz.prog [("waybill/sha.constants", Rows.laid_waybill_sha_constants), ("waybill/sha.start", Rows.laid_waybill_sha_start), ("waybill/field.moduli", Rows.laid_waybill_field_moduli), ("waybill/curve.base", Rows.laid_waybill_curve_base)] w) false (World.laidAll Tryz.prog os [("waybill/sha.constants", Rows.laid_waybill_sha_constants), ("waybill/sha.start", Rows.laid_waybill_sha_start), ("waybill/field.moduli", Rows.laid_waybill_field_moduli), ("waybill/curve.base", Rows.laid_waybill_curve_base)]) #[.agg zeroLimbs.toArray, .agg (List.replicate 32 (Value.int .u8 0)).toArray] 8 (World.laidAll_os _ _ _)
   (World.shaped_of_ZipB (by kernel_rfl) (by kernel_rfl)) (by kernel_rfl) (by kernel_rfl) (by kernel_rfl)
   (by rw [MakeChecks.laidMetH_plain _ _ _ (by kernel_rfl)]; exact laidMet_laidAll _ (by kernel_rfl) (by kernel_rfl)))
  globs_laid law06EcdsaSignsK Tryz.call3
  (fun x hx => by simp only [Pat.oksA, Pat.okA, Pat.oksV, Pat.okV, Bool.and_eq_true] at hx; exact law06EcdsaSigns_true (by simpa using hx.1) (bytes_of hx.2))
  (by kernel_rfl) (by kernel_rfl) (by kernel_rfl) (by kernel_rfl) (by kernel_rfl) rfl
  (fun ds h => by
   match ds, h with
   | [d0, d1], _ => rfl)
theorem ecdsaSigns_holds : Rows.EcdsaSignsSaid :=
 OpenClaim.holds_of_wide 3 Tryz.f3 rfl rfl rfl rfl rfl rfl rfl ⟨rfl, rfl, rfl, rfl, rfl⟩ rfl rfl rfl rfl rfl (by kernel_rfl) Tryz.func3 (by kernel_rfl)
  (of_decide_eq_true (by kernel_rfl)) (by unfold Func.isWrapper; first | (rw [if_pos (by decide +kernel)]; kernel_rfl) | (rw [if_neg (by decide +kernel)]; exact ⟨rfl, rfl⟩))
  (fun os started H enc _ => ecdsaSigns_lifted os started H enc)
theorem ecdsaSigns_card : Rows.EcdsaSignsCardSaid :=
 Claim7.holds_tied_plain_at .later [] [.data, .data, .data, .data] true (true, "cbdba674e6093c5223a18f5c09d632cde94eff400b7bdb26114d31c63194deac") false
  ecdsaSigns_holds (fun _ h => by cases h) (by kernel_rfl) (fun _ h => by cases h) ecdsaSigns_row_tie rfl ⟨rfl, rfl⟩ (by kernel_rfl) rfl
  (fun f fn hf hfn => by
   obtain rfl : f = 3 := Option.some.inj ((show Tryz.prog.funcNamed "waybill/waybilllaw06.EcdsaSigns" = some 3 by kernel_rfl).symm.trans hf) |>.symm
   obtain rfl : fn = Tryz.f3 := (Option.some.inj (Tryz.func3.symm.trans hfn)).symm
   exact ⟨by kernel_rfl, fun j t ht => by
    have hm : t ∈ Tryz.f3.params.toList := by simpa using Array.mem_of_getElem? ht
    have hall : (Tryz.f3.params.toList.all fun u => !Tryz.prog.wantsStandIn u) = true := by kernel_rfl
    exact (show Tryz.prog.wantsStandIn t = false by simpa using List.all_eq_true.1 hall t hm)⟩)
  (by kernel_rfl)
#print axioms ecdsaSigns_card
end Go.Proofs.YtfappeeggccicaaGreatDoor
