/- EcdsaRecovers: whatever the input, the law returns true, and the input reads as it did. The row, and its tied card. No condition beyond the row's own. -/
import Derived.Test.YthhijclndgipaaaGreatDoorSyWE
import Derived.Test.YthhijclndgipaaaGreatDoorSyEA
import Derived.Test.YthhijclndgipaaaGreatDoorSyHZ
import Derived.Test.YthhijclndgipaaaGreatDoorSyKg
import Derived.Test.YthhijclndgipaaaGreatDoorCards
import Derived.Test.YthhijclndgipaaaGreatDoorTie
import Derived.Lay
import Derived.MakeChecks
import Derived.SevenTiedAt
set_option linter.unusedSimpArgs false
namespace Go.Proofs.YthhijclndgipaaaGreatDoor
open Go Go.Sy Go.Proofs Go.ChangeShapes Go.WideShapes Go.RowKit

theorem own : ownKnob Tryz.prog.godebug = none := by kernel_rfl
theorem globs_laid (W : World) (h : laidMetH Tryz.prog [("waybill/field.moduli", Rows.laid_waybill_field_moduli), ("waybill/curve.base", Rows.laid_waybill_curve_base)] W) : GlobW globsG W :=
  have hs : GlobW [(0, .arr .u2 2 fieldModuli), (1, .arr (.int .u64) 8 curveBase)] W := glob_of (by kernel_rfl) (by kernel_rfl) (fun W h => by rw [MakeChecks.laidMetH_plain _ _ _ (by kernel_rfl)] at h; exact h) W h
  fun g v hg => hs g v (by simp only [globsG, List.mem_cons, List.not_mem_nil, or_false] at hg ⊢; first | exact hg | exact hg.symm)

def zeroLimbs : List Value := [.int .u64 0, .int .u64 0, .int .u64 0, .int .u64 0]

set_option maxRecDepth 100000 in
theorem ecdsaRecovers_lifted (os : Os) (started : os.Started) (H : Type) (enc : TypeId × Value → H) :
    ReturnsInHanded {} Tryz.checked os 5 .any (fun w args => (Rows.ecdsaRecoversSpec.pre enc Tryz.prog Tryz.f5 [] false w args ∧ laidMetH Tryz.prog [("waybill/field.moduli", Rows.laid_waybill_field_moduli), ("waybill/curve.base", Rows.laid_waybill_curve_base)] w) ∧ sizedMet enc Tryz.prog Tryz.f5 (OpenSpec.ofChange Rows.ecdsaRecoversSpec) false w args)
      (Rows.ecdsaRecoversSpec.post enc Tryz.prog Tryz.f5 false true false false) :=
  law_liftA (C := Tryz.checked) (s := Rows.ecdsaRecoversSpec) (tb := 4) [.arr (.int .u8) 32, .st [.u256, .u256, .bool]] (fun p => law06EcdsaRecovers p.1 p.2) own started (by kernel_rfl) Tryz.func5
    (ChangeSpec.witness_shaped (enc := enc) (C := Tryz.checked) (os := os) (X := fun w _ => laidMetH Tryz.prog [("waybill/field.moduli", Rows.laid_waybill_field_moduli), ("waybill/curve.base", Rows.laid_waybill_curve_base)] w) false (World.laidAll Tryz.prog os [("waybill/field.moduli", Rows.laid_waybill_field_moduli), ("waybill/curve.base", Rows.laid_waybill_curve_base)]) #[.agg (List.replicate 32 (Value.int .u8 0)).toArray, .agg (zeroLimbs ++ zeroLimbs ++ [Value.bool false]).toArray] 8 (World.laidAll_os _ _ _)
      (World.shaped_of_ZipB (by kernel_rfl) (by kernel_rfl)) (by kernel_rfl) (by kernel_rfl) (by kernel_rfl)
      (by rw [MakeChecks.laidMetH_plain _ _ _ (by kernel_rfl)]; exact laidMet_laidAll _ (by kernel_rfl) (by kernel_rfl)))
    globs_laid law06EcdsaRecoversK Tryz.call5
    (fun x hx => by simp only [Pat.oksA, Pat.okA, Pat.oksV, Pat.okV, Bool.and_eq_true] at hx; exact law06EcdsaRecovers_true (bytes_of hx.1) ⟨by simpa using hx.2.1, by simpa using hx.2.2.1⟩)
    (by kernel_rfl) (by kernel_rfl) (by kernel_rfl) (by kernel_rfl) (by kernel_rfl) rfl
    (fun ds h => by
      match ds, h with
      | [d0, d1], _ => rfl)

theorem ecdsaRecovers_holds : Rows.EcdsaRecoversSaid :=
  OpenClaim.holds_of_wide 5 Tryz.f5 rfl rfl rfl rfl rfl rfl rfl ⟨rfl, rfl, rfl, rfl, rfl⟩ rfl rfl rfl rfl rfl (by kernel_rfl) Tryz.func5 (by kernel_rfl)
    (of_decide_eq_true (by kernel_rfl)) (by unfold Func.isWrapper; first | (rw [if_pos (by decide +kernel)]; kernel_rfl) | (rw [if_neg (by decide +kernel)]; exact ⟨rfl, rfl⟩))
    (fun os started H enc _ => ecdsaRecovers_lifted os started H enc)

theorem ecdsaRecovers_card : Rows.EcdsaRecoversCardSaid :=
  Claim7.holds_tied_plain_at .later [] [.data, .data] true (true, "c816cb60ee1e987577e56b6c4c44b535fc577926e8cbf757f346caaca535f6b4") false
    ecdsaRecovers_holds (fun _ h => by cases h) (by kernel_rfl) (fun _ h => by cases h) ecdsaRecovers_row_tie rfl ⟨rfl, rfl⟩ (by kernel_rfl) rfl
    (fun f fn hf hfn => by
      obtain rfl : f = 5 := Option.some.inj ((show Tryz.prog.funcNamed "waybill/waybilllaw06.EcdsaRecovers" = some 5 by kernel_rfl).symm.trans hf) |>.symm
      obtain rfl : fn = Tryz.f5 := (Option.some.inj (Tryz.func5.symm.trans hfn)).symm
      exact ⟨by kernel_rfl, fun j t ht => by
        have hm : t ∈ Tryz.f5.params.toList := by simpa using Array.mem_of_getElem? ht
        have hall : (Tryz.f5.params.toList.all fun u => !Tryz.prog.wantsStandIn u) = true := by kernel_rfl
        exact (show Tryz.prog.wantsStandIn t = false by simpa using List.all_eq_true.1 hall t hm)⟩)
    (by kernel_rfl)
#print axioms ecdsaRecovers_card
end Go.Proofs.YthhijclndgipaaaGreatDoor
