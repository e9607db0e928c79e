/- FieldWhole: whatever the input, the law returns true, and the input reads as it did. The row, and its tied card. No condition beyond the row's own. -/
import Derived.Test.YtmbcolalfgepiaaDoorSyWT
import Derived.Test.YtmbcolalfgepiaaDoorSyMZ
import Derived.Test.YtmbcolalfgepiaaDoorSyKg
import Derived.Test.YtmbcolalfgepiaaDoorCards
import Derived.Test.YtmbcolalfgepiaaDoorTie
import Derived.Lay
import Derived.MakeChecks
import Derived.SevenTiedAt

set_option linter.unusedSimpArgs false
namespace Go.Proofs.YtmbcolalfgepiaaDoor
open Go Go.Sy Go.Proofs Go.ChangeShapes Go.WideShapes Go.RowKit

theorem own : ownKnob Tryd.prog.godebug = none := by kernel_rfl
theorem globs_laid (W : World) (h : laidMetH Tryd.prog [("waybill/field.moduli", Rows.laid_waybill_field_moduli)] W) : GlobW globsG W :=
  have hs : GlobW [(0, .arr .u2 2 fieldModuli)] W := glob_of (by kernel_rfl) (by kernel_rfl) (fun W h => by rw [MakeChecks.laidMetH_plain _ _ _ (by kernel_rfl)] at h; exact h) W h
  fun g v hg => hs g v (by simp only [globsG, List.mem_cons, List.not_mem_nil, or_false] at hg ⊢; first | exact hg | exact hg.symm)

def zeroLimbs : List Value := [.int .u64 0, .int .u64 0, .int .u64 0, .int .u64 0]

set_option maxRecDepth 100000 in
theorem fieldWhole_lifted (os : Os) (started : os.Started) (H : Type) (enc : TypeId × Value → H) :
    ReturnsInHanded {} Tryd.checked os 12 .any (fun w args => (Rows.fieldWholeSpec.pre enc Tryd.prog Tryd.f12 [] false w args ∧ laidMetH Tryd.prog [("waybill/field.moduli", Rows.laid_waybill_field_moduli)] w) ∧ sizedMet enc Tryd.prog Tryd.f12 (OpenSpec.ofChange Rows.fieldWholeSpec) false w args)
      (Rows.fieldWholeSpec.post enc Tryd.prog Tryd.f12 false true false false) :=
  law_lift (C := Tryd.checked) (s := Rows.fieldWholeSpec) (tb := 4) [.int .i64, .u256, .u256] (fun p => law04FieldWhole p.1 p.2.1 p.2.2) own started (by kernel_rfl) Tryd.func12
    (ChangeSpec.witness_shaped (enc := enc) (C := Tryd.checked) (os := os) (X := fun w _ => laidMetH Tryd.prog [("waybill/field.moduli", Rows.laid_waybill_field_moduli)] w) false (World.laidAll Tryd.prog os [("waybill/field.moduli", Rows.laid_waybill_field_moduli)]) #[.int .i64 0, .agg zeroLimbs.toArray, .agg zeroLimbs.toArray] 8 (World.laidAll_os _ _ _)
      (World.shaped_of_ZipB (by kernel_rfl) (by kernel_rfl)) (by kernel_rfl) (by kernel_rfl) (by kernel_rfl)
      (by rw [MakeChecks.laidMetH_plain _ _ _ (by kernel_rfl)]; exact laidMet_laidAll _ (by kernel_rfl) (by kernel_rfl)))
    globs_laid law04FieldWholeK Tryd.call12
    (fun x hx => by simp only [Pat.oksV, Pat.okV, Bool.and_eq_true] at hx; exact law04FieldWhole_true _ (by simpa using hx.2.1) (by simpa using hx.2.2))
    (by kernel_rfl) (by kernel_rfl) (by kernel_rfl) (by kernel_rfl) (by kernel_rfl) rfl
    (fun ds h => by
      match ds, h with
      | [d0, d1, d2], _ => rfl)

theorem fieldWhole_holds : Rows.FieldWholeSaid :=
  OpenClaim.holds_of_wide 12 Tryd.f12 rfl rfl rfl rfl rfl rfl rfl ⟨rfl, rfl, rfl, rfl, rfl⟩ rfl rfl rfl rfl rfl (by kernel_rfl) Tryd.func12 (by kernel_rfl)
    (of_decide_eq_true (by kernel_rfl)) (by unfold Func.isWrapper; first | (rw [if_pos (by decide +kernel)]; kernel_rfl) | (rw [if_neg (by decide +kernel)]; exact ⟨rfl, rfl⟩))
    (fun os started H enc _ => fieldWhole_lifted os started H enc)

theorem fieldWhole_card : Rows.FieldWholeCardSaid :=
  Claim7.holds_tied_plain_at .later [] [.data] true (true, "4432298b6b0227ede4708d544aa30a71f969b3d91d34bf0fedcbbbcfdef6121f") false
    fieldWhole_holds (fun _ h => by cases h) (by kernel_rfl) (fun _ h => by cases h) fieldWhole_row_tie rfl ⟨rfl, rfl⟩ (by kernel_rfl) rfl
    (fun f fn hf hfn => by
      obtain rfl : f = 12 := Option.some.inj ((show Tryd.prog.funcNamed "waybill/waybilllaw04.FieldWhole" = some 12 by kernel_rfl).symm.trans hf) |>.symm
      obtain rfl : fn = Tryd.f12 := (Option.some.inj (Tryd.func12.symm.trans hfn)).symm
      exact ⟨by kernel_rfl, fun j t ht => by
        have hm : t ∈ Tryd.f12.params.toList := by simpa using Array.mem_of_getElem? ht
        have hall : (Tryd.f12.params.toList.all fun u => !Tryd.prog.wantsStandIn u) = true := by kernel_rfl
        exact (show Tryd.prog.wantsStandIn t = false by simpa using List.all_eq_true.1 hall t hm)⟩)
    (by kernel_rfl)
#print axioms fieldWhole_card
end Go.Proofs.YtmbcolalfgepiaaDoor
