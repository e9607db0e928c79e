/- CurveOrder: whatever the input, the law returns true, and the input reads as it did. The row, and its tied card. No condition beyond the row's own. -/
import Derived.Test.YtmjdciphkjapkaaDoorSyWC5
import Derived.Test.YtmjdciphkjapkaaDoorSyHK
import Derived.Test.YtmjdciphkjapkaaDoorSyKg
import Derived.Test.YtmjdciphkjapkaaDoorCards
import Derived.Test.YtmjdciphkjapkaaDoorTie
import Derived.Lay
import Derived.MakeChecks
import Derived.SevenTiedAt
set_option linter.unusedSimpArgs false
namespace Go.Proofs.YtmjdciphkjapkaaDoor
open Go Go.Sy Go.Proofs Go.ChangeShapes Go.WideShapes Go.RowKit

theorem own : ownKnob Tryd.prog.godebug = none := by kernel_rfl
theorem globs_laid (W : World) (h : laidMetH Tryd.prog [("waybill/field.moduli", Rows.laid_waybill_field_moduli), ("waybill/curve.base", Rows.laid_waybill_curve_base)] W) : GlobW globsG W :=
  have hs : GlobW [(1, .arr .u2 2 fieldModuli), (0, .arr (.int .u64) 8 curveBase)] W := glob_of (by kernel_rfl) (by kernel_rfl) (fun W h => by rw [MakeChecks.laidMetH_plain _ _ _ (by kernel_rfl)] at h; exact h) W h
  fun g v hg => hs g v (by simp only [globsG, List.mem_cons, List.not_mem_nil, or_false] at hg ⊢; first | exact hg | exact hg.symm)

def zeroLimbs : List Value := [.int .u64 0, .int .u64 0, .int .u64 0, .int .u64 0]

set_option maxRecDepth 100000 in
theorem curveOrder_lifted (os : Os) (started : os.Started) (H : Type) (enc : TypeId × Value → H) :
    ReturnsInHanded {} Tryd.checked os 13 .any (fun w args => (Rows.curveOrderSpec.pre enc Tryd.prog Tryd.f13 [] false w args ∧ laidMetH Tryd.prog [("waybill/field.moduli", Rows.laid_waybill_field_moduli), ("waybill/curve.base", Rows.laid_waybill_curve_base)] w) ∧ sizedMet enc Tryd.prog Tryd.f13 (OpenSpec.ofChange Rows.curveOrderSpec) false w args)
      (Rows.curveOrderSpec.post enc Tryd.prog Tryd.f13 false true false false) :=
  law_liftA (C := Tryd.checked) (s := Rows.curveOrderSpec) (tb := 4) [.u256, .u256, .st [.u256, .u256, .bool]] (fun p => law05CurveOrder p.1 p.2.1 p.2.2) own started (by kernel_rfl) Tryd.func13
    (ChangeSpec.witness_shaped (enc := enc) (C := Tryd.checked) (os := os) (X := fun w _ => laidMetH Tryd.prog [("waybill/field.moduli", Rows.laid_waybill_field_moduli), ("waybill/curve.base", Rows.laid_waybill_curve_base)] w) false (World.laidAll Tryd.prog os [("waybill/field.moduli", Rows.laid_waybill_field_moduli), ("waybill/curve.base", Rows.laid_waybill_curve_base)]) #[.agg zeroLimbs.toArray, .agg zeroLimbs.toArray, .agg (zeroLimbs ++ zeroLimbs ++ [Value.bool false]).toArray] 8 (World.laidAll_os _ _ _)
      (World.shaped_of_ZipB (by kernel_rfl) (by kernel_rfl)) (by kernel_rfl) (by kernel_rfl) (by kernel_rfl)
      (by rw [MakeChecks.laidMetH_plain _ _ _ (by kernel_rfl)]; exact laidMet_laidAll _ (by kernel_rfl) (by kernel_rfl)))
    globs_laid law05CurveOrderK Tryd.call13
    (fun x hx => by simp only [Pat.oksA, Pat.okA, Pat.oksV, Pat.okV, Bool.and_eq_true] at hx; exact law05CurveOrder_true (by simpa using hx.1) (by simpa using hx.2.1) ⟨by simpa using hx.2.2.1, by simpa using hx.2.2.2.1⟩)
    (by kernel_rfl) (by kernel_rfl) (by kernel_rfl) (by kernel_rfl) (by kernel_rfl) rfl
    (fun ds h => by
      match ds, h with
      | [d0, d1, d2], _ => rfl)

theorem curveOrder_holds : Rows.CurveOrderSaid :=
  OpenClaim.holds_of_wide 13 Tryd.f13 rfl rfl rfl rfl rfl rfl rfl ⟨rfl, rfl, rfl, rfl, rfl⟩ rfl rfl rfl rfl rfl (by kernel_rfl) Tryd.func13 (by kernel_rfl)
    (of_decide_eq_true (by kernel_rfl)) (by unfold Func.isWrapper; first | (rw [if_pos (by decide +kernel)]; kernel_rfl) | (rw [if_neg (by decide +kernel)]; exact ⟨rfl, rfl⟩))
    (fun os started H enc _ => curveOrder_lifted os started H enc)

theorem curveOrder_card : Rows.CurveOrderCardSaid :=
  Claim7.holds_tied_plain_at .later [] [.data, .data] true (true, "66b7ff1563760a31787e720963d4b225a1b7b2c5695b49f4a70502eeec5e5575") false
    curveOrder_holds (fun _ h => by cases h) (by kernel_rfl) (fun _ h => by cases h) curveOrder_row_tie rfl ⟨rfl, rfl⟩ (by kernel_rfl) rfl
    (fun f fn hf hfn => by
      obtain rfl : f = 13 := Option.some.inj ((show Tryd.prog.funcNamed "waybill/waybilllaw05.CurveOrder" = some 13 by kernel_rfl).symm.trans hf) |>.symm
      obtain rfl : fn = Tryd.f13 := (Option.some.inj (Tryd.func13.symm.trans hfn)).symm
      exact ⟨by kernel_rfl, fun j t ht => by
        have hm : t ∈ Tryd.f13.params.toList := by simpa using Array.mem_of_getElem? ht
        have hall : (Tryd.f13.params.toList.all fun u => !Tryd.prog.wantsStandIn u) = true := by kernel_rfl
        exact (show Tryd.prog.wantsStandIn t = false by simpa using List.all_eq_true.1 hall t hm)⟩)
    (by kernel_rfl)
#print axioms curveOrder_card
end Go.Proofs.YtmjdciphkjapkaaDoor
