/- FieldBatch: whatever the input, the law returns true, and the input reads as it did. The row, and its tied card. No condition beyond the row's own. -/
import Derived.Test.YtmbcolalfgepiaaDoorSyWT
import Derived.Test.YtmbcolalfgepiaaDoorSyMT
import Derived.Test.YtmbcolalfgepiaaDoorSyY
import Derived.Test.YtmbcolalfgepiaaDoorSyXa
import Derived.Test.YtmbcolalfgepiaaDoorCards
import Derived.Test.YtmbcolalfgepiaaDoorTie
import Derived.Lay
import Derived.MakeChecks
import Derived.SevenTiedAt
namespace Go.Proofs.YtmbcolalfgepiaaDoor
open Go Go.Sy Go.Proofs Go.ChangeShapes Go.WideShapes Go.RowKit

theorem own : ownKnob Tryd.prog.godebug = none := by kernel_rfl
theorem globs_laid (W : World) (h : laidMetH Tryd.prog [("waybill/field.moduli", Rows.laid_waybill_field_moduli)] W) : GlobW globsG W :=
  glob_of (by kernel_rfl) (by kernel_rfl) (fun W h => by rw [MakeChecks.laidMetH_plain _ _ _ (by kernel_rfl)] at h; exact h) W h

def zeroLimbs : List Value := [.int .u64 0, .int .u64 0, .int .u64 0, .int .u64 0]

set_option maxRecDepth 100000 in
theorem fieldBatch_lifted (os : Os) (started : os.Started) (H : Type) (enc : TypeId × Value → H) :
    ReturnsInHanded {} Tryd.checked os 10 .any (fun w args => (Rows.fieldBatchSpec.pre enc Tryd.prog Tryd.f10 [] false w args ∧ laidMetH Tryd.prog [("waybill/field.moduli", Rows.laid_waybill_field_moduli)] w) ∧ sizedMet enc Tryd.prog Tryd.f10 (OpenSpec.ofChange Rows.fieldBatchSpec) false w args)
      (Rows.fieldBatchSpec.post enc Tryd.prog Tryd.f10 false true false false) :=
  law_liftA (C := Tryd.checked) (s := Rows.fieldBatchSpec) (tb := 4) [.int .i64, .isl false .u256] (fun p => law04FieldBatch p.1 p.2) own started (by kernel_rfl) Tryd.func10
    (ChangeSpec.witness_shaped (enc := enc) (C := Tryd.checked) (os := os) (X := fun w _ => laidMetH Tryd.prog [("waybill/field.moduli", Rows.laid_waybill_field_moduli)] w) false (World.laidAll Tryd.prog os [("waybill/field.moduli", Rows.laid_waybill_field_moduli)]) #[.int .i64 0, .slice none 0 0] 8 (World.laidAll_os _ _ _)
      (World.shaped_of_ZipB (by kernel_rfl) (by kernel_rfl)) (by kernel_rfl) (by kernel_rfl) (by kernel_rfl)
      (by rw [MakeChecks.laidMetH_plain _ _ _ (by kernel_rfl)]; exact laidMet_laidAll _ (by kernel_rfl) (by kernel_rfl)))
    globs_laid law04FieldBatchK Tryd.call10
    (fun x hx => by simp only [Pat.oksA, Pat.okA, Bool.and_eq_true] at hx; exact law04FieldBatch_true _ (all_getD hx.2.1))
    (by kernel_rfl) (by kernel_rfl) (by kernel_rfl) (by kernel_rfl) (by kernel_rfl) rfl
    (fun ds h => by
      match ds, h with
      | [d0, d1], _ => rfl)

theorem fieldBatch_holds : Rows.FieldBatchSaid :=
  OpenClaim.holds_of_wide 10 Tryd.f10 rfl rfl rfl rfl rfl rfl rfl ⟨rfl, rfl, rfl, rfl, rfl⟩ rfl rfl rfl rfl rfl (by kernel_rfl) Tryd.func10 (by kernel_rfl)
    (of_decide_eq_true (by kernel_rfl)) (by unfold Func.isWrapper; first | (rw [if_pos (by decide +kernel)]; kernel_rfl) | (rw [if_neg (by decide +kernel)]; exact ⟨rfl, rfl⟩))
    (fun os started H enc _ => fieldBatch_lifted os started H enc)

theorem fieldBatch_card : Rows.FieldBatchCardSaid :=
  Claim7.holds_tied_plain_at .later [] [.data] true (true, "4432298b6b0227ede4708d544aa30a71f969b3d91d34bf0fedcbbbcfdef6121f") false
    fieldBatch_holds (fun _ h => by cases h) (by kernel_rfl) (fun _ h => by cases h) fieldBatch_row_tie rfl ⟨rfl, rfl⟩ (by kernel_rfl) rfl
    (fun f fn hf hfn => by
      obtain rfl : f = 10 := Option.some.inj ((show Tryd.prog.funcNamed "waybill/waybilllaw04.FieldBatch" = some 10 by kernel_rfl).symm.trans hf) |>.symm
      obtain rfl : fn = Tryd.f10 := (Option.some.inj (Tryd.func10.symm.trans hfn)).symm
      exact ⟨by kernel_rfl, fun j t ht => by
        have hm : t ∈ Tryd.f10.params.toList := by simpa using Array.mem_of_getElem? ht
        have hall : (Tryd.f10.params.toList.all fun u => !Tryd.prog.wantsStandIn u) = true := by kernel_rfl
        exact (show Tryd.prog.wantsStandIn t = false by simpa using List.all_eq_true.1 hall t hm)⟩)
    (by kernel_rfl)
#print axioms fieldBatch_card
end Go.Proofs.YtmbcolalfgepiaaDoor
