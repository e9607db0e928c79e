/- EcdsaPacks: whatever the input, the law returns true, and the input reads as it did. The row, and its tied card. No condition beyond the row's own. -/
import Derived.Test.YtfappeeggccicaaDoorSyWP
import Derived.Test.YtfappeeggccicaaDoorSyMp1
import Derived.Test.YtfappeeggccicaaDoorSyHZ
import Derived.Test.YtfappeeggccicaaDoorSyKg
import Derived.Test.YtfappeeggccicaaDoorCards
import Derived.Test.YtfappeeggccicaaDoorTie
import Derived.Lay
import Derived.MakeChecks
import Derived.SevenTiedAt
set_option linter.unusedSimpArgs false
namespace Go.Proofs.YtfappeeggccicaaDoor
open Go Go.Sy Go.Proofs Go.ChangeShapes Go.WideShapes Go.RowKit
theorem own : ownKnob Tryd.prog.godebug = none := by kernel_rfl
theorem globs_laid (W : World) (h : laidMetH Tryd.prog [("waybill/field.moduli", Rows.laid_waybill_field_moduli)] W) : GlobW globsF W :=
 have hs : GlobW [(0, .arr .u2 2 fieldModuli)] W := glob_of (by kernel_rfl) (by kernel_rfl) (fun W h => by rw [MakeChecks.laidMetH_plain _ _ _ (by kernel_rfl)] at h; exact h) W h
 fun g v hg => hs g v (by simp only [globsF, List.mem_cons, List.not_mem_nil, or_false] at hg ⊢; first | exact hg | exact hg.symm | (rcases hg with h | h | h <;> rw [h] <;> simp) | (rcases hg with h | h | h | h <;> rw [h] <;> simp))
def zeroLimbs : List Value := [.int .u64 0, .int .u64 0, .int .u64 0, .int .u64 0]
set_option maxRecDepth 100000 in
theorem ecdsaPacks_lifted (os : Os) (started : os.Started) (H : Type) (enc : TypeId × Value → H) :
  ReturnsInHanded {} Tryd.checked os 3 .any (fun w args => (Rows.ecdsaPacksSpec.pre enc Tryd.prog Tryd.f3 [] false w args ∧ laidMetH Tryd.prog [("waybill/field.moduli", Rows.laid_waybill_field_moduli)] w) ∧ sizedMet enc Tryd.prog Tryd.f3 (OpenSpec.ofChange Rows.ecdsaPacksSpec) false w args)
   (Rows.ecdsaPacksSpec.post enc Tryd.prog Tryd.f3 false true false false) :=
 law_liftA (C := Tryd.checked) (s := Rows.ecdsaPacksSpec) (tb := 4) [.st [.u256, .u256, .bool], .isl false (.int .u8)] (fun p => law06EcdsaPacks p.1 p.2) own started (by kernel_rfl) Tryd.func3
  (ChangeSpec.witness_shaped (enc := enc) (C := Tryd.checked) (os := os) (X := fun w _ => laidMetH Tryd.prog [("waybill/field.moduli", Rows.laid_waybill_field_moduli)] w) false (World.laidAll Tryd.prog os [("waybill/field.moduli", Rows.laid_waybill_field_moduli)]) #[.agg (zeroLimbs ++ zeroLimbs ++ [Value.bool false]).toArray, .slice none 0 0] 8 (World.laidAll_os _ _ _)
   (World.shaped_of_ZipB (by kernel_rfl) (by kernel_rfl)) (by kernel_rfl) (by kernel_rfl) (by kernel_rfl)
   (by rw [MakeChecks.laidMetH_plain _ _ _ (by kernel_rfl)]; exact laidMet_laidAll _ (by kernel_rfl) (by kernel_rfl)))
  globs_laid law06EcdsaPacksK Tryd.call3
  (fun x hx => by simp only [Pat.oksA, Pat.okA, Pat.oksV, Pat.okV, Bool.and_eq_true] at hx; exact law06EcdsaPacks_true ⟨by simpa using hx.1.1, by simpa using hx.1.2.1⟩ (bytes_of hx.2.1) (by have := Nat.le_of_ble_eq_true hx.2.2; simpa [Sh.wt] using this))
  (by kernel_rfl) (by kernel_rfl) (by kernel_rfl) (by kernel_rfl) (by kernel_rfl) rfl
  (fun ds h => by
   match ds, h with
   | [d0, d1], _ => rfl)
theorem ecdsaPacks_holds : Rows.EcdsaPacksSaid :=
 OpenClaim.holds_of_wide 3 Tryd.f3 rfl rfl rfl rfl rfl rfl rfl ⟨rfl, rfl, rfl, rfl, rfl⟩ rfl rfl rfl rfl rfl (by kernel_rfl) Tryd.func3 (by kernel_rfl)
  (of_decide_eq_true (by kernel_rfl)) (by unfold Func.isWrapper; first | (rw [if_pos (by decide +kernel)]; kernel_rfl) | (rw [if_neg (by decide +kernel)]; exact ⟨rfl, rfl⟩))
  (fun os started H enc _ => ecdsaPacks_lifted os started H enc)
theorem ecdsaPacks_card : Rows.EcdsaPacksCardSaid :=
 Claim7.holds_tied_plain_at .later [] [.data] true (true, "1168674e6e92cb5a98f828ccd8141b63dc2ecac04259b0f22eac6ea9b5562e5e") false
  ecdsaPacks_holds (fun _ h => by cases h) (by kernel_rfl) (fun _ h => by cases h) ecdsaPacks_row_tie rfl ⟨rfl, rfl⟩ (by kernel_rfl) rfl
  (fun f fn hf hfn => by
   obtain rfl : f = 3 := Option.some.inj ((show Tryd.prog.funcNamed "waybill/waybilllaw06.EcdsaPacks" = some 3 by kernel_rfl).symm.trans hf) |>.symm
   obtain rfl : fn = Tryd.f3 := (Option.some.inj (Tryd.func3.symm.trans hfn)).symm
   exact ⟨by kernel_rfl, fun j t ht => by
    have hm : t ∈ Tryd.f3.params.toList := by simpa using Array.mem_of_getElem? ht
    have hall : (Tryd.f3.params.toList.all fun u => !Tryd.prog.wantsStandIn u) = true := by kernel_rfl
    exact (show Tryd.prog.wantsStandIn t = false by simpa using List.all_eq_true.1 hall t hm)⟩)
  (by kernel_rfl)
#print axioms ecdsaPacks_card
end Go.Proofs.YtfappeeggccicaaDoor
