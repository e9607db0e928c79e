/- The law of the order. -/
import Derived.Test.YtmjdciphkjapkaaDoorSyVC5
import Derived.Test.YtmjdciphkjapkaaDoorSyHD
import Derived.Test.YtmjdciphkjapkaaDoorSyHJ
import Derived.Test.YtmjdciphkjapkaaDoorSyMY
set_option linter.unusedVariables false
set_option linter.unusedSimpArgs false
namespace Go.Sy
open Go

theorem ordN_256 : ordN < M256 := by decide

theorem law05IOrder_val : law05IOrder = some ordN := by rw [law05IOrder_eq]; rfl

theorem law05CurveOrder_true {a b : Nat} {p : P3} (ha : a < M256) (hb : b < M256) (hp : In256 p) : law05CurveOrder a b p = some true := by
  rw [law05CurveOrder_eq]
  unfold law05CurveOrderB
  refine bind_step law05IBase_val (guard_else rfl (bind_step (curveOn_val hp) ?_))
  by_cases h : OnN p
  · refine guard_else (by rw [decide_eq_true h]; rfl) ?_
    have okp := h.ok
    have ok := smul_ok okp
    have okg := smul_ok gP_ok
    have L := ofPt_lt
    have hord := order_all okp
    have mul : ∀ {j : Nat}, j < M256 → curveMul j p = some (ofPt (smul j (ptF p)), 0) := fun hj => by
      rw [curveMul_val hj hp]; unfold mulV; rw [if_pos h]
    have plus : ∀ {P Q : Pt}, PtOk P → PtOk Q → law05IPlus (ofPt P) (ofPt Q) = some (ofPt (padd P Q), true) := fun hP hQ => by
      rw [law05IPlus_val (L _) (L _), plusV_on (OnN_ofPt hP) (OnN_ofPt hQ), ptF_ofPt, ptF_ofPt]
    have hmod : (a + b) % ordN < M256 := Nat.lt_trans (Nat.mod_lt _ (by decide)) ordN_256
    have hs : padd (smul a (ptF p)) (smul b (ptF p)) = smul ((a + b) % ordN) (ptF p) := by rw [← smul_add okp, smul_modn okp hord]
    have hma : curveMulAdd a b p = some (ofPt (padd (smul a gP) (smul b (ptF p))), 0) := by
      rw [curveMulAdd_val ha hb hp]; unfold mulAddV; rw [if_pos h]
    have hmg : curveMul a gN = some (ofPt (smul a gP), 0) := by
      rw [curveMul_val ha gN_on.in256]; unfold mulV; rw [if_pos gN_on]; rfl
    refine bind_step law05IOrder_val (bind_step (mul ordN_256) (bind_step (mul ha) (bind_step (mul hb) (bind_step law05IOrder_val (bind_step (u256AddMod_val ha hb ordN_256 (by decide)) (bind_step (mul hmod) (bind_step (plus (ok a) (ok b)) ?_)))))))
    rw [hord, hs]
    refine bind_step (law05INum_val _) (guard_else rfl (bind_step (law05INum_val _) (guard_else rfl (bind_step (law05INum_val _) (guard_else rfl (bind_step (law05INum_val _) (guard_else rfl (bind_step (law05INum_val _) (guard_else rfl (guard_else rfl (bind_step law05IZero_val (guard_else rfl (guard_else (nsameP (L _)) ?_)))))))))))))
    refine bind_step curveG_val (bind_step hmg (bind_step hma (bind_step (plus (okg a) (ok b)) (bind_step (law05INum_val _) (guard_step rfl (bind_step (law05INum_val _) (guard_step rfl (guard_step rfl (bind_step (curveMulG_val ha) (guard_step (sameP (L _)) ?_))))))))))
    exact congrArg some (sameP (L _))
  · exact guard_step (by rw [decide_eq_false h]; rfl) rfl
end Go.Sy
