/- The law of steps: what multiples are, bit by bit. -/
import Derived.Test.YtmjdciphkjapkaaDoorSyVC4
import Derived.Test.YtmjdciphkjapkaaDoorSyHD
import Derived.Test.YtmjdciphkjapkaaDoorSyMX
set_option linter.unusedVariables false
set_option linter.unusedSimpArgs false
namespace Go.Sy
open Go

theorem law05CurveSteps_true {k : Nat} {p : P3} (hk : k < M256) (hp : In256 p) : law05CurveSteps k p = some true := by
  rw [law05CurveSteps_eq]
  unfold law05CurveStepsB
  refine bind_step law05IBase_val (guard_else rfl (bind_step (curveOn_val hp) ?_))
  by_cases h : OnN p
  · refine guard_else (by rw [decide_eq_true h]; rfl) ?_
    obtain ⟨m, h1, h2, h3⟩ := u256Len_val hk
    refine bind_step h1 ?_
    by_cases hm : 255 < m
    · exact guard_step (decide_eq_true (by omega)) rfl
    · refine guard_else (decide_eq_false (by omega)) ?_
      have hk2 : 2 * k < M256 := by
        have h4 : 2 ^ m ≤ 2 ^ 255 := Nat.pow_le_pow_right (by decide) (by omega)
        have h5 : (2 : Nat) ^ 255 * 2 = M256 := by decide
        omega
      have hs : u256Shl k 1 = some (2 * k) := by rw [u256Shl_one hk, Nat.mod_eq_of_lt hk2]
      have ho : u256Or (2 * k) 1 = some (2 * k + 1) := u256Or_one hk2 (by omega)
      have hk3 : 2 * k + 1 < M256 := by
        have : M256 % 2 = 0 := by decide
        omega
      have okp := h.ok
      have L := ofPt_lt
      have mul : ∀ {j : Nat}, j < M256 → curveMul j p = some (ofPt (smul j (ptF p)), 0) := fun hj => by
        rw [curveMul_val hj hp]; unfold mulV; rw [if_pos h]
      have ok := smul_ok okp
      have hd : curveDouble (ofPt (smul k (ptF p))) = some (ofPt (smul (2 * k) (ptF p)), 0) := by
        rw [curveDouble_val (L _)]; unfold dblV; rw [if_pos (OnN_ofPt (ok k)), ptF_ofPt, smul_dbl okp]
      have hpl : law05IPlus (ofPt (smul (2 * k) (ptF p))) p = some (ofPt (smul (2 * k + 1) (ptF p)), true) := by
        rw [law05IPlus_val (L _) hp, plusV_on (OnN_ofPt (ok _)) h, ptF_ofPt]; rfl
      refine bind_step (mul (by decide)) (bind_step (mul hk) (bind_step hs (bind_step (mul hk2) (bind_step hs (bind_step (u256From_val (c := 1) (by omega)) (bind_step ho (bind_step (mul hk3) (bind_step hd (bind_step hpl ?_)))))))))
      refine bind_step (law05INum_val _) (guard_else rfl (bind_step (law05INum_val _) (guard_else rfl (bind_step (law05INum_val _) (guard_else rfl (bind_step (law05INum_val _) (guard_else rfl (bind_step (law05INum_val _) (guard_else rfl ?_)))))))))
      have hz : (smul 0 (ptF p)) = none := rfl
      first
        | (refine guard_else rfl (bind_step law05IZero_val (guard_step ?_ (guard_step (sameP (L _)) ?_)))
           · rw [hz]; rfl
           · exact congrArg some (sameP (L _)))
  · exact guard_step (by rw [decide_eq_false h]; rfl) rfl
end Go.Sy
