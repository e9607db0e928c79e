/- Plain law: what signatures are: Check, SignWith, Verify and Recover as values, the program's and the document's. -/
import Derived.Test.YtfappeeggccicaaDoorSyVE
import Derived.Test.YtfappeeggccicaaDoorSyHD
import Derived.Test.YtfappeeggccicaaDoorSyHE
import Derived.Test.YtfappeeggccicaaDoorSyHL
set_option linter.unusedVariables false
set_option linter.unusedSimpArgs false
namespace Go.Sy
open Go
theorem ordN_M : ordN < M256 := by decide
def fitV (x : Nat) : Bool := decide (x ≠ 0 ∧ x < ordN)
def lowV (s : Nat) : Bool := decide (s ≤ halfN)
theorem Bytes.taken {b : List Int} (h : Bytes b) (n : Nat) : Bytes (List.take n (List.drop 0 b)) := fun j => by
 by_cases hj : j < n
 ·rw [List.drop_zero, List.getD_eq_getElem?_getD, List.getElem?_take, if_pos hj, ← List.getD_eq_getElem?_getD]; exact h j
 ·rw [List.getD_eq_getElem?_getD, List.getElem?_eq_none (by rw [List.length_take]; omega)]; exact ⟨by decide, by decide⟩
theorem getV_lt {b : List Int} (hb : Bytes b) : (getV b).1 < M256 := by
 unfold getV
 split
 ·exact (by decide : 0 < M256)
 ·rename_i h
  exact Nat.lt_of_lt_of_le (valB_lt hb b.length) (Nat.le_trans (Nat.pow_le_pow_right (by decide) (Nat.le_of_not_lt h)) (by decide))
theorem cmp_le0 {a b : Nat} : decide (cmpI a b ≤ 0) = decide (a ≤ b) := by
 unfold cmpI
 by_cases h : a < b
 ·rw [if_pos h]; simp [Nat.le_of_lt h]
 ·rw [if_neg h]
  by_cases g : a = b
  ·subst g; simp
  ·rw [if_neg (by omega)]; simp; omega
theorem ecdsaIFit_val {x : Nat} (hx : x < M256) : ecdsaIFit x = some (fitV x) := by
 rw [ecdsaIFit_eq]
 unfold ecdsaIFitB fitV
 rw [u256eq_val hx (by decide)]
 by_cases h : x = 0
 ·exact guard_else (by simp [h]) (by simp [h])
 ·refine guard_step (by simp [h]) (bind_step ecdsaIOrder_val (bind_step (u256Cmp_val hx ordN_M) ?_))
  rw [cmp_neg]; simp [h]
theorem ref06Fit_val {x : Nat} (hx : x < M256) : ref06Fit x = some (fitV x) := by
 rw [ref06Fit_eq]
 unfold ref06FitB fitV
 rw [u256eq_val hx (by decide)]
 by_cases h : x = 0
 ·exact guard_else (by simp [h]) (by simp [h])
 ·refine guard_step (by simp [h]) (bind_step ref06IOrder_val (bind_step (ref01Cmp_val hx ordN_M) ?_))
  rw [cmp_neg]; simp [h]
theorem ecdsaILow_val {x : Nat} (hx : x < M256) : ecdsaILow x = some (lowV x) := by
 rw [ecdsaILow_eq]
 unfold ecdsaILowB lowV
 refine bind_step ecdsaIOrder_val (bind_step u256Shr_n (bind_step (u256Cmp_val hx halfN_lt) ?_))
 rw [cmp_le0]
theorem ref06Low_val {x : Nat} (hx : x < M256) : ref06Low x = some (lowV x) := by
 rw [ref06Low_eq]
 unfold ref06LowB lowV
 refine bind_step ref06IOrder_val (bind_step ref01Shr_n (bind_step (ref01Cmp_val hx halfN_lt) ?_))
 rw [cmp_le0]
def checkV (s : P3) : Int := if fitV s.1 = true then (if fitV s.2.1 = true then (if lowV s.2.1 = true then 0 else 63) else 62) else 61
theorem ecdsaCheck_val {s : P3} (hs : In256 s) : ecdsaCheck s = some (checkV s) := by
 rw [ecdsaCheck_eq]
 unfold ecdsaCheckB checkV
 refine bind_step (ecdsaIFit_val hs.1) ?_
 by_cases h1 : fitV s.1 = true
 ·rw [if_pos h1]
  refine guard_else (by rw [h1]; rfl) (bind_step (ecdsaIFit_val hs.2) ?_)
  by_cases h2 : fitV s.2.1 = true
  ·rw [if_pos h2]
   refine guard_else (by rw [h2]; rfl) (bind_step (ecdsaILow_val hs.2) ?_)
   by_cases h3 : lowV s.2.1 = true
   ·rw [if_pos h3]; exact guard_else (by rw [h3]; rfl) rfl
   ·rw [if_neg h3]; exact guard_step (by simp [h3]) rfl
  ·rw [if_neg h2]; exact guard_step (by simp [h2]) rfl
 ·rw [if_neg h1]; exact guard_step (by simp [h1]) rfl
theorem ref06Check_val {s : P3} (hs : In256 s) : ref06Check s = some (checkV s) := by
 rw [ref06Check_eq]
 unfold ref06CheckB checkV
 refine bind_step (ref06Fit_val hs.1) ?_
 by_cases h1 : fitV s.1 = true
 ·rw [if_pos h1]
  refine guard_else (by rw [h1]; rfl) (bind_step (ref06Fit_val hs.2) ?_)
  by_cases h2 : fitV s.2.1 = true
  ·rw [if_pos h2]
   refine guard_else (by rw [h2]; rfl) (bind_step (ref06Low_val hs.2) ?_)
   by_cases h3 : lowV s.2.1 = true
   ·rw [if_pos h3]; exact guard_else (by rw [h3]; rfl) rfl
   ·rw [if_neg h3]; exact guard_step (by simp [h3]) rfl
  ·rw [if_neg h2]; exact guard_step (by simp [h2]) rfl
 ·rw [if_neg h1]; exact guard_step (by simp [h1]) rfl
theorem law06INum_val (e : Int) : law06INum e = some e := by rw [law06INum_eq]; rfl
end Go.Sy
