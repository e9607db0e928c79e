/- Plain law: what signatures are: Check, SignWith, Verify and Recover as values, the program's and the document's. -/

import Derived.Test.YtfappeeggccicaaDoorSyVE

import Derived.Test.YtfappeeggccicaaDoorSyHD

import Derived.Test.YtfappeeggccicaaDoorSyHE

import Derived.Test.YtfappeeggccicaaDoorSyHL

set_option linter.unusedVariables false

set_option linter.unusedSimpArgs false

namespace Go.Sy

open Go

theorem ansK_1 (v : Nat) : ansK 1 v = (v, 0) := ansK_good (.inr rfl) v

theorem ordN_M : ordN < M256 := by decide

theorem fieldReduce_1 {x : Nat} (hx : x < M256) : fieldReduce 1 0 x = some (x % ordN, 0) := by rw [fieldReduce_val 1 (by decide) hx, ansK_1, Nat.zero_mul, Nat.zero_add]; rfl

theorem ref04Reduce_1 {x : Nat} (hx : x < M256) : ref04Reduce 1 0 x = some (x % ordN, 0) := by rw [ref04Reduce_val 1 (by decide) hx, ansK_1, Nat.zero_mul, Nat.zero_add]; rfl

def fitV (x : Nat) : Bool := decide (x ≠ 0 ∧ x < ordN)

/-- A digest's number modulo n. -/
def numV (d : List Int) : Nat := (getV (List.take 32 (List.drop 0 d))).1 % ordN

theorem Bytes.taken {b : List Int} (h : Bytes b) (n : Nat) : Bytes (List.take n (List.drop 0 b)) := fun j => by
  by_cases hj : j < n
  · rw [List.drop_zero, List.getD_eq_getElem?_getD, List.getElem?_take, if_pos hj, ← List.getD_eq_getElem?_getD]; exact h j
  · rw [List.getD_eq_getElem?_getD, List.getElem?_eq_none (by rw [List.length_take]; omega)]; exact ⟨by decide, by decide⟩

theorem getV_lt {b : List Int} (hb : Bytes b) : (getV b).1 < M256 := by
  unfold getV
  split
  · exact (by decide : 0 < M256)
  · rename_i h
    exact Nat.lt_of_lt_of_le (valB_lt hb b.length) (Nat.le_trans (Nat.pow_le_pow_right (by decide) (Nat.le_of_not_lt h)) (by decide))

theorem ecdsaIFit_val {x : Nat} (hx : x < M256) : ecdsaIFit x = some (fitV x) := by
  rw [ecdsaIFit_eq]
  unfold ecdsaIFitB fitV
  rw [u256eq_val hx (by decide)]
  by_cases h : x = 0
  · exact guard_else (by simp [h]) (by simp [h])
  · refine guard_step (by simp [h]) (bind_step ecdsaIOrder_val (bind_step (u256Cmp_val hx ordN_M) ?_))
    rw [cmp_neg]; simp [h]

theorem ref06Fit_val {x : Nat} (hx : x < M256) : ref06Fit x = some (fitV x) := by
  rw [ref06Fit_eq]
  unfold ref06FitB fitV
  rw [u256eq_val hx (by decide)]
  by_cases h : x = 0
  · exact guard_else (by simp [h]) (by simp [h])
  · refine guard_step (by simp [h]) (bind_step ref06IOrder_val (bind_step (ref01Cmp_val hx ordN_M) ?_))
    rw [cmp_neg]; simp [h]

theorem ecdsaINumber_val {d : List Int} (hd : Bytes d) : ecdsaINumber d = some (numV d) := by
  rw [ecdsaINumber_eq]
  unfold ecdsaINumberB
  exact bind_step (u256Get_val (hd.taken 32)) (bind_step (fieldReduce_1 (getV_lt (hd.taken 32))) rfl)

theorem ref06Number_val {d : List Int} (hd : Bytes d) : ref06Number d = some (numV d) := by
  rw [ref06Number_eq]
  unfold ref06NumberB
  exact bind_step (ref01Get_val (hd.taken 32)) (bind_step (ref04Reduce_1 (getV_lt (hd.taken 32))) rfl)

theorem law06INum_val (e : Int) : law06INum e = some e := by rw [law06INum_eq]; rfl

end Go.Sy
