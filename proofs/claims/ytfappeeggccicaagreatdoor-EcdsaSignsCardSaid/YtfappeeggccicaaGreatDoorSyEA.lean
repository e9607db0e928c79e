/- Plain law: what signatures are: Check, SignWith, Verify and Recover as values, the program's and the document's. -/
import Derived.Test.YtfappeeggccicaaGreatDoorSyVE
import Derived.Test.YtfappeeggccicaaGreatDoorSyHD
import Derived.Test.YtfappeeggccicaaGreatDoorSyHE
import Derived.Test.YtfappeeggccicaaGreatDoorSyHL
set_option linter.unusedVariables false
set_option linter.unusedSimpArgs false
namespace Go.Sy
open Go
theorem ansK_1 (v : Nat) : ansK 1 v = (v, 0) := ansK_good (.inr rfl) v
theorem ordN_M : ordN < M256 := by decide
theorem lt_n (a : Nat) : a % ordN < ordN := Nat.mod_lt _ (by decide)
theorem lt_nM (a : Nat) : a % ordN < M256 := Nat.lt_trans (lt_n a) ordN_M
theorem fieldAdd_1 {x y : Nat} (hx : x < M256) (hy : y < M256) : fieldAdd 1 x y = some ((x + y) % ordN, 0) := by rw [fieldAdd_val 1 hx hy, ansK_1]; rfl
theorem fieldMul_1 {x y : Nat} (hx : x < M256) (hy : y < M256) : fieldMul 1 x y = some (x * y % ordN, 0) := by rw [fieldMul_val 1 hx hy, ansK_1]; rfl
theorem fieldNeg_1 {x : Nat} (hx : x < M256) : fieldNeg 1 x = some ((ordN - x % ordN) % ordN, 0) := by rw [fieldNeg_val 1 hx, ansK_1]; rfl
theorem fieldReduce_1 {x : Nat} (hx : x < M256) : fieldReduce 1 0 x = some (x % ordN, 0) := by rw [fieldReduce_val 1 (by decide) hx, ansK_1, Nat.zero_mul, Nat.zero_add]; rfl
theorem ref04Add_1 {x y : Nat} (hx : x < M256) (hy : y < M256) : ref04Add 1 x y = some ((x + y) % ordN, 0) := by rw [ref04Add_val 1 hx hy, ansK_1]; rfl
theorem ref04Mul_1 {x y : Nat} (hx : x < M256) (hy : y < M256) : ref04Mul 1 x y = some (x * y % ordN, 0) := by rw [ref04Mul_val 1 hx hy, ansK_1]; rfl
theorem ref04Reduce_1 {x : Nat} (hx : x < M256) : ref04Reduce 1 0 x = some (x % ordN, 0) := by rw [ref04Reduce_val 1 (by decide) hx, ansK_1, Nat.zero_mul, Nat.zero_add]; rfl
def wN (x : Nat) : Nat := (invK 1 x).1
theorem wN_lt (x : Nat) : wN x < ordN := by
 unfold wN invK
 rw [if_pos (.inr rfl)]
 split
 ·exact (by decide : 0 < ordN)
 ·exact lt_n _
theorem wN_M (x : Nat) : wN x < M256 := Nat.lt_trans (wN_lt x) ordN_M
def fitV (x : Nat) : Bool := decide (x ≠ 0 ∧ x < ordN)
def lowV (s : Nat) : Bool := decide (s ≤ halfN)
def oddV (x : Nat) : Bool := decide (x % 2 = 1)
def numV (d : List Int) : Nat := (getV (List.take 32 (List.drop 0 d))).1 % ordN
theorem numV_M (d : List Int) : numV d < M256 := lt_nM _
theorem Bytes.taken {b : List Int} (h : Bytes b) (n : Nat) : Bytes (List.take n (List.drop 0 b)) := fun j => by
 by_cases hj : j < n
 ·rw [List.drop_zero, List.getD_eq_getElem?_getD, List.getElem?_take, if_pos hj, ← List.getD_eq_getElem?_getD]; exact h j
 ·rw [List.getD_eq_getElem?_getD, List.getElem?_eq_none (by rw [List.length_take]; omega)]; exact ⟨by decide, by decide⟩
theorem getV_lt {b : List Int} (hb : Bytes b) : (getV b).1 < M256 := by
 unfold getV
 split
 ·exact (by decide : 0 < M256)
 ·rename_i h
  exact Nat.lt_of_lt_of_le (valB_lt hb b.length) (Nat.le_trans (Nat.pow_le_pow_right (by decide) (Nat.le_of_not_lt h)) (by decide))
theorem cmp_le0 {a b : Nat} : decide (cmpI a b ≤ 0) = decide (a ≤ b) := by
 unfold cmpI
 by_cases h : a < b
 ·rw [if_pos h]; simp [Nat.le_of_lt h]
 ·rw [if_neg h]
  by_cases g : a = b
  ·subst g; simp
  ·rw [if_neg (by omega)]; simp; omega
theorem ecdsaIFit_val {x : Nat} (hx : x < M256) : ecdsaIFit x = some (fitV x) := by
 rw [ecdsaIFit_eq]
 unfold ecdsaIFitB fitV
 rw [u256eq_val hx (by decide)]
 by_cases h : x = 0
 ·exact guard_else (by simp [h]) (by simp [h])
 ·refine guard_step (by simp [h]) (bind_step ecdsaIOrder_val (bind_step (u256Cmp_val hx ordN_M) ?_))
  rw [cmp_neg]; simp [h]
theorem ref06Fit_val {x : Nat} (hx : x < M256) : ref06Fit x = some (fitV x) := by
 rw [ref06Fit_eq]
 unfold ref06FitB fitV
 rw [u256eq_val hx (by decide)]
 by_cases h : x = 0
 ·exact guard_else (by simp [h]) (by simp [h])
 ·refine guard_step (by simp [h]) (bind_step ref06IOrder_val (bind_step (ref01Cmp_val hx ordN_M) ?_))
  rw [cmp_neg]; simp [h]
theorem ecdsaILow_val {x : Nat} (hx : x < M256) : ecdsaILow x = some (lowV x) := by
 rw [ecdsaILow_eq]
 unfold ecdsaILowB lowV
 refine bind_step ecdsaIOrder_val (bind_step u256Shr_n (bind_step (u256Cmp_val hx halfN_lt) ?_))
 rw [cmp_le0]
theorem ref06Low_val {x : Nat} (hx : x < M256) : ref06Low x = some (lowV x) := by
 rw [ref06Low_eq]
 unfold ref06LowB lowV
 refine bind_step ref06IOrder_val (bind_step ref01Shr_n (bind_step (ref01Cmp_val hx halfN_lt) ?_))
 rw [cmp_le0]
theorem ecdsaINumber_val {d : List Int} (hd : Bytes d) : ecdsaINumber d = some (numV d) := by
 rw [ecdsaINumber_eq]
 unfold ecdsaINumberB
 exact bind_step (u256Get_val (hd.taken 32)) (bind_step (fieldReduce_1 (getV_lt (hd.taken 32))) rfl)
theorem ref06Number_val {d : List Int} (hd : Bytes d) : ref06Number d = some (numV d) := by
 rw [ref06Number_eq]
 unfold ref06NumberB
 exact bind_step (ref01Get_val (hd.taken 32)) (bind_step (ref04Reduce_1 (getV_lt (hd.taken 32))) rfl)
theorem ref06ITimes_val {x y : Nat} (hx : x < M256) (hy : y < M256) : ref06ITimes x y = some (x * y % ordN) := by
 rw [ref06ITimes_eq]
 unfold ref06ITimesB
 exact bind_step (ref04Mul_1 hx hy) rfl
theorem ref06IPlus_val {x y : Nat} (hx : x < M256) (hy : y < M256) : ref06IPlus x y = some ((x + y) % ordN) := by
 rw [ref06IPlus_eq]
 unfold ref06IPlusB
 exact bind_step (ref04Add_1 hx hy) rfl
theorem ref06IInverse_val {x : Nat} (hx : x < M256) : ref06IInverse x = some (wN x) := by
 rw [ref06IInverse_eq]
 unfold ref06IInverseB
 exact bind_step (ref04Inverse_val 1 hx) rfl
theorem ln0_mod2 (x : Nat) : ln x 0 % 2 = x % 2 := by
 unfold ln
 rw [Nat.mul_zero, Nat.pow_zero, Nat.div_one]
 omega
theorem ref06IOdd_val (x : Nat) : ref06IOdd x = some (oddV x) := by
 rw [ref06IOdd_eq]
 unfold ref06IOddB oddV
 have h : (Int.tmod (limb x 0) (2 : Int)) = ((x % 2 : Nat) : Int) := by
  rw [limb_ln, Int.tmod_eq_emod_of_nonneg (by omega), ← ln0_mod2 x]; omega
 rw [h]
 congr 1
 rcases (by omega : x % 2 = 0 ∨ x % 2 = 1) with e | e <;> rw [e] <;> rfl
theorem bit0_odd (x : Nat) : (((bitN x 0 : Nat) : Int) == (1 : Int)) = oddV x := by
 unfold oddV bitN
 rw [Nat.pow_zero, Nat.div_one]
 rcases (by omega : x % 2 = 0 ∨ x % 2 = 1) with e | e <;> rw [e] <;> rfl
def sN (px key nonce : Nat) (d : List Int) : Nat := (numV d + px * key % ordN) % ordN * wN nonce % ordN
def signP (p : P3) (s : Nat) : P3 × Int :=
 if p.1 < ordN then (if p.1 = 0 then ((0, 0, false), 65) else if s = 0 then ((0, 0, false), 65) else
  if lowV s = true then ((p.1, s, oddV p.2.1), 0) else ((p.1, (ordN - s % ordN) % ordN, !oddV p.2.1), 0)) else ((0, 0, false), 64)
def signV (key nonce : Nat) (d : List Int) : P3 × Int :=
 if fitV key = true then (if fitV nonce = true then signP (ofPt (smul nonce gP)) (sN (ofPt (smul nonce gP)).1 key nonce d) else ((0, 0, false), 60)) else ((0, 0, false), 60)
theorem ecdsaSignWith_val {key nonce : Nat} {d : List Int} (hk : key < M256) (hn : nonce < M256) (hd : Bytes d) : ecdsaSignWith key nonce d = some (signV key nonce d) := by
 rw [ecdsaSignWith_eq]
 unfold ecdsaSignWithB signV
 have hp := ofPt_lt (smul nonce gP)
 have hm := curveMulG_val hn
 generalize ofPt (smul nonce gP) = p at *
 refine bind_step (ecdsaIFit_val hk) ?_
 by_cases h1 : fitV key = true
 ·rw [if_pos h1]
  refine guard_else (by rw [h1]; rfl) (bind_step (ecdsaIFit_val hn) ?_)
  by_cases h2 : fitV nonce = true
  ·rw [if_pos h2]
   refine guard_else (by rw [h2]; rfl) (bind_step hm (bind_step ecdsaIOrder_val (bind_step (u256Cmp_val hp.1 ordN_M) ?_)))
   rw [cmp_nneg]
   unfold signP
   by_cases h3 : p.1 < ordN
   ·rw [if_pos h3]
    have hs : sN p.1 key nonce d < M256 := lt_nM _
    have e : fieldMul 1 ((numV d + p.1 * key % ordN) % ordN) (wN nonce) = some (sN p.1 key nonce d, 0) := fieldMul_1 (lt_nM _) (wN_M _)
    generalize sN p.1 key nonce d = s at *
    refine guard_else (by simp [h3]) (bind_step (fieldMul_1 hp.1 hk) (bind_step (ecdsaINumber_val hd) (bind_step (fieldAdd_1 (numV_M d) (lt_nM _)) (bind_step (fieldInverse_val 1 hn) (bind_step e ?_)))))
    rw [u256eq_val hp.1 (by decide)]
    by_cases h4 : p.1 = 0
    ·rw [if_pos h4]; exact guard_step (by simp [h4]) rfl
    ·rw [if_neg h4]
     refine guard_else (by simp [h4]) ?_
     show cond (u256eq s 0) _ _ = _
     rw [u256eq_val hs (by decide)]
     by_cases h5 : s = 0
     ·rw [if_pos h5]; exact guard_step (by simp [h5]) rfl
     ·rw [if_neg h5]
      refine guard_else (by simp [h5]) (bind_step (u256Bit_val (i := 0) (by omega)) (bind_step (ecdsaILow_val hs) ?_))
      rw [bit0_odd]
      by_cases h6 : lowV s = true
      ·rw [if_pos h6]; exact guard_else (by rw [h6]; rfl) rfl
      ·rw [if_neg h6]; exact guard_step (by simp [h6]) (bind_step (fieldNeg_1 hs) rfl)
   ·rw [if_neg h3]; exact guard_step (by simp [h3]) rfl
  ·rw [if_neg h2]; exact guard_step (by simp [h2]) rfl
 ·rw [if_neg h1]; exact guard_step (by simp [h1]) rfl
def textP (p : P3) (s : Nat) : P3 × Int :=
 if p.1 < ordN then (if p.1 = 0 then ((0, 0, false), 65) else if s = 0 then ((0, 0, false), 65) else ((p.1, s, oddV p.2.1), 0)) else ((0, 0, false), 64)
def textV (key nonce : Nat) (d : List Int) : P3 × Int :=
 if fitV key = true then (if fitV nonce = true then textP (ofPt (smul nonce gP)) (sN (ofPt (smul nonce gP)).1 key nonce d) else ((0, 0, false), 60)) else ((0, 0, false), 60)
theorem ref06Textbook_val {key nonce : Nat} {d : List Int} (hk : key < M256) (hn : nonce < M256) (hd : Bytes d) : ref06Textbook key nonce d = some (textV key nonce d) := by
 rw [ref06Textbook_eq]
 unfold ref06TextbookB textV
 have hp := ofPt_lt (smul nonce gP)
 have hm := ref05MulG_val hn
 generalize ofPt (smul nonce gP) = p at *
 refine bind_step (ref06Fit_val hk) (bind_step (ref06Fit_val hn) ?_)
 by_cases h1 : fitV key = true
 ·rw [if_pos h1]
  refine guard_else (by rw [h1]; rfl) ?_
  by_cases h2 : fitV nonce = true
  ·rw [if_pos h2]
   refine guard_else (by rw [h2]; rfl) (bind_step hm (bind_step ref06IOrder_val (bind_step (ref01Cmp_val hp.1 ordN_M) ?_)))
   rw [cmp_nneg]
   unfold textP
   by_cases h3 : p.1 < ordN
   ·rw [if_pos h3]
    have hs : sN p.1 key nonce d < M256 := lt_nM _
    have e : ref06ITimes ((numV d + p.1 * key % ordN) % ordN) (wN nonce) = some (sN p.1 key nonce d) := ref06ITimes_val (lt_nM _) (wN_M _)
    generalize sN p.1 key nonce d = s at *
    refine guard_else (by simp [h3]) (bind_step (ref06Number_val hd) (bind_step (ref06ITimes_val hp.1 hk) (bind_step (ref06IPlus_val (numV_M d) (lt_nM _)) (bind_step (ref06IInverse_val hn) (bind_step e ?_)))))
    rw [u256eq_val hp.1 (by decide), u256eq_val hs (by decide)]
    by_cases h4 : p.1 = 0
    ·rw [if_pos h4]; exact guard_step (by simp [h4]) rfl
    ·rw [if_neg h4]
     refine guard_else (by simp [h4]) ?_
     by_cases h5 : s = 0
     ·rw [if_pos h5]; exact guard_step (by simp [h5]) rfl
     ·rw [if_neg h5]
      exact guard_else (by simp [h5]) (bind_step (ref06IOdd_val _) rfl)
   ·rw [if_neg h3]; exact guard_step (by simp [h3]) rfl
  ·rw [if_neg h2]; exact guard_step (by simp [h2]) rfl
 ·rw [if_neg h1]; exact guard_step (by simp [h1]) rfl
theorem ref01Sub_n {s : Nat} (hs : s < ordN) (h0 : s ≠ 0) : ref01Sub ordN s = some ((ordN - s % ordN) % ordN, 0) := by
 obtain ⟨r, o, h1, h2, h3, h4⟩ := ref01Sub_val (x := ordN) (y := s) ordN_M (Nat.lt_trans hs ordN_M)
 have ho : o = 0 := by
  by_cases h : o = 0
  ·exact h
  ·have : o = 1 := by omega
   subst this
   omega
 subst ho
 have : r = (ordN - s % ordN) % ordN := by rw [Nat.mod_eq_of_lt hs, Nat.mod_eq_of_lt (by omega)]; omega
 rw [h1, this]; rfl
theorem ref06SignWith_val {key nonce : Nat} {d : List Int} (hk : key < M256) (hn : nonce < M256) (hd : Bytes d) : ref06SignWith key nonce d = some (signV key nonce d) := by
 rw [ref06SignWith_eq]
 unfold ref06SignWithB
 refine bind_step (ref06Textbook_val hk hn hd) ?_
 unfold textV signV
 have hs : sN (ofPt (smul nonce gP)).1 key nonce d < ordN := lt_n _
 generalize sN (ofPt (smul nonce gP)).1 key nonce d = s at *
 generalize ofPt (smul nonce gP) = p at *
 by_cases h1 : fitV key = true
 ·rw [if_pos h1, if_pos h1]
  by_cases h2 : fitV nonce = true
  ·rw [if_pos h2, if_pos h2]
   unfold textP signP
   by_cases h3 : p.1 < ordN
   ·rw [if_pos h3, if_pos h3]
    by_cases h4 : p.1 = 0
    ·rw [if_pos h4, if_pos h4]; rfl
    ·rw [if_neg h4, if_neg h4]
     by_cases h5 : s = 0
     ·rw [if_pos h5, if_pos h5]; rfl
     ·rw [if_neg h5, if_neg h5]
      refine guard_else rfl (bind_step (ref06Low_val (Nat.lt_trans hs ordN_M)) ?_)
      by_cases h6 : lowV s = true
      ·rw [if_pos h6]; exact guard_else (by rw [h6]; rfl) rfl
      ·rw [if_neg h6]; exact guard_step (by simp [h6]) (bind_step ref06IOrder_val (bind_step (ref01Sub_n hs h5) rfl))
   ·rw [if_neg h3, if_neg h3]; rfl
  ·rw [if_neg h2, if_neg h2]; rfl
 ·rw [if_neg h1, if_neg h1]; rfl
theorem signV_lt (key nonce : Nat) (d : List Int) : In256 (signV key nonce d).1 := by
 have z : In256 ((0, 0, false) : P3) := ⟨by decide, by decide⟩
 unfold signV
 have hs : sN (ofPt (smul nonce gP)).1 key nonce d < ordN := lt_n _
 have hp := ofPt_lt (smul nonce gP)
 generalize sN (ofPt (smul nonce gP)).1 key nonce d = s at *
 generalize ofPt (smul nonce gP) = p at *
 split
 ·split
  ·unfold signP
   split
   ·split
    ·exact z
    ·split
     ·exact z
     ·split
      ·exact ⟨hp.1, Nat.lt_trans hs ordN_M⟩
      ·exact ⟨hp.1, lt_nM _⟩
   ·exact z
  ·exact z
 ·exact z
theorem law06INum_val (e : Int) : law06INum e = some e := by rw [law06INum_eq]; rfl
end Go.Sy
