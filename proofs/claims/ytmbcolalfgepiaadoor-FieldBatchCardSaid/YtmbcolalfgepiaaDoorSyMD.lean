/- Plain: the product of two rows of digits, digit by digit. -/
import Derived.Test.YtmbcolalfgepiaaDoorSyMC
set_option linter.unusedVariables false
set_option linter.unusedSimpArgs false
namespace Go.Sy
open Go

/-- The number that digits make, the lowest first. -/
def valL (B : Nat) : List Nat → Nat
  | [] => 0
  | d :: l => d + B * valL B l

theorem valL_set (B : Nat) : ∀ (l : List Nat) (i v : Nat), i < l.length → valL B (l.set i v) + l.getD i 0 * B ^ i = valL B l + v * B ^ i
  | [], i, v, h => by simp at h
  | d :: l, 0, v, h => by simp [valL]; omega
  | d :: l, i + 1, v, h => by
    have ih := valL_set B l i v (by simpa using h)
    simp only [List.set_cons_succ, valL, List.getD_cons_succ, Nat.pow_succ]
    have e1 : l.getD i 0 * (B ^ i * B) = B * (l.getD i 0 * B ^ i) := by rw [← Nat.mul_assoc, Nat.mul_comm]
    have e2 : v * (B ^ i * B) = B * (v * B ^ i) := by rw [← Nat.mul_assoc, Nat.mul_comm]
    have e3 := congrArg (B * ·) ih
    simp only [Nat.mul_add] at e3
    rw [e1, e2]
    omega

/-- One row of the product: x times the digits, laid onto 'all' from a place on. -/
def rowN (B x : Nat) : List Nat → Nat → Nat → List Nat → Nat × List Nat
  | [], _, over, all => (over, all)
  | y :: ys, pos, over, all => rowN B x ys (pos + 1) ((x * y + all.getD pos 0 + over) / B) (all.set pos ((x * y + all.getD pos 0 + over) % B))

theorem rowN_val (B x : Nat) : ∀ (ys : List Nat) (pos over : Nat) (all : List Nat), pos + ys.length ≤ all.length →
    valL B (rowN B x ys pos over all).2 + (rowN B x ys pos over all).1 * B ^ (pos + ys.length) = valL B all + over * B ^ pos + x * valL B ys * B ^ pos
  | [], pos, over, all, h => by simp [rowN, valL]
  | y :: ys, pos, over, all, h => by
    simp only [List.length_cons] at h
    have hs := valL_set B all pos ((x * y + all.getD pos 0 + over) % B) (by omega)
    have ih := rowN_val B x ys (pos + 1) ((x * y + all.getD pos 0 + over) / B) (all.set pos ((x * y + all.getD pos 0 + over) % B)) (by simp; omega)
    simp only [rowN, List.length_cons, valL]
    rw [show pos + (ys.length + 1) = pos + 1 + ys.length by omega, ih]
    generalize all.getD pos 0 = c at *
    have hd := Nat.div_add_mod (x * y + c + over) B
    generalize (x * y + c + over) / B = q at *
    generalize (x * y + c + over) % B = r at *
    rw [Nat.pow_succ]
    have e1 : q * (B ^ pos * B) = B * q * B ^ pos := by rw [Nat.mul_comm (B ^ pos) B, ← Nat.mul_assoc, Nat.mul_comm q B]
    have e2 : x * valL B ys * (B ^ pos * B) = x * (B * valL B ys) * B ^ pos := by
      rw [Nat.mul_comm (B ^ pos) B, ← Nat.mul_assoc, Nat.mul_assoc x, Nat.mul_comm (valL B ys) B]
    have e3 : (B * q + r) * B ^ pos = (x * y + c + over) * B ^ pos := by rw [hd]
    rw [e1, e2]
    simp only [Nat.add_mul, Nat.mul_add] at e3 ⊢
    omega

theorem rowN_len (B x : Nat) : ∀ (ys : List Nat) (pos over : Nat) (all : List Nat), (rowN B x ys pos over all).2.length = all.length
  | [], _, _, _ => rfl
  | y :: ys, pos, over, all => by simp only [rowN]; rw [rowN_len B x ys]; simp

theorem getD_set {l : List Nat} {i k v : Nat} (h : i ≠ k) : (l.set i v).getD k 0 = l.getD k 0 := by
  simp [List.getD_eq_getElem?_getD, List.getElem?_set_ne h]

theorem rowN_keep (B x : Nat) : ∀ (ys : List Nat) (pos over : Nat) (all : List Nat) (k : Nat), pos + ys.length ≤ k → (rowN B x ys pos over all).2.getD k 0 = all.getD k 0
  | [], _, _, _, _, _ => rfl
  | y :: ys, pos, over, all, k, h => by
    simp only [List.length_cons] at h
    simp only [rowN]
    rw [rowN_keep B x ys _ _ _ k (by omega), getD_set (by omega)]

/-- The product, row by row. -/
def mulN (B : Nat) (ys : List Nat) : List Nat → Nat → List Nat → List Nat
  | [], _, all => all
  | x :: xs, i, all => mulN B ys xs (i + 1) ((rowN B x ys i 0 all).2.set (i + ys.length) (rowN B x ys i 0 all).1)

theorem mulN_val (B : Nat) (ys : List Nat) : ∀ (xs : List Nat) (i : Nat) (all : List Nat), i + xs.length + ys.length ≤ all.length → (∀ k, i + ys.length ≤ k → all.getD k 0 = 0) →
    valL B (mulN B ys xs i all) = valL B all + valL B xs * valL B ys * B ^ i
  | [], i, all, _, _ => by simp [mulN, valL]
  | x :: xs, i, all, h, hz => by
    simp only [List.length_cons] at h
    have hl := rowN_len B x ys i 0 all
    have hk := rowN_keep B x ys i 0 all (i + ys.length) (Nat.le_refl _)
    have hv := rowN_val B x ys i 0 all (by omega)
    have hs := valL_set B (rowN B x ys i 0 all).2 (i + ys.length) (rowN B x ys i 0 all).1 (by omega)
    rw [hk, hz _ (Nat.le_refl _)] at hs
    simp only [mulN, valL]
    rw [mulN_val B ys xs (i + 1) _ (by simp [hl]; omega) (fun k hk' => by
      rw [getD_set (by omega), rowN_keep B x ys i 0 all k (by omega)]
      exact hz k (by omega))]
    simp only [Nat.zero_mul, Nat.add_zero] at hs hv
    rw [hs, hv, Nat.pow_succ]
    have e : valL B xs * valL B ys * (B ^ i * B) = B * valL B xs * valL B ys * B ^ i := by
      rw [Nat.mul_comm (B ^ i) B, ← Nat.mul_assoc, Nat.mul_comm (valL B xs * valL B ys) B, ← Nat.mul_assoc]
    rw [e]
    simp only [Nat.add_mul]
    omega
end Go.Sy
