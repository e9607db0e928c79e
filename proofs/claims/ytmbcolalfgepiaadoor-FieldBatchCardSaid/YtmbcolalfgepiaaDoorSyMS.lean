/- Inverses: the law that a number makes 1 with its inverse. -/
import Derived.Test.YtmbcolalfgepiaaDoorSyMQ
import Derived.Test.YtmbcolalfgepiaaDoorSyMR
import Derived.Test.YtmbcolalfgepiaaDoorSyPb
import Derived.Test.YtmbcolalfgepiaaDoorSyPc
set_option linter.unusedVariables false
set_option linter.unusedSimpArgs false
namespace Go.Sy
open Go

theorem prime_modK (k : Int) : PrimeN (modK k) := by
  unfold modK
  split
  · exact prime_p
  · exact prime_n

theorem fermatK (k : Int) {x : Nat} (h : x % modK k ≠ 0) : x ^ (modK k - 1) % modK k = 1 :=
  (prime_modK k).fermat fun hd => h (Nat.mod_eq_zero_of_dvd hd)

theorem inv_mul (k : Int) {x : Nat} (h : x % modK k ≠ 0) : x * (x ^ (modK k - 2) % modK k) % modK k = 1 := by
  have := less2 k
  rw [Nat.mul_mod_mod, ← Nat.pow_succ', show (modK k - 2).succ = modK k - 1 by omega, fermatK k h]

theorem inv_ne (k : Int) {x : Nat} (h : x % modK k ≠ 0) : x ^ (modK k - 2) % modK k % modK k ≠ 0 := by
  rw [Nat.mod_mod]
  intro h0
  exact h (Nat.mod_eq_zero_of_dvd ((prime_modK k).pow (Nat.dvd_of_mod_eq_zero h0)))

theorem inv_inv (k : Int) {x : Nat} (h : x % modK k ≠ 0) : (x ^ (modK k - 2) % modK k) ^ (modK k - 2) % modK k = x % modK k := by
  have := less2 k
  rw [← Nat.pow_mod, ← Nat.pow_mul]
  have e : (modK k - 2) * (modK k - 2) = (modK k - 1) * (modK k - 3) + 1 := by
    generalize modK k = m at *
    obtain ⟨c, rfl⟩ : ∃ c, m = c + 3 := ⟨m - 3, by omega⟩
    simp only [Nat.add_sub_cancel, show c + 3 - 2 = c + 1 by omega, show c + 3 - 1 = c + 2 by omega]
    simp only [Nat.mul_add, Nat.add_mul]; omega
  rw [e, Nat.pow_succ, Nat.pow_mul, Nat.mul_mod, Nat.pow_mod, fermatK k h, Nat.one_pow, Nat.mod_eq_of_lt (one_lt_modK k), Nat.one_mul, Nat.mod_mod]

theorem invK_good {k : Int} (hk : k = 0 ∨ k = 1) {x : Nat} (h : x % modK k ≠ 0) : invK k x = (x ^ (modK k - 2) % modK k, 0) := by
  unfold invK; rw [if_pos hk, if_neg h]
theorem invK_zero {k : Int} (hk : k = 0 ∨ k = 1) {x : Nat} (h : x % modK k = 0) : invK k x = (0, 40) := by
  unfold invK; rw [if_pos hk, if_pos h]

theorem sub_val {x y : Nat} (hx : x < M256) (hy : y ≤ x) : u256Sub x y = some (x - y, ((0 : Nat) : Int)) := by
  obtain ⟨r, o, h1, h2, h3, h4⟩ := u256Sub_val hx (Nat.lt_of_le_of_lt hy hx)
  rcases (show o = 0 ∨ o = 1 by omega) with rfl | rfl
  · have : r = x - y := by omega
    subst this; exact h1
  · omega

theorem law04FieldInverts_true (w : Int) {x a : Nat} (hx : x < M256) (ha : a < M256) : law04FieldInverts w x a = some true := by
  obtain ⟨k, hk, hw⟩ := kind_val w
  have hz : (0 : Nat) < M256 := by decide
  have hm := modK_lt k
  have h2 := less2 k
  have hL := mod_lt256 k
  have ge : ∀ {y e : Nat}, y < M256 → e < M256 → fieldExp k y e = some (y ^ e % modK k, 0) := fun hy he => by rw [fieldExp_val k hy he, ansK_good hk]
  rw [law04FieldInverts_eq]
  unfold law04FieldInvertsB
  have gm : fieldModulus k = some (modK k, 0) := by rw [fieldModulus_val, ansK_good hk]
  have gr : fieldReduce k 0 x = some (x % modK k, 0) := by rw [fieldReduce_val k hz hx, ansK_good hk]; simp
  refine bind_step hw (bind_step gm (bind_step gr (bind_step (fieldInverse_val k hx) (guard_else rfl (guard_else rfl ?_)))))
  by_cases h0 : x % modK k = 0
  · rw [invK_zero hk h0]
    exact guard_step (by rw [u256eq_val (hL _) hz]; simp [h0]) (bind_step (law04INum_val _) (guard_step rfl rfl))
  · rw [invK_good hk h0]
    have g1 : fieldInverse k (x ^ (modK k - 2) % modK k) = some (x % modK k, 0) := by
      rw [fieldInverse_val k (hL _), invK_good hk (inv_ne k h0), inv_inv k h0]
    have hh : a / 2 ^ 1 ≤ a := Nat.div_le_self _ _
    refine guard_else (by rw [u256eq_val (hL _) hz]; simp [h0]) (bind_step g1 (bind_step (u256From_val (c := 1) (by omega)) (bind_step (sub_val hm (by omega)) (bind_step (ge hx (by omega)) (guard_else rfl (guard_else rfl (guard_else rfl ?_)))))))
    refine bind_step (sumMul_val hk hx (hL _)) (bind_step (u256From_val (c := 1) (by omega)) (guard_else (ne_no (inv_mul k h0)) (guard_else (ne_no rfl) (bind_step (u256From_val (c := 1) (by omega)) (guard_else (ne_no (fermatK k h0)) ?_)))))
    refine bind_step (u256Shr_val (n := 1) ha (by omega)) (bind_step (sub_val ha hh) (bind_step (ge hx (by omega)) (bind_step (ge hx (by omega)) (bind_step (ge hx ha) (guard_step rfl (guard_step rfl (guard_step rfl (guard_step rfl ?_))))))))
    refine bind_step (sumMul_val hk (hL _) (hL _)) (guard_step ?_ rfl)
    rw [← Nat.mul_mod, ← Nat.pow_add, show a / 2 ^ 1 + (a - a / 2 ^ 1) = a by omega, u256eq_self]
end Go.Sy
