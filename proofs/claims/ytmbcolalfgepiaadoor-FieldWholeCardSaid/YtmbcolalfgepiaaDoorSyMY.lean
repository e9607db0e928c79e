/- Division, bit by bit. -/
import Derived.Test.YtmbcolalfgepiaaDoorSyMX
import Derived.Test.YtmbcolalfgepiaaDoorSyMa3
set_option linter.unusedVariables false
set_option linter.unusedSimpArgs false
namespace Go.Sy
open Go

theorem setLimb_even {x b : Nat} (h : ln x 0 % 2 = 0) (hb : b < 2) : orI .u64 (limb x 0) (b : Int) = ((ln x 0 + b : Nat) : Int) ∧ ln x 0 + b < 18446744073709551616 ∧ setLimb x 0 ((ln x 0 + b : Nat) : Int) = x + b := by
  have hl := ln_lt x 0
  have h1 : ln x 0 + b < 18446744073709551616 := by omega
  refine ⟨?_, h1, ?_⟩
  · rw [limb_ln, orN hl (by omega), or_bit h hb]
  · rw [setLimb_low h1]
where
  setLimb_low {x c : Nat} (h : ln x 0 + c < 18446744073709551616) : setLimb x 0 ((ln x 0 + c : Nat) : Int) = x + c := by
    have e : (((ln x 0 + c : Nat) : Int) % 18446744073709551616).toNat = ln x 0 + c := by omega
    unfold setLimb
    rw [e]
    show x - ln x 0 * 2 ^ (64 * 0) + (ln x 0 + c) * 2 ^ (64 * 0) = _
    have h1 : ln x 0 ≤ x := by
      unfold ln
      simp only [Nat.mul_zero, Nat.pow_zero, Nat.div_one]
      exact Nat.mod_le _ _
    simp only [Nat.mul_zero, Nat.pow_zero, Nat.mul_one]
    omega

theorem ln0_even {x : Nat} (h : x % 2 = 0) : ln x 0 % 2 = 0 := by
  unfold ln
  simp only [Nat.mul_zero, Nat.pow_zero, Nat.div_one]
  omega

theorem top_bit {r : Nat} (hr : r < M256) : (shrI .u64 (limb r 3) 63 == (1 : Int)) = decide (M256 ≤ 2 * r) := by
  have s := ln_sum hr
  have l0 := ln_lt r 0
  have l1 := ln_lt r 1
  have l2 := ln_lt r 2
  have l3 := ln_lt r 3
  have e : shrI .u64 (limb r 3) 63 = ((ln r 3 / 9223372036854775808 : Nat) : Int) := by
    rw [limb_ln]; exact shrN (ln r 3) 63 (by omega)
  have hM : M256 = 115792089237316195423570985008687907853269984665640564039457584007913129639936 := rfl
  rw [e]
  by_cases h : M256 ≤ 2 * r
  · rw [decide_eq_true h]
    have : ln r 3 / 9223372036854775808 = 1 := by rw [hM] at h; omega
    rw [this]; rfl
  · rw [decide_eq_false h]
    have : ln r 3 / 9223372036854775808 = 0 := by rw [hM] at h; omega
    rw [this]; rfl

/-- What is left after a bit more. -/
theorem div_step {r b m : Nat} (hr : r < m) (hb : b < 2) : (2 * r + b < m → (2 * r + b) % m = 2 * r + b) ∧ (m ≤ 2 * r + b → (2 * r + b) % m = 2 * r + b - m) := by
  refine ⟨fun h => Nat.mod_eq_of_lt h, fun h => ?_⟩
  rw [Nat.mod_eq_sub_mod h, Nat.mod_eq_of_lt (by omega)]

theorem divRound {i high low m qh ql r : Nat} (hi : i < 512) (hm : m < M256) (hr : r < m) :
    ∃ qh' ql', u256IDivideL0R (i : Int) high low m qh ql r = some (.inl ((i : Int) - 1, high, low, m, qh', ql', (2 * r + bitN (if 256 ≤ i then high else low) (i % 256)) % m)) := by
  have hrM : r < M256 := Nat.lt_trans hr hm
  have hj : i % 256 < 256 := Nat.mod_lt _ (by decide)
  have hb : ∀ e, bitN e (i % 256) < 2 := fun e => Nat.mod_lt _ (by decide)
  have hq : i % 256 / 64 < 4 := by omega
  have hs := Nat.mod_lt (i % 256) (show 0 < 64 by decide)
  have t0 : Int.tmod (i : Int) (256 : Int) = ((i % 256 : Nat) : Int) := rfl
  have w3 : IntKind.wrap .i64 ((i : Int) - (1 : Int)) = (i : Int) - 1 := wI64z _ (by omega) (by omega)
  have hsh := u256Shl_one hrM
  have hev : (2 * r % M256) % 2 = 0 := by
    have : M256 % 2 = 0 := by decide
    have h2 : M256 = 2 * (M256 / 2) := by omega
    rw [h2, Nat.mul_mod_mul_left]; omega
  have n1 : Int.toNat ((i % 256 / 64 : Nat) : Int) = i % 256 / 64 := rfl
  have hbit : ∀ e, andI .u64 (shrI .u64 (limb e (i % 256 / 64)) ((i % 256 % 64 : Nat) : Int)) (1 : Int) = ((bitN e (i % 256) : Nat) : Int) := fun e => by
    rw [limb_ln, shrN _ _ (by omega), and1 _ (Nat.lt_of_le_of_lt (Nat.div_le_self _ _) (ln_lt _ _)), bit_limb]
  have hone : shlI .u64 1 ((i % 256 % 64 : Nat) : Int) = ((1 * 2 ^ (i % 256 % 64) % 18446744073709551616 : Nat) : Int) := shlN 1 _ (by omega)
  have hone2 : 1 * 2 ^ (i % 256 % 64) % 18446744073709551616 < 18446744073709551616 := Nat.mod_lt _ (by decide)
  have hqor : ∀ q, inU64 (orI .u64 (limb q (i % 256 / 64)) (shlI .u64 1 ((i % 256 % 64 : Nat) : Int))) = true := fun q => by
    rw [hone, limb_ln, orN (ln_lt _ _) hone2]
    exact inU64_nat (or_lt64 (ln_lt _ _) hone2)
  have hqb : Nat.blt (i % 256 / 64) 4 = true := by simpa using hq
  have c0 : decide (0 ≤ ((i % 256 / 64 : Nat) : Int)) = true := decide_eq_true (Int.natCast_nonneg _)
  have c1 : decide (((i % 256 % 64 : Nat) : Int) < 0) = false := decide_eq_false (by omega)
  have htop := top_bit hrM
  -- the subtraction
  have hsub : ∀ b, b < 2 → m ≤ 2 * r + b → ∃ o : Int, u256Sub (2 * r % M256 + b) m = some ((2 * r + b) % m, o) := fun b hb2 hle => by
    have hlt : 2 * r % M256 + b < M256 := by
      have h1 : 2 * r % M256 < M256 := Nat.mod_lt _ (by decide)
      have h2 : M256 % 2 = 0 := by decide
      omega
    obtain ⟨d, o, e1, e2, e3, e4⟩ := u256Sub_val hlt hm
    refine ⟨(o : Int), ?_⟩
    rw [e1, (div_step hr hb2).2 hle]
    have : d = 2 * r + b - m := by
      rcases Nat.lt_or_ge (2 * r) M256 with h | h
      · rw [Nat.mod_eq_of_lt h] at e4
        rcases (show o = 0 ∨ o = 1 by omega) with ho | ho
        · subst ho; omega
        · subst ho; omega
      · rw [Nat.mod_eq_sub_mod h, Nat.mod_eq_of_lt (by omega)] at e4
        rcases (show o = 0 ∨ o = 1 by omega) with ho | ho
        · subst ho; omega
        · subst ho; omega
    rw [this]
  unfold u256IDivideL0R
  rw [t0, tdiv64 _ hj, tmod64, n1, w3, hbit high, hbit low, htop]
  by_cases h256 : 256 ≤ i
  · rw [if_pos h256]
    have hb2 := hb high
    generalize bitN high (i % 256) = b at *
    obtain ⟨o1, o2, o3⟩ := setLimb_even (x := 2 * r % M256) (b := b) (ln0_even hev) hb2
    by_cases ht : M256 ≤ 2 * r
    · obtain ⟨o, hso⟩ := hsub b hb2 (by omega)
      refine ⟨_, ql, guard_step (decide_eq_true (by omega)) (guard_step (decide_eq_true (by omega)) (bind_step hsh (guard_step c0 (guard_step hqb (guard_step hqb (guard_else c1 (guard_step (by rw [o1]; exact inU64_nat o2) (guard_step (decide_eq_true ht) (bind_step (by rw [o1, o3]; exact hso) (guard_step c0 (guard_step hqb (guard_step hqb (guard_else c1 (guard_step c0 (guard_step hqb (guard_step hqb (guard_step (hqor qh) rfl)))))))))))))))))⟩
    · have hlt : 2 * r % M256 + b < M256 := by
        have h1 : 2 * r % M256 < M256 := Nat.mod_lt _ (by decide)
        have h2 : M256 % 2 = 0 := by decide
        omega
      have e2r : 2 * r % M256 = 2 * r := Nat.mod_eq_of_lt (by omega)
      by_cases hc : m ≤ 2 * r + b
      · obtain ⟨o, hso⟩ := hsub b hb2 hc
        refine ⟨_, ql, guard_step (decide_eq_true (by omega)) (guard_step (decide_eq_true (by omega)) (bind_step hsh (guard_step c0 (guard_step hqb (guard_step hqb (guard_else c1 (guard_step (by rw [o1]; exact inU64_nat o2) (guard_else (decide_eq_false ht) (bind_step (by rw [o1, o3]; exact u256Cmp_val hlt hm) (guard_step ?_ (bind_step (by rw [o1, o3]; exact hso) (guard_step c0 (guard_step hqb (guard_step hqb (guard_else c1 (guard_step c0 (guard_step hqb (guard_step hqb (guard_step (hqor qh) rfl)))))))))))))))))))⟩
        rw [e2r]
        unfold cmpI
        rw [if_neg (by omega)]
        split <;> decide
      · refine ⟨qh, ql, guard_step (decide_eq_true (by omega)) (guard_step (decide_eq_true (by omega)) (bind_step hsh (guard_step c0 (guard_step hqb (guard_step hqb (guard_else c1 (guard_step (by rw [o1]; exact inU64_nat o2) (guard_else (decide_eq_false ht) (bind_step (by rw [o1, o3]; exact u256Cmp_val hlt hm) (guard_else ?_ ?_))))))))))⟩
        · rw [e2r]
          unfold cmpI
          rw [if_pos (by omega)]
          decide
        · rw [o1, o3, e2r, (div_step hr hb2).1 (by omega)]
  · rw [if_neg h256]
    have hb2 := hb low
    generalize bitN low (i % 256) = b at *
    obtain ⟨o1, o2, o3⟩ := setLimb_even (x := 2 * r % M256) (b := b) (ln0_even hev) hb2
    by_cases ht : M256 ≤ 2 * r
    · obtain ⟨o, hso⟩ := hsub b hb2 (by omega)
      refine ⟨qh, _, guard_step (decide_eq_true (by omega)) (guard_else (decide_eq_false (by omega)) (bind_step hsh (guard_step c0 (guard_step hqb (guard_step hqb (guard_else c1 (guard_step (by rw [o1]; exact inU64_nat o2) (guard_step (decide_eq_true ht) (bind_step (by rw [o1, o3]; exact hso) (guard_step c0 (guard_step hqb (guard_step hqb (guard_else c1 (guard_step c0 (guard_step hqb (guard_step hqb (guard_step (hqor ql) rfl)))))))))))))))))⟩
    · have hlt : 2 * r % M256 + b < M256 := by
        have h1 : 2 * r % M256 < M256 := Nat.mod_lt _ (by decide)
        have h2 : M256 % 2 = 0 := by decide
        omega
      have e2r : 2 * r % M256 = 2 * r := Nat.mod_eq_of_lt (by omega)
      by_cases hc : m ≤ 2 * r + b
      · obtain ⟨o, hso⟩ := hsub b hb2 hc
        refine ⟨qh, _, guard_step (decide_eq_true (by omega)) (guard_else (decide_eq_false (by omega)) (bind_step hsh (guard_step c0 (guard_step hqb (guard_step hqb (guard_else c1 (guard_step (by rw [o1]; exact inU64_nat o2) (guard_else (decide_eq_false ht) (bind_step (by rw [o1, o3]; exact u256Cmp_val hlt hm) (guard_step ?_ (bind_step (by rw [o1, o3]; exact hso) (guard_step c0 (guard_step hqb (guard_step hqb (guard_else c1 (guard_step c0 (guard_step hqb (guard_step hqb (guard_step (hqor ql) rfl)))))))))))))))))))⟩
        rw [e2r]
        unfold cmpI
        rw [if_neg (by omega)]
        split <;> decide
      · refine ⟨qh, ql, guard_step (decide_eq_true (by omega)) (guard_else (decide_eq_false (by omega)) (bind_step hsh (guard_step c0 (guard_step hqb (guard_step hqb (guard_else c1 (guard_step (by rw [o1]; exact inU64_nat o2) (guard_else (decide_eq_false ht) (bind_step (by rw [o1, o3]; exact u256Cmp_val hlt hm) (guard_else ?_ ?_))))))))))⟩
        · rw [e2r]
          unfold cmpI
          rw [if_pos (by omega)]
          decide
        · rw [o1, o3, e2r, (div_step hr hb2).1 (by omega)]

theorem bit_whole {high low i : Nat} (hl : low < M256) : bitN (if 256 ≤ i then high else low) (i % 256) = (high * M256 + low) / 2 ^ i % 2 ∨ 512 ≤ i := by
  by_cases h512 : 512 ≤ i
  · exact .inr h512
  left
  have hM : M256 = 2 ^ 256 := by decide
  unfold bitN
  by_cases h : 256 ≤ i
  · rw [if_pos h]
    have e : 2 ^ i = M256 * 2 ^ (i % 256) := by rw [hM, ← Nat.pow_add]; congr 1; omega
    rw [e, ← Nat.div_div_eq_div_mul, Nat.mul_comm high, Nat.mul_add_div (by decide), Nat.div_eq_of_lt hl, Nat.add_zero]
  · rw [if_neg h, Nat.mod_eq_of_lt (by omega : i < 256)]
    have e : high * M256 + low = 2 ^ i * (high * 2 ^ (256 - i)) + low := by
      rw [Nat.mul_left_comm, ← Nat.pow_add, show i + (256 - i) = 256 by omega, ← hM]
    rw [e, Nat.mul_add_div (Nat.two_pow_pos i)]
    have h2 : 2 ^ (256 - i) = 2 * 2 ^ (255 - i) := by rw [show 256 - i = (255 - i) + 1 by omega, Nat.pow_succ, Nat.mul_comm]
    rw [h2, Nat.mul_left_comm, Nat.mul_add_mod]

theorem divLoop {high low m : Nat} (hl : low < M256) (hm : m < M256) (h0 : 0 < m) : ∀ (n fuel qh ql r : Nat), n ≤ 512 → n < fuel → r = (high * M256 + low) / 2 ^ n % m →
    ∃ qh' ql', iter (fun p : Int × Nat × Nat × Nat × Nat × Nat × Nat => u256IDivideL0R p.1 p.2.1 p.2.2.1 p.2.2.2.1 p.2.2.2.2.1 p.2.2.2.2.2.1 p.2.2.2.2.2.2) fuel ((n : Int) - 1, high, low, m, qh, ql, r) = some (qh', ql', (high * M256 + low) % m)
  | 0, fuel, qh, ql, r, _, hf, hr => by
    obtain ⟨fuel, rfl⟩ : ∃ q, fuel = q + 1 := ⟨fuel - 1, by omega⟩
    refine ⟨qh, ql, iter_end ?_⟩
    show u256IDivideL0R (((0 : Nat) : Int) - 1) high low m qh ql r = _
    unfold u256IDivideL0R
    refine guard_else (by decide) ?_
    rw [hr, Nat.pow_zero, Nat.div_one]
  | n + 1, fuel, qh, ql, r, hn, hf, hr => by
    obtain ⟨fuel, rfl⟩ : ∃ q, fuel = q + 1 := ⟨fuel - 1, by omega⟩
    have e1 : (((n + 1 : Nat) : Int) - 1) = (n : Int) := by omega
    have hrm : r < m := by rw [hr]; exact Nat.mod_lt _ h0
    obtain ⟨qh1, ql1, g⟩ := divRound (i := n) (high := high) (low := low) (qh := qh) (ql := ql) (by omega) hm hrm
    have hb := (bit_whole (high := high) (i := n) hl).resolve_right (by omega)
    have hstep : (2 * r + bitN (if 256 ≤ n then high else low) (n % 256)) % m = (high * M256 + low) / 2 ^ n % m := by
      rw [hb, hr]
      generalize high * M256 + low = X
      have e2 : X / 2 ^ n = 2 * (X / 2 ^ (n + 1)) + X / 2 ^ n % 2 := by
        rw [Nat.pow_succ, ← Nat.div_div_eq_div_mul]; omega
      generalize X / 2 ^ n % 2 = c at *
      rw [e2]
      rw [Nat.add_mod, Nat.mul_mod_mod, ← Nat.add_mod]
    rw [hstep] at g
    obtain ⟨qh2, ql2, k⟩ := divLoop hl hm h0 n fuel qh1 ql1 _ (by omega) (by omega) rfl
    rw [e1]
    exact ⟨qh2, ql2, iter_more g k⟩

theorem pow_sq (a : Nat) : 2 ^ (a + a) = 2 ^ a * 2 ^ a := Nat.pow_add 2 a a
theorem sq_pow {M a : Nat} (h : M = 2 ^ a) : M * M = 2 ^ (a + a) := by rw [pow_sq, h]
theorem div_zero {X m k a M : Nat} (hM : M = 2 ^ a) (hk : a + a ≤ k) (hX : X < M * M) : X / 2 ^ k % m = 0 := by
  have h1 : X < 2 ^ k := Nat.lt_of_lt_of_le (Nat.lt_of_lt_of_eq hX (sq_pow hM)) (Nat.pow_le_pow_right (by decide) hk)
  rw [Nat.div_eq_of_lt h1, Nat.zero_mod]

theorem u256Reduce_val {high low m : Nat} (hh : high < M256) (hl : low < M256) (hm : m < M256) (h0 : m ≠ 0) : u256Reduce high low m = some ((high * M256 + low) % m, 0) := by
  have hX : high * M256 + low < M256 * M256 := by
    have h1 : (high + 1) * M256 ≤ M256 * M256 := Nat.mul_le_mul_right _ hh
    rw [Nat.add_mul] at h1
    omega
  have hz := div_zero (m := m) (k := 512) (a := 256) (show M256 = 2 ^ 256 by decide) (by decide) hX
  obtain ⟨qh, ql, g⟩ := divLoop (high := high) (low := low) hl hm (Nat.pos_of_ne_zero h0) 512 1000 0 0 0 (by omega) (by omega) hz.symm
  rw [u256Reduce_eq]
  unfold u256ReduceB
  refine guard_else (by rw [u256eq0 hm]; exact decide_eq_false h0) (bind_step (a := (qh, ql, (high * M256 + low) % m)) ?_ rfl)
  rw [u256IDivide_eq]
  unfold u256IDivideB
  exact bind_step ((u256IDivideL0_eq _ _ _ _ _ _ _).trans g) rfl

theorem u256AddMod_val {x y m : Nat} (hx : x < M256) (hy : y < M256) (hm : m < M256) (h0 : m ≠ 0) : u256AddMod x y m = some ((x + y) % m, 0) := by
  obtain ⟨r, o, e, g1, g2, g3⟩ := u256Add_val hx hy
  rw [u256AddMod_eq]
  unfold u256AddModB
  refine bind_step e (bind_step (u256From_val (by omega)) (bind_step (u256Reduce_val (by simp only [M256]; omega) g1 hm h0) ?_))
  have : o * M256 + r = x + y := by rw [Nat.mul_comm]; omega
  rw [this]
end Go.Sy
