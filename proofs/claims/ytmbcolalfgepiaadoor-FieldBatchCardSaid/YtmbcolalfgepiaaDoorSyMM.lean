/- Bits, lengths, powers on both sides: the law of powers. -/
import Derived.Test.YtmbcolalfgepiaaDoorSyMK
set_option linter.unusedVariables false
set_option linter.unusedSimpArgs false
namespace Go.Sy
open Go

theorem wI64 (n : Nat) (h : n < 9223372036854775808) : IntKind.wrap .i64 (n : Int) = (n : Int) := by
  have h1 : (IntKind.i64).signed = true := rfl
  have h2 : (2 : Int) ^ (IntKind.i64).bits = 18446744073709551616 := rfl
  have h3 : (2 : Int) ^ ((IntKind.i64).bits - 1) = 9223372036854775808 := rfl
  simp only [IntKind.wrap, h1, h2, h3, Bool.true_and]
  have e : (n : Int) % 18446744073709551616 = n := by omega
  rw [e]
  rw [if_neg (by simp; omega)]

theorem wI64z (z : Int) (h1 : -9223372036854775808 ≤ z) (h2 : z < 9223372036854775808) : IntKind.wrap .i64 z = z := by
  have g1 : (IntKind.i64).signed = true := rfl
  have g2 : (2 : Int) ^ (IntKind.i64).bits = 18446744073709551616 := rfl
  have g3 : (2 : Int) ^ ((IntKind.i64).bits - 1) = 9223372036854775808 := rfl
  simp only [IntKind.wrap, g1, g2, g3, Bool.true_and]
  split
  · rename_i h; simp at h; omega
  · rename_i h; simp at h; omega

theorem wU8 (n : Nat) (h : n < 256) : IntKind.wrap .u8 (n : Int) = (n : Int) := by
  have h1 : (IntKind.u8).signed = false := rfl
  have h2 : (2 : Int) ^ (IntKind.u8).bits = 256 := rfl
  simp only [IntKind.wrap, h1, h2, Bool.false_and, Bool.false_eq_true, if_false]
  omega

theorem shrN (n s : Nat) (h : s ≤ 64) : shrI .u64 (n : Int) (s : Int) = ((n / 2 ^ s : Nat) : Int) := by
  have e : min (s : Int).toNat (IntKind.u64).bits = s := by
    have : (IntKind.u64).bits = 64 := rfl
    rw [this]; simp; omega
  simp only [shrI, e]
  have : (2 : Int) ^ s = ((2 ^ s : Nat) : Int) := by simp
  rw [this, Int.fdiv_eq_ediv_of_nonneg _ (Int.natCast_nonneg _)]
  exact (Int.natCast_ediv _ _).symm

theorem and1 (n : Nat) (hn : n < 18446744073709551616) : andI .u64 (n : Int) 1 = ((n % 2 : Nat) : Int) := by
  have h : (BitVec.ofInt (IntKind.u64).bits (n : Int) &&& BitVec.ofInt (IntKind.u64).bits 1).toNat = n % 2 := by
    have e1 : (BitVec.ofInt (IntKind.u64).bits (n : Int)).toNat = n := by
      rw [BitVec.toNat_ofInt]
      have : ((2 ^ (IntKind.u64).bits : Nat) : Int) = 18446744073709551616 := rfl
      rw [this]; omega
    have e2 : (BitVec.ofInt (IntKind.u64).bits 1).toNat = 2 ^ 1 - 1 := rfl
    rw [BitVec.toNat_and, e1, e2, Nat.and_two_pow_sub_one_eq_mod]
  simp only [andI, h]
  rw [wrap64]
  omega

/-- The i-th bit. -/
def bitN (e i : Nat) : Nat := e / 2 ^ i % 2

theorem bit_limb (e i : Nat) : ln e (i / 64) / 2 ^ (i % 64) % 2 = bitN e i := by
  unfold ln bitN
  have h : (18446744073709551616 : Nat) = 2 ^ (i % 64) * 2 ^ (64 - i % 64) := by
    rw [← Nat.pow_add]
    have : i % 64 + (64 - i % 64) = 64 := by have := Nat.mod_lt i (show 0 < 64 by decide); omega
    rw [this]
  rw [h, Nat.mod_mul_right_div_self, Nat.div_div_eq_div_mul, ← Nat.pow_add]
  have e1 : 64 * (i / 64) + i % 64 = i := by omega
  rw [e1]
  have h2 : 2 ^ (64 - i % 64) = 2 * 2 ^ (63 - i % 64) := by
    have : 64 - i % 64 = (63 - i % 64) + 1 := by have := Nat.mod_lt i (show 0 < 64 by decide); omega
    rw [this, Nat.pow_succ, Nat.mul_comm]
  rw [h2, Nat.mod_mul_right_mod]

theorem tdiv64 (i : Nat) (h : i < 256) : IntKind.wrap .i64 (Int.tdiv (i : Int) (64 : Int)) = ((i / 64 : Nat) : Int) := by
  have : Int.tdiv (i : Int) (64 : Int) = ((i / 64 : Nat) : Int) := rfl
  rw [this, wI64 _ (by omega)]
theorem tmod64 (i : Nat) : Int.tmod (i : Int) (64 : Int) = ((i % 64 : Nat) : Int) := rfl

theorem u256Bit_val {e i : Nat} (hi : i < 256) : u256Bit e (i : Int) = some ((bitN e i : Nat) : Int) := by
  rw [u256Bit_eq]
  unfold u256BitB
  rw [tdiv64 i hi, tmod64]
  have hq : i / 64 < 4 := by omega
  refine guard_else (by simp) (guard_else (by simp; omega) (guard_step (by simp; omega) (guard_step ?_ (guard_step ?_ (guard_else (by simp; omega) ?_)))))
  · simp only [Int.toNat_natCast]; simp; exact hq
  · simp only [Int.toNat_natCast]; simp; exact hq
  · simp only [Int.toNat_natCast]
    rw [limb_ln, shrN _ _ (by have := Nat.mod_lt i (show 0 < 64 by decide); omega), and1 _ (Nat.lt_of_le_of_lt (Nat.div_le_self _ _) (ln_lt _ _)), bit_limb, wI64 _ (by have := Nat.mod_lt (e / 2 ^ i) (show 0 < 2 by decide); unfold bitN; omega)]

theorem ref01Bit_val {e i : Nat} (hi : i < 256) : ref01Bit e (i : Int) = some ((bitN e i : Nat) : Int) := by
  rw [ref01Bit_eq]
  unfold ref01BitB
  rw [tdiv64 i hi, tmod64, wu64 _ (by have := Nat.mod_lt i (show 0 < 64 by decide); omega)]
  have hq : i / 64 < 4 := by omega
  refine guard_else (by simp) (guard_else (by simp; omega) (guard_step (by simp; omega) (guard_step ?_ (guard_step ?_ (guard_else (by simp; omega) ?_)))))
  · simp only [Int.toNat_natCast]; simp; exact hq
  · simp only [Int.toNat_natCast]; simp; exact hq
  · simp only [Int.toNat_natCast]
    rw [limb_ln, shrN _ _ (by have := Nat.mod_lt i (show 0 < 64 by decide); omega)]
    have : Int.tmod ((ln e (i / 64) / 2 ^ (i % 64) : Nat) : Int) 2 = ((ln e (i / 64) / 2 ^ (i % 64) % 2 : Nat) : Int) := rfl
    rw [this, bit_limb, wI64 _ (by have := Nat.mod_lt (e / 2 ^ i) (show 0 < 2 by decide); unfold bitN; omega)]

/-! ### Lengths -/

def bitTab (u : Nat) : Nat := (strC0.getD u 0).toNat

theorem tab_all : ((List.range 256).all fun u => decide (u < 2 ^ bitTab u ∧ bitTab u ≤ 8)) = true := by decide +kernel
theorem tab_spec {u : Nat} (h : u < 256) : u < 2 ^ bitTab u ∧ bitTab u ≤ 8 := by
  have := List.all_eq_true.1 tab_all u (by simpa using h)
  simpa using this
theorem strC0_len : strC0.length = 256 := by decide +kernel

theorem len_leaf {u b : Nat} (hu : u < 256) (hb : b ≤ 56) :
    (bif decide (0 ≤ (IntKind.wrap .u8 (u : Int))) then
      bif Nat.blt (Int.toNat (IntKind.wrap .u8 (u : Int))) strC0.length then
        some (IntKind.wrap .i64 ((b : Int) + (IntKind.wrap .i64 (((List.getD strC0 (Int.toNat (IntKind.wrap .u8 (u : Int))) 0).toNat : Nat) : Int))))
      else none
    else none) = some ((b + bitTab u : Nat) : Int) := by
  rw [wU8 u hu]
  have ht := tab_spec hu
  refine guard_step (by simp) (guard_step ?_ ?_)
  · rw [strC0_len]; simpa using hu
  · simp only [Int.toNat_natCast]
    have e : ((strC0.getD u 0).toNat : Nat) = bitTab u := rfl
    rw [e, wI64 _ (by omega)]
    have : ((b : Int) + (bitTab u : Int)) = ((b + bitTab u : Nat) : Int) := by omega
    rw [this, wI64 _ (by omega)]

theorem lt_of_div {v s n : Nat} (h : v / 2 ^ s < 2 ^ n) : v < 2 ^ (s + n) := by
  rw [Nat.pow_add]
  have := (Nat.div_lt_iff_lt_mul (Nat.two_pow_pos s)).1 h
  rw [Nat.mul_comm]; exact this

theorem bitsLen64_val {v : Nat} (hv : v < 18446744073709551616) : ∃ n : Nat, bitsLen64 (v : Int) = some (n : Int) ∧ n ≤ 64 ∧ v < 2 ^ n := by
  rw [bitsLen64_eq]
  have fin : ∀ s : Nat, s ≤ 56 → v / 2 ^ s < 256 → ∀ X : Option Int, X = some ((s + bitTab (v / 2 ^ s) : Nat) : Int) → ∃ n : Nat, X = some (n : Int) ∧ n ≤ 64 ∧ v < 2 ^ n := fun s hs hu X hX =>
    ⟨_, hX, by have := (tab_spec hu).2; omega, lt_of_div (tab_spec hu).1⟩
  have s32 : shrI .u64 (v : Int) 32 = ((v / 2 ^ 32 : Nat) : Int) := shrN v 32 (by omega)
  have s16 : shrI .u64 (v : Int) 16 = ((v / 2 ^ 16 : Nat) : Int) := shrN v 16 (by omega)
  have s8 : shrI .u64 (v : Int) 8 = ((v / 2 ^ 8 : Nat) : Int) := shrN v 8 (by omega)
  have s3216 : shrI .u64 ((v / 2 ^ 32 : Nat) : Int) 16 = ((v / 2 ^ 48 : Nat) : Int) := by rw [show (16 : Int) = ((16 : Nat) : Int) from rfl, shrN _ 16 (by omega), Nat.div_div_eq_div_mul]
  have s328 : shrI .u64 ((v / 2 ^ 32 : Nat) : Int) 8 = ((v / 2 ^ 40 : Nat) : Int) := by rw [show (8 : Int) = ((8 : Nat) : Int) from rfl, shrN _ 8 (by omega), Nat.div_div_eq_div_mul]
  have s488 : shrI .u64 ((v / 2 ^ 48 : Nat) : Int) 8 = ((v / 2 ^ 56 : Nat) : Int) := by rw [show (8 : Int) = ((8 : Nat) : Int) from rfl, shrN _ 8 (by omega), Nat.div_div_eq_div_mul]
  have s168 : shrI .u64 ((v / 2 ^ 16 : Nat) : Int) 8 = ((v / 2 ^ 24 : Nat) : Int) := by rw [show (8 : Int) = ((8 : Nat) : Int) from rfl, shrN _ 8 (by omega), Nat.div_div_eq_div_mul]
  unfold bitsLen64B
  rw [s32, s3216, s488, s328, s16, s168, s8]
  by_cases h32 : 4294967296 ≤ v
  · by_cases h48 : 65536 ≤ v / 2 ^ 32
    · by_cases h56 : 256 ≤ v / 2 ^ 48
      · exact fin 56 (by omega) (by omega) _ (guard_step (by simp; omega) (guard_step (by simp; omega) (guard_step (by simp; omega) (len_leaf (u := v / 2 ^ 56) (b := 56) (by omega) (by omega)))))
      · exact fin 48 (by omega) (by omega) _ (guard_step (by simp; omega) (guard_step (by simp; omega) (guard_else (by simp; omega) (len_leaf (u := v / 2 ^ 48) (b := 48) (by omega) (by omega)))))
    · by_cases h40 : 256 ≤ v / 2 ^ 32
      · exact fin 40 (by omega) (by omega) _ (guard_step (by simp; omega) (guard_else (by simp; omega) (guard_step (by simp; omega) (len_leaf (u := v / 2 ^ 40) (b := 40) (by omega) (by omega)))))
      · exact fin 32 (by omega) (by omega) _ (guard_step (by simp; omega) (guard_else (by simp; omega) (guard_else (by simp; omega) (len_leaf (u := v / 2 ^ 32) (b := 32) (by omega) (by omega)))))
  · by_cases h16 : 65536 ≤ v
    · by_cases h24 : 256 ≤ v / 2 ^ 16
      · exact fin 24 (by omega) (by omega) _ (guard_else (by simp; omega) (guard_step (by simp; omega) (guard_step (by simp; omega) (len_leaf (u := v / 2 ^ 24) (b := 24) (by omega) (by omega)))))
      · exact fin 16 (by omega) (by omega) _ (guard_else (by simp; omega) (guard_step (by simp; omega) (guard_else (by simp; omega) (len_leaf (u := v / 2 ^ 16) (b := 16) (by omega) (by omega)))))
    · by_cases h8 : 256 ≤ v
      · exact fin 8 (by omega) (by omega) _ (guard_else (by simp; omega) (guard_else (by simp; omega) (guard_step (by simp; omega) (len_leaf (u := v / 2 ^ 8) (b := 8) (by omega) (by omega)))))
      · exact fin 0 (by omega) (by simp; omega) _ (guard_else (by simp; omega) (guard_else (by simp; omega) (guard_else (by simp; omega) (by
          have := len_leaf (u := v) (b := 0) (by omega) (by omega)
          simpa using this))))
end Go.Sy
