/- Bits, lengths, powers on both sides: the law of powers. -/
import Derived.Test.YtfappeeggccicaaGreatDoorSyMa1
import Derived.Test.YtfappeeggccicaaGreatDoorSyMa2
set_option linter.unusedVariables false
set_option linter.unusedSimpArgs false
namespace Go.Sy
open Go
theorem wI64 (n : Nat) (h : n < 9223372036854775808) : IntKind.wrap .i64 (n : Int) = (n : Int) := by
 have h1 : (IntKind.i64).signed = true := rfl
 have h2 : (2 : Int) ^ (IntKind.i64).bits = 18446744073709551616 := rfl
 have h3 : (2 : Int) ^ ((IntKind.i64).bits - 1) = 9223372036854775808 := rfl
 simp only [IntKind.wrap, h1, h2, h3, Bool.true_and]
 have e : (n : Int) % 18446744073709551616 = n := by omega
 rw [e]
 rw [if_neg (by simp; omega)]
theorem wI64z (z : Int) (h1 : -9223372036854775808 ≤ z) (h2 : z < 9223372036854775808) : IntKind.wrap .i64 z = z := by
 have g1 : (IntKind.i64).signed = true := rfl
 have g2 : (2 : Int) ^ (IntKind.i64).bits = 18446744073709551616 := rfl
 have g3 : (2 : Int) ^ ((IntKind.i64).bits - 1) = 9223372036854775808 := rfl
 simp only [IntKind.wrap, g1, g2, g3, Bool.true_and]
 split
 ·rename_i h; simp at h; omega
 ·rename_i h; simp at h; omega
theorem wU8 (n : Nat) (h : n < 256) : IntKind.wrap .u8 (n : Int) = (n : Int) := by
 have h1 : (IntKind.u8).signed = false := rfl
 have h2 : (2 : Int) ^ (IntKind.u8).bits = 256 := rfl
 simp only [IntKind.wrap, h1, h2, Bool.false_and, Bool.false_eq_true, if_false]
 omega
theorem shrN (n s : Nat) (h : s ≤ 64) : shrI .u64 (n : Int) (s : Int) = ((n / 2 ^ s : Nat) : Int) := by
 have e : min (s : Int).toNat (IntKind.u64).bits = s := by
  have : (IntKind.u64).bits = 64 := rfl
  rw [this]; simp; omega
 simp only [shrI, e]
 have : (2 : Int) ^ s = ((2 ^ s : Nat) : Int) := by simp
 rw [this, Int.fdiv_eq_ediv_of_nonneg _ (Int.natCast_nonneg _)]
 exact (Int.natCast_ediv _ _).symm
theorem and1 (n : Nat) (hn : n < 18446744073709551616) : andI .u64 (n : Int) 1 = ((n % 2 : Nat) : Int) := by
 have h : (BitVec.ofInt (IntKind.u64).bits (n : Int) &&& BitVec.ofInt (IntKind.u64).bits 1).toNat = n % 2 := by
  have e1 : (BitVec.ofInt (IntKind.u64).bits (n : Int)).toNat = n := by
   rw [BitVec.toNat_ofInt]
   have : ((2 ^ (IntKind.u64).bits : Nat) : Int) = 18446744073709551616 := rfl
   rw [this]; omega
  have e2 : (BitVec.ofInt (IntKind.u64).bits 1).toNat = 2 ^ 1 - 1 := rfl
  rw [BitVec.toNat_and, e1, e2, Nat.and_two_pow_sub_one_eq_mod]
 simp only [andI, h]
 rw [wrap64]
 omega
def bitN (e i : Nat) : Nat := e / 2 ^ i % 2
theorem bit_limb (e i : Nat) : ln e (i / 64) / 2 ^ (i % 64) % 2 = bitN e i := by
 unfold ln bitN
 have h : (18446744073709551616 : Nat) = 2 ^ (i % 64) * 2 ^ (64 - i % 64) := by
  rw [← Nat.pow_add]
  have : i % 64 + (64 - i % 64) = 64 := by have := Nat.mod_lt i (show 0 < 64 by decide); omega
  rw [this]
 rw [h, Nat.mod_mul_right_div_self, Nat.div_div_eq_div_mul, ← Nat.pow_add]
 have e1 : 64 * (i / 64) + i % 64 = i := by omega
 rw [e1]
 have h2 : 2 ^ (64 - i % 64) = 2 * 2 ^ (63 - i % 64) := by
  have : 64 - i % 64 = (63 - i % 64) + 1 := by have := Nat.mod_lt i (show 0 < 64 by decide); omega
  rw [this, Nat.pow_succ, Nat.mul_comm]
 rw [h2, Nat.mod_mul_right_mod]
theorem tdiv64 (i : Nat) (h : i < 256) : IntKind.wrap .i64 (Int.tdiv (i : Int) (64 : Int)) = ((i / 64 : Nat) : Int) := by
 have : Int.tdiv (i : Int) (64 : Int) = ((i / 64 : Nat) : Int) := rfl
 rw [this, wI64 _ (by omega)]
theorem tmod64 (i : Nat) : Int.tmod (i : Int) (64 : Int) = ((i % 64 : Nat) : Int) := rfl
theorem u256Bit_val {e i : Nat} (hi : i < 256) : u256Bit e (i : Int) = some ((bitN e i : Nat) : Int) := by
 rw [u256Bit_eq]
 unfold u256BitB
 rw [tdiv64 i hi, tmod64]
 have hq : i / 64 < 4 := by omega
 refine guard_else (by simp) (guard_else (by simp; omega) (guard_step (by simp; omega) (guard_step ?_ (guard_step ?_ (guard_else (by simp; omega) ?_)))))
 ·simp only [Int.toNat_natCast]; simp; exact hq
 ·simp only [Int.toNat_natCast]; simp; exact hq
 ·simp only [Int.toNat_natCast]
  rw [limb_ln, shrN _ _ (by have := Nat.mod_lt i (show 0 < 64 by decide); omega), and1 _ (Nat.lt_of_le_of_lt (Nat.div_le_self _ _) (ln_lt _ _)), bit_limb, wI64 _ (by have := Nat.mod_lt (e / 2 ^ i) (show 0 < 2 by decide); unfold bitN; omega)]
theorem ref01Bit_val {e i : Nat} (hi : i < 256) : ref01Bit e (i : Int) = some ((bitN e i : Nat) : Int) := by
 rw [ref01Bit_eq]
 unfold ref01BitB
 rw [tdiv64 i hi, tmod64, wu64 _ (by have := Nat.mod_lt i (show 0 < 64 by decide); omega)]
 have hq : i / 64 < 4 := by omega
 refine guard_else (by simp) (guard_else (by simp; omega) (guard_step (by simp; omega) (guard_step ?_ (guard_step ?_ (guard_else (by simp; omega) ?_)))))
 ·simp only [Int.toNat_natCast]; simp; exact hq
 ·simp only [Int.toNat_natCast]; simp; exact hq
 ·simp only [Int.toNat_natCast]
  rw [limb_ln, shrN _ _ (by have := Nat.mod_lt i (show 0 < 64 by decide); omega)]
  have : Int.tmod ((ln e (i / 64) / 2 ^ (i % 64) : Nat) : Int) 2 = ((ln e (i / 64) / 2 ^ (i % 64) % 2 : Nat) : Int) := rfl
  rw [this, bit_limb, wI64 _ (by have := Nat.mod_lt (e / 2 ^ i) (show 0 < 2 by decide); unfold bitN; omega)]
def bitTab (u : Nat) : Nat := (strC0.getD u 0).toNat
theorem tab_all : ((List.range 256).all fun u => decide (u < 2 ^ bitTab u ∧ bitTab u ≤ 8)) = true := by decide +kernel
theorem tab_spec {u : Nat} (h : u < 256) : u < 2 ^ bitTab u ∧ bitTab u ≤ 8 := by
 have := List.all_eq_true.1 tab_all u (by simpa using h)
 simpa using this
theorem strC0_len : strC0.length = 256 := by decide +kernel
theorem len_leaf {u b : Nat} (hu : u < 256) (hb : b ≤ 56) :
  (bif decide (0 ≤ (IntKind.wrap .u8 (u : Int))) then
   bif Nat.blt (Int.toNat (IntKind.wrap .u8 (u : Int))) strC0.length then
    some (IntKind.wrap .i64 ((b : Int) + (IntKind.wrap .i64 (((List.getD strC0 (Int.toNat (IntKind.wrap .u8 (u : Int))) 0).toNat : Nat) : Int))))
   else none
  else none) = some ((b + bitTab u : Nat) : Int) := by
 rw [wU8 u hu]
 have ht := tab_spec hu
 refine guard_step (by simp) (guard_step ?_ ?_)
 ·rw [strC0_len]; simpa using hu
 ·simp only [Int.toNat_natCast]
  have e : ((strC0.getD u 0).toNat : Nat) = bitTab u := rfl
  rw [e, wI64 _ (by omega)]
  have : ((b : Int) + (bitTab u : Int)) = ((b + bitTab u : Nat) : Int) := by omega
  rw [this, wI64 _ (by omega)]
theorem lt_of_div {v s n : Nat} (h : v / 2 ^ s < 2 ^ n) : v < 2 ^ (s + n) := by
 rw [Nat.pow_add]
 have := (Nat.div_lt_iff_lt_mul (Nat.two_pow_pos s)).1 h
 rw [Nat.mul_comm]; exact this
theorem bitsLen64_val {v : Nat} (hv : v < 18446744073709551616) : ∃ n : Nat, bitsLen64 (v : Int) = some (n : Int) ∧ n ≤ 64 ∧ v < 2 ^ n := by
 rw [bitsLen64_eq]
 have fin : ∀ s : Nat, s ≤ 56 → v / 2 ^ s < 256 → ∀ X : Option Int, X = some ((s + bitTab (v / 2 ^ s) : Nat) : Int) → ∃ n : Nat, X = some (n : Int) ∧ n ≤ 64 ∧ v < 2 ^ n := fun s hs hu X hX =>
  ⟨_, hX, by have := (tab_spec hu).2; omega, lt_of_div (tab_spec hu).1⟩
 have s32 : shrI .u64 (v : Int) 32 = ((v / 2 ^ 32 : Nat) : Int) := shrN v 32 (by omega)
 have s16 : shrI .u64 (v : Int) 16 = ((v / 2 ^ 16 : Nat) : Int) := shrN v 16 (by omega)
 have s8 : shrI .u64 (v : Int) 8 = ((v / 2 ^ 8 : Nat) : Int) := shrN v 8 (by omega)
 have s3216 : shrI .u64 ((v / 2 ^ 32 : Nat) : Int) 16 = ((v / 2 ^ 48 : Nat) : Int) := by rw [show (16 : Int) = ((16 : Nat) : Int) from rfl, shrN _ 16 (by omega), Nat.div_div_eq_div_mul]
 have s328 : shrI .u64 ((v / 2 ^ 32 : Nat) : Int) 8 = ((v / 2 ^ 40 : Nat) : Int) := by rw [show (8 : Int) = ((8 : Nat) : Int) from rfl, shrN _ 8 (by omega), Nat.div_div_eq_div_mul]
 have s488 : shrI .u64 ((v / 2 ^ 48 : Nat) : Int) 8 = ((v / 2 ^ 56 : Nat) : Int) := by rw [show (8 : Int) = ((8 : Nat) : Int) from rfl, shrN _ 8 (by omega), Nat.div_div_eq_div_mul]
 have s168 : shrI .u64 ((v / 2 ^ 16 : Nat) : Int) 8 = ((v / 2 ^ 24 : Nat) : Int) := by rw [show (8 : Int) = ((8 : Nat) : Int) from rfl, shrN _ 8 (by omega), Nat.div_div_eq_div_mul]
 unfold bitsLen64B
 rw [s32, s3216, s488, s328, s16, s168, s8]
 by_cases h32 : 4294967296 ≤ v
 ·by_cases h48 : 65536 ≤ v / 2 ^ 32
  ·by_cases h56 : 256 ≤ v / 2 ^ 48
   ·exact fin 56 (by omega) (by omega) _ (guard_step (by simp; omega) (guard_step (by simp; omega) (guard_step (by simp; omega) (len_leaf (u := v / 2 ^ 56) (b := 56) (by omega) (by omega)))))
   ·exact fin 48 (by omega) (by omega) _ (guard_step (by simp; omega) (guard_step (by simp; omega) (guard_else (by simp; omega) (len_leaf (u := v / 2 ^ 48) (b := 48) (by omega) (by omega)))))
  ·by_cases h40 : 256 ≤ v / 2 ^ 32
   ·exact fin 40 (by omega) (by omega) _ (guard_step (by simp; omega) (guard_else (by simp; omega) (guard_step (by simp; omega) (len_leaf (u := v / 2 ^ 40) (b := 40) (by omega) (by omega)))))
   ·exact fin 32 (by omega) (by omega) _ (guard_step (by simp; omega) (guard_else (by simp; omega) (guard_else (by simp; omega) (len_leaf (u := v / 2 ^ 32) (b := 32) (by omega) (by omega)))))
 ·by_cases h16 : 65536 ≤ v
  ·by_cases h24 : 256 ≤ v / 2 ^ 16
   ·exact fin 24 (by omega) (by omega) _ (guard_else (by simp; omega) (guard_step (by simp; omega) (guard_step (by simp; omega) (len_leaf (u := v / 2 ^ 24) (b := 24) (by omega) (by omega)))))
   ·exact fin 16 (by omega) (by omega) _ (guard_else (by simp; omega) (guard_step (by simp; omega) (guard_else (by simp; omega) (len_leaf (u := v / 2 ^ 16) (b := 16) (by omega) (by omega)))))
  ·by_cases h8 : 256 ≤ v
   ·exact fin 8 (by omega) (by omega) _ (guard_else (by simp; omega) (guard_else (by simp; omega) (guard_step (by simp; omega) (len_leaf (u := v / 2 ^ 8) (b := 8) (by omega) (by omega)))))
   ·exact fin 0 (by omega) (by simp; omega) _ (guard_else (by simp; omega) (guard_else (by simp; omega) (guard_else (by simp; omega) (by
     have := len_leaf (u := v) (b := 0) (by omega) (by omega)
     simpa using this))))
end Go.Sy
set_option linter.unusedVariables false
set_option linter.unusedSimpArgs false
namespace Go.Sy
open Go
theorem lenEnd (e : Nat) : u256LenL0R (((0 : Nat) : Int) - 1) e = some (.inr (.inr ())) := by
 unfold u256LenL0R
 exact guard_else (by decide) rfl
theorem lenNext {e i : Nat} (hi4 : i < 4) (hz : ln e i = 0) : u256LenL0R (i : Int) e = some (.inl ((i : Int) - 1, e)) := by
 have hb : Nat.blt (Int.toNat (i : Int)) 4 = true := by simp only [Int.toNat_natCast]; simpa using hi4
 unfold u256LenL0R
 refine guard_step (by simp) (guard_step (by simp) (guard_step hb (guard_step hb (guard_else ?_ ?_))))
 ·simp only [Int.toNat_natCast, limb_ln, hz]; rfl
 ·rw [wI64z _ (by omega) (by omega)]
theorem lenFound {e i m : Nat} (hi4 : i < 4) (hz : ln e i ≠ 0) (hm : m ≤ 64) (h1 : bitsLen64 (ln e i : Int) = some (m : Int)) : u256LenL0R (i : Int) e = some (.inr (.inl ((64 * i + m : Nat) : Int))) := by
 have hb : Nat.blt (Int.toNat (i : Int)) 4 = true := by simp only [Int.toNat_natCast]; simpa using hi4
 unfold u256LenL0R
 refine guard_step (by simp) (guard_step (by simp) (guard_step hb (guard_step hb (guard_step ?_ (guard_step (by simp) (guard_step hb (guard_step hb (bind_step (a := (m : Int)) ?_ ?_))))))))
 ·simp only [Int.toNat_natCast, limb_ln]
  have : ((ln e i : Nat) : Int) ≠ 0 := by omega
  simpa using this
 ·simp only [Int.toNat_natCast, limb_ln]; exact h1
 ·have e1 : ((64 : Int) * (i : Int)) = ((64 * i : Nat) : Int) := by omega
  rw [e1, wI64 _ (by omega)]
  have e2 : (((64 * i : Nat) : Int) + (m : Int)) = ((64 * i + m : Nat) : Int) := by omega
  rw [e2, wI64 _ (by omega)]
theorem top_limb {e i : Nat} (he : e < 2 ^ (64 * (i + 1))) : e / 2 ^ (64 * i) < 18446744073709551616 := by
 rw [Nat.div_lt_iff_lt_mul (Nat.two_pow_pos _), ← pow64]; exact he
theorem lenLoop {e : Nat} (i : Nat) : ∀ (n : Nat), i ≤ 4 → i < n → e < 2 ^ (64 * i) → ∃ q, iter (fun p : Int × Nat => u256LenL0R p.1 p.2) n ((i : Int) - 1, e) = some q ∧ ((∃ m : Nat, q = .inl (m : Int) ∧ m ≤ 256 ∧ e < 2 ^ m) ∨ (q = .inr () ∧ e = 0)) := by
 induction i with
 | zero =>
  intro n _ hn he
  obtain ⟨n, rfl⟩ : ∃ k, n = k + 1 := ⟨n - 1, by omega⟩
  exact ⟨.inr (), iter_end (lenEnd e), .inr ⟨rfl, by simpa using he⟩⟩
 | succ i ih =>
  intro n hi hn he
  obtain ⟨n, rfl⟩ : ∃ k, n = k + 1 := ⟨n - 1, by omega⟩
  have e0 : (((i + 1 : Nat) : Int) - 1) = (i : Int) := by omega
  rw [e0]
  have ht := top_limb he
  by_cases hz : ln e i = 0
  ·have hlt : e < 2 ^ (64 * i) := by
    have hz' := hz
    unfold ln at hz'
    rw [Nat.mod_eq_of_lt ht] at hz'
    exact Nat.lt_of_div_eq_zero (Nat.two_pow_pos _) hz'
   obtain ⟨q, h1, h2⟩ := ih n (by omega) (by omega) hlt
   exact ⟨q, iter_more (lenNext (by omega) hz) h1, h2⟩
  ·obtain ⟨m, h1, h2, h3⟩ := bitsLen64_val (ln_lt e i)
   refine ⟨.inl ((64 * i + m : Nat) : Int), iter_end (lenFound (by omega) hz h2 h1), .inl ⟨64 * i + m, rfl, by omega, lt_of_div ?_⟩⟩
   unfold ln at h3
   rwa [Nat.mod_eq_of_lt ht] at h3
theorem u256Len_val {e : Nat} (he : e < M256) : ∃ m : Nat, u256Len e = some (m : Int) ∧ m ≤ 256 ∧ e < 2 ^ m := by
 obtain ⟨q, h1, h2⟩ := lenLoop (e := e) 4 1000 (by omega) (by omega) he
 have h3 : u256LenL0 3 e = some q := (u256LenL0_eq _ _).trans h1
 rw [u256Len_eq]
 unfold u256LenB
 rcases h2 with ⟨m, rfl, hm, hl⟩ | ⟨rfl, h0⟩
 ·exact ⟨m, bind_step h3 rfl, hm, hl⟩
 ·exact ⟨0, bind_step h3 rfl, by omega, by simp [h0]⟩
theorem rlenEnd (e : Nat) : ref01LenL0R (((0 : Nat) : Int) - 1) e = some (.inr (.inr ())) := by
 unfold ref01LenL0R
 exact guard_else (by decide) rfl
theorem rlenNext {e i : Nat} (hi : i < 256) (hz : bitN e i = 0) : ref01LenL0R (i : Int) e = some (.inl ((i : Int) - 1, e)) := by
 unfold ref01LenL0R
 refine guard_step (by simp) (bind_step (ref01Bit_val hi) (guard_else (by rw [hz]; rfl) ?_))
 rw [wI64z _ (by omega) (by omega)]
theorem rlenFound {e i : Nat} (hi : i < 256) (hz : bitN e i = 1) : ref01LenL0R (i : Int) e = some (.inr (.inl ((i + 1 : Nat) : Int))) := by
 unfold ref01LenL0R
 refine guard_step (by simp) (bind_step (ref01Bit_val hi) (guard_step (by rw [hz]; rfl) ?_))
 rw [wI64z _ (by omega) (by omega)]
 rfl
theorem bit01 (e i : Nat) : bitN e i = 0 ∨ bitN e i = 1 := by unfold bitN; omega
theorem rlenLoop {e : Nat} (i : Nat) : ∀ (n : Nat), i ≤ 256 → i < n → e < 2 ^ i → ∃ q, iter (fun p : Int × Nat => ref01LenL0R p.1 p.2) n ((i : Int) - 1, e) = some q ∧ ((∃ m : Nat, q = .inl (m : Int) ∧ m ≤ 256 ∧ e < 2 ^ m) ∨ (q = .inr () ∧ e = 0)) := by
 induction i with
 | zero =>
  intro n _ hn he
  obtain ⟨n, rfl⟩ : ∃ k, n = k + 1 := ⟨n - 1, by omega⟩
  exact ⟨.inr (), iter_end (rlenEnd e), .inr ⟨rfl, by simpa using he⟩⟩
 | succ i ih =>
  intro n hi hn he
  obtain ⟨n, rfl⟩ : ∃ k, n = k + 1 := ⟨n - 1, by omega⟩
  have e0 : (((i + 1 : Nat) : Int) - 1) = (i : Int) := by omega
  rw [e0]
  rcases bit01 e i with hz | hz
  ·have hlt : e < 2 ^ i := by
    have h1 : e / 2 ^ i < 2 := by
     rw [Nat.div_lt_iff_lt_mul (Nat.two_pow_pos _), Nat.mul_comm, ← Nat.pow_succ]; exact he
    unfold bitN at hz
    rw [Nat.mod_eq_of_lt h1] at hz
    exact Nat.lt_of_div_eq_zero (Nat.two_pow_pos _) hz
   obtain ⟨q, h1, h2⟩ := ih n (by omega) (by omega) hlt
   exact ⟨q, iter_more (rlenNext (by omega) hz) h1, h2⟩
  ·exact ⟨.inl ((i + 1 : Nat) : Int), iter_end (rlenFound (by omega) hz), .inl ⟨i + 1, rfl, hi, he⟩⟩
theorem ref01Len_val {e : Nat} (he : e < M256) : ∃ m : Nat, ref01Len e = some (m : Int) ∧ m ≤ 256 ∧ e < 2 ^ m := by
 obtain ⟨q, h1, h2⟩ := rlenLoop (e := e) 256 1000 (by omega) (by omega) he
 have h3 : ref01LenL0 255 e = some q := (ref01LenL0_eq _ _).trans h1
 rw [ref01Len_eq]
 unfold ref01LenB
 rcases h2 with ⟨m, rfl, hm, hl⟩ | ⟨rfl, h0⟩
 ·exact ⟨m, bind_step h3 rfl, hm, hl⟩
 ·exact ⟨0, bind_step h3 rfl, by omega, by simp [h0]⟩
theorem bit_split (e n : Nat) : e / 2 ^ n = 2 * (e / 2 ^ (n + 1)) + bitN e n := by
 unfold bitN
 rw [Nat.pow_succ, ← Nat.div_div_eq_div_mul]
 omega
theorem pow_step0 {x e n m : Nat} (h : bitN e n = 0) : (x ^ (e / 2 ^ (n + 1)) % m) * (x ^ (e / 2 ^ (n + 1)) % m) % m = x ^ (e / 2 ^ n) % m := by
 have e1 : e / 2 ^ n = e / 2 ^ (n + 1) + e / 2 ^ (n + 1) := by have := bit_split e n; omega
 rw [← Nat.mul_mod, ← Nat.pow_add, ← e1]
theorem pow_step1 {x e n m : Nat} (h : bitN e n = 1) : ((x ^ (e / 2 ^ (n + 1)) % m) * (x ^ (e / 2 ^ (n + 1)) % m) % m) * x % m = x ^ (e / 2 ^ n) % m := by
 rw [← Nat.mul_mod, ← Nat.pow_add, Nat.mod_mul_mod, ← Nat.pow_succ, bit_split e n, h, Nat.two_mul]
theorem expLoop (k : Int) {x e b6 : Nat} (hx : x < M256) (n : Nat) : ∀ (fuel z : Nat), n < fuel → n ≤ 256 → z = x ^ (e / 2 ^ n) % modK k →
  iter (fun p : Int × (Nat × Nat) × Nat × Nat × Nat × Nat => fieldModulusExpL0R p.1 p.2.1 p.2.2.1 p.2.2.2.1 p.2.2.2.2.1 p.2.2.2.2.2) fuel ((n : Int) - 1, (modK k, restK k), x, e, b6, z) = some (b6, x ^ e % modK k) := by
 induction n with
 | zero =>
  intro fuel z hf _ hz
  obtain ⟨fuel, rfl⟩ : ∃ q, fuel = q + 1 := ⟨fuel - 1, by omega⟩
  refine iter_end ?_
  show fieldModulusExpL0R (((0 : Nat) : Int) - 1) (modK k, restK k) x e b6 z = _
  unfold fieldModulusExpL0R
  refine guard_else (by decide) ?_
  rw [hz]; simp
 | succ n ih =>
  intro fuel z hf hn hz
  obtain ⟨fuel, rfl⟩ : ∃ q, fuel = q + 1 := ⟨fuel - 1, by omega⟩
  have e0 : (((n + 1 : Nat) : Int) - 1) = (n : Int) := by omega
  rw [e0]
  have hzl : z < M256 := by rw [hz]; exact mod_lt256 k _
  rcases bit01 e n with hb | hb
  ·refine iter_more (b := ((n : Int) - 1, (modK k, restK k), x, e, b6, z * z % modK k)) ?_ (ih fuel _ (by omega) (by omega) (by rw [hz]; exact pow_step0 hb))
   show fieldModulusExpL0R (n : Int) (modK k, restK k) x e b6 z = _
   unfold fieldModulusExpL0R
   refine guard_step (by simp) (bind_step (fMul_val k hzl hzl) (bind_step (u256Bit_val (by omega)) (guard_else (by rw [hb]; rfl) ?_)))
   rw [wI64z _ (by omega) (by omega)]
  ·refine iter_more (b := ((n : Int) - 1, (modK k, restK k), x, e, b6, z * z % modK k * x % modK k)) ?_ (ih fuel _ (by omega) (by omega) (by rw [hz]; exact pow_step1 hb))
   show fieldModulusExpL0R (n : Int) (modK k, restK k) x e b6 z = _
   unfold fieldModulusExpL0R
   refine guard_step (by simp) (bind_step (fMul_val k hzl hzl) (bind_step (u256Bit_val (by omega)) (guard_step (by rw [hb]; rfl) (bind_step (fMul_val k (mod_lt256 k _) hx) ?_))))
   rw [wI64z _ (by omega) (by omega)]
theorem fExp_val (k : Int) {x e : Nat} (hx : x < M256) (he : e < M256) : fieldModulusExp (modK k, restK k) x e = some (x ^ e % modK k) := by
 obtain ⟨m, h1, h2, h3⟩ := u256Len_val he
 rw [fieldModulusExp_eq]
 unfold fieldModulusExpB
 refine bind_step (u256From_val (c := 1) (by omega)) (bind_step (fOne_val k (by decide)) (bind_step h1 ?_))
 rw [wI64z _ (by omega) (by omega)]
 refine bind_step ((fieldModulusExpL0_eq _ _ _ _ _ _).trans (expLoop k hx m 1000 _ (by omega) h2 ?_)) rfl
 rw [Nat.div_eq_of_lt h3, Nat.pow_zero]
theorem powLoop (k : Int) {x e b6 : Nat} (hx : x < M256) (n : Nat) : ∀ (fuel z : Nat), n < fuel → n ≤ 256 → z = x ^ (e / 2 ^ n) % modK k →
  iter (fun p : Int × Int × Nat × Nat × Nat × Nat => ref04IPowerL0R p.1 p.2.1 p.2.2.1 p.2.2.2.1 p.2.2.2.2.1 p.2.2.2.2.2) fuel (k, (n : Int) - 1, x, e, b6, z) = some (b6, x ^ e % modK k) := by
 induction n with
 | zero =>
  intro fuel z hf _ hz
  obtain ⟨fuel, rfl⟩ : ∃ q, fuel = q + 1 := ⟨fuel - 1, by omega⟩
  refine iter_end ?_
  show ref04IPowerL0R k (((0 : Nat) : Int) - 1) x e b6 z = _
  unfold ref04IPowerL0R
  refine guard_else (by decide) ?_
  rw [hz]; simp
 | succ n ih =>
  intro fuel z hf hn hz
  obtain ⟨fuel, rfl⟩ : ∃ q, fuel = q + 1 := ⟨fuel - 1, by omega⟩
  have e0 : (((n + 1 : Nat) : Int) - 1) = (n : Int) := by omega
  rw [e0]
  have hzl : z < M256 := by rw [hz]; exact mod_lt256 k _
  rcases bit01 e n with hb | hb
  ·refine iter_more (b := (k, (n : Int) - 1, x, e, b6, z * z % modK k)) ?_ (ih fuel _ (by omega) (by omega) (by rw [hz]; exact pow_step0 hb))
   show ref04IPowerL0R k (n : Int) x e b6 z = _
   unfold ref04IPowerL0R
   refine guard_step (by simp) (bind_step (rTimes_val k hzl hzl) (bind_step (ref01Bit_val (by omega)) (guard_else (by rw [hb]; rfl) ?_)))
   rw [wI64z _ (by omega) (by omega)]
  ·refine iter_more (b := (k, (n : Int) - 1, x, e, b6, z * z % modK k * x % modK k)) ?_ (ih fuel _ (by omega) (by omega) (by rw [hz]; exact pow_step1 hb))
   show ref04IPowerL0R k (n : Int) x e b6 z = _
   unfold ref04IPowerL0R
   refine guard_step (by simp) (bind_step (rTimes_val k hzl hzl) (bind_step (ref01Bit_val (by omega)) (guard_step (by rw [hb]; rfl) (bind_step (rTimes_val k (mod_lt256 k _) hx) ?_))))
   rw [wI64z _ (by omega) (by omega)]
theorem rPower_val (k : Int) {x e : Nat} (hx : x < M256) (he : e < M256) : ref04IPower k x e = some (x ^ e % modK k) := by
 obtain ⟨m, h1, h2, h3⟩ := ref01Len_val he
 rw [ref04IPower_eq]
 unfold ref04IPowerB
 refine bind_step (ref01From_val (c := 1) (by omega)) (bind_step h1 ?_)
 rw [wI64z _ (by omega) (by omega)]
 refine bind_step ((ref04IPowerL0_eq _ _ _ _ _ _).trans (powLoop k hx m 1000 _ (by omega) h2 ?_)) rfl
 rw [Nat.div_eq_of_lt h3, Nat.pow_zero, Nat.mod_eq_of_lt (one_lt_modK k)]
theorem less2 (k : Int) : 2 < modK k := by unfold modK; split <;> decide
theorem fInverse_val (k : Int) {x : Nat} (hx : x < M256) : fieldModulusInverse (modK k, restK k) x = some (x ^ (modK k - 2) % modK k) := by
 obtain ⟨r, o, h1, h2, h3, h4⟩ := u256Sub_val (modK_lt k) (show 2 < M256 by decide)
 have hm := less2 k
 have hr : r = modK k - 2 := by
  have : o = 0 ∨ o = 1 := by omega
  rcases this with rfl | rfl
  ·omega
  ·have := modK_lt k; omega
 subst hr
 rw [fieldModulusInverse_eq]
 unfold fieldModulusInverseB
 exact bind_step (u256From_val (c := 2) (by omega)) (bind_step h1 (bind_step (fExp_val k hx h2) rfl))
def invK (k : Int) (x : Nat) : Nat × Int := if k = 0 ∨ k = 1 then (if x % modK k = 0 then (0, 40) else (x ^ (modK k - 2) % modK k, 0)) else (0, 1)
theorem u256eq0 {v : Nat} (hv : v < M256) : u256eq v 0 = decide (v = 0) := u256eq_val hv (by decide)
theorem fieldInverse_val (k : Int) {x : Nat} (hx : x < M256) : fieldInverse k x = some (invK k x) := by
 rw [fieldInverse_eq]
 unfold fieldInverseB invK
 by_cases h : k = 0 ∨ k = 1
 ·rw [if_pos h]
  refine bind_step (fieldIOf_good h) (guard_else rfl (bind_step (fOne_val k hx) ?_))
  by_cases h0 : x % modK k = 0
  ·rw [if_pos h0]; exact guard_step (by rw [u256eq0 (mod_lt256 k _)]; simp [h0]) rfl
  ·rw [if_neg h0]; exact guard_else (by rw [u256eq0 (mod_lt256 k _)]; simp [h0]) (bind_step (fInverse_val k hx) rfl)
 ·rw [if_neg h]; exact bind_step (fieldIOf_bad h) (guard_step rfl rfl)
theorem ref04Inverse_val (k : Int) {x : Nat} (hx : x < M256) : ref04Inverse k x = some (invK k x) := by
 rw [ref04Inverse_eq]
 unfold ref04InverseB invK
 refine bind_step (ref04IGood_val k) ?_
 by_cases h : k = 0 ∨ k = 1
 ·rw [if_pos h]
  refine guard_else (by simp [h]) (bind_step (rBelow_val k hx) ?_)
  by_cases h0 : x % modK k = 0
  ·rw [if_pos h0]; exact guard_step (by rw [u256eq0 (mod_lt256 k _)]; simp [h0]) rfl
  ·rw [if_neg h0]
   obtain ⟨r, o, h1, h2, h3, h4⟩ := ref01Sub_val (modK_lt k) (show 2 < M256 by decide)
   have hm := less2 k
   have hr : r = modK k - 2 := by
    have : o = 0 ∨ o = 1 := by omega
    rcases this with rfl | rfl
    ·omega
    ·have := modK_lt k; omega
   subst hr
   exact guard_else (by rw [u256eq0 (mod_lt256 k _)]; simp [h0]) (bind_step (ref04IModulus_val k) (bind_step (ref01From_val (c := 2) (by omega)) (bind_step h1 (bind_step (rPower_val k hx h2) rfl))))
 ·rw [if_neg h]; exact guard_step (by simp [h]) rfl
end Go.Sy
set_option linter.unusedVariables false
set_option linter.unusedSimpArgs false
namespace Go.Sy
open Go
theorem ansK_good {k : Int} (h : k = 0 ∨ k = 1) (v : Nat) : ansK k v = (v, 0) := by unfold ansK; rw [if_pos h]
end Go.Sy
set_option linter.unusedVariables false
set_option linter.unusedSimpArgs false
namespace Go.Sy
open Go
theorem setLimb_over {z i a b : Nat} (hz : z < 2 ^ (64 * i)) (ha : a < 18446744073709551616) (hb : b < 18446744073709551616) : setLimb (setLimb z i (a : Int)) i (b : Int) = z + b * 2 ^ (64 * i) := by
 obtain ⟨h1, _⟩ := setLimb_new' hz ha
 rw [h1]
 unfold setLimb
 have e1 : (z + a * 2 ^ (64 * i)) / 2 ^ (64 * i) = a := by
  rw [Nat.add_mul_div_right _ _ (Nat.two_pow_pos _), Nat.div_eq_of_lt hz, Nat.zero_add]
 have e2 : ((b : Int) % 18446744073709551616).toNat = b := by omega
 rw [e1, e2, Nat.mod_eq_of_lt ha]
 omega
theorem orN {a b : Nat} (ha : a < 18446744073709551616) (hb : b < 18446744073709551616) : orI .u64 (a : Int) (b : Int) = ((a ||| b : Nat) : Int) := by
 have e : ∀ n : Nat, n < 18446744073709551616 → (BitVec.ofInt (IntKind.u64).bits (n : Int)).toNat = n := fun n hn => by
  rw [BitVec.toNat_ofInt]
  have : ((2 ^ (IntKind.u64).bits : Nat) : Int) = 18446744073709551616 := rfl
  rw [this]; omega
 simp only [orI_eq, BitVec.toNat_or, e a ha, e b hb]
 rw [wrap64, Nat.mod_eq_of_lt (Nat.or_lt_two_pow (n := 64) ha hb)]
theorem shlN (n s : Nat) (h : s ≤ 64) : shlI .u64 (n : Int) (s : Int) = ((n * 2 ^ s % 18446744073709551616 : Nat) : Int) := by
 have e : min (s : Int).toNat (IntKind.u64).bits = s := by
  have : (IntKind.u64).bits = 64 := rfl
  rw [this]; simp; omega
 simp only [shlI, e]
 have : ((n : Int) * (2 : Int) ^ s) = ((n * 2 ^ s : Nat) : Int) := by simp
 rw [this, wrap64]
theorem limb_shr {a b r : Nat} (ha : a < 18446744073709551616) (hr : r < 64) (hr0 : 0 < r) : (a / 2 ^ r) ||| (b * 2 ^ (64 - r) % 18446744073709551616) = (a + 18446744073709551616 * b) / 2 ^ r % 18446744073709551616 := by
 have h64 : (18446744073709551616 : Nat) = 2 ^ (64 - r) * 2 ^ r := by rw [← Nat.pow_add]; (have : 64 - r + r = 64 := by omega); rw [this]
 have hlt : a / 2 ^ r < 2 ^ (64 - r) := by
  rw [Nat.div_lt_iff_lt_mul (Nat.two_pow_pos r), ← h64]; exact ha
 have e1 : b * 2 ^ (64 - r) % 18446744073709551616 = 2 ^ (64 - r) * (b % 2 ^ r) := by
  rw [h64, Nat.mul_comm b, Nat.mul_mod_mul_left]
 have e2 : (a + 18446744073709551616 * b) / 2 ^ r = a / 2 ^ r + 2 ^ (64 - r) * b := by
  rw [h64, Nat.mul_right_comm, Nat.add_mul_div_right _ _ (Nat.two_pow_pos r)]
 rw [e1, Nat.or_comm, ← Nat.two_pow_add_eq_or_of_lt hlt, e2]
 have hdb := Nat.div_add_mod b (2 ^ r)
 have e3 : a / 2 ^ r + 2 ^ (64 - r) * b = (2 ^ (64 - r) * (b % 2 ^ r) + a / 2 ^ r) + 18446744073709551616 * (b / 2 ^ r) := by
  rw [h64]
  have : 2 ^ (64 - r) * b = 2 ^ (64 - r) * 2 ^ r * (b / 2 ^ r) + 2 ^ (64 - r) * (b % 2 ^ r) := by
   rw [Nat.mul_assoc, ← Nat.mul_add, hdb]
  omega
 have hb := Nat.mod_lt b (Nat.two_pow_pos r)
 have hlt2 : 2 ^ (64 - r) * (b % 2 ^ r) + a / 2 ^ r < 18446744073709551616 := by
  rw [h64]
  calc 2 ^ (64 - r) * (b % 2 ^ r) + a / 2 ^ r < 2 ^ (64 - r) * (b % 2 ^ r) + 2 ^ (64 - r) := by omega
   _ = 2 ^ (64 - r) * (b % 2 ^ r + 1) := by rw [Nat.mul_add, Nat.mul_one]
   _ ≤ 2 ^ (64 - r) * 2 ^ r := Nat.mul_le_mul_left _ hb
 rw [e3, Nat.add_mul_mod_self_left, Nat.mod_eq_of_lt hlt2]
theorem ln_shr {x n i : Nat} : ln (x / 2 ^ n) i = (ln x (i + n / 64) + 18446744073709551616 * (x / 2 ^ (64 * (i + n / 64 + 1)))) / 2 ^ (n % 64) % 18446744073709551616 := by
 have e1 : x / 2 ^ n / 2 ^ (64 * i) = x / 2 ^ (64 * (i + n / 64)) / 2 ^ (n % 64) := by
  rw [Nat.div_div_eq_div_mul, Nat.div_div_eq_div_mul, ← Nat.pow_add, ← Nat.pow_add]
  congr 2
  omega
 have e2 : ln x (i + n / 64) + 18446744073709551616 * (x / 2 ^ (64 * (i + n / 64 + 1))) = x / 2 ^ (64 * (i + n / 64)) := by
  rw [pow64, Nat.mul_comm 18446744073709551616 (2 ^ _), ← Nat.div_div_eq_div_mul]
  exact Nat.mod_add_div _ _
 rw [e2]
 unfold ln
 rw [e1]
theorem shl_mod {x j s : Nat} : ln x j * 2 ^ s % 18446744073709551616 = x / 2 ^ (64 * j) * 2 ^ s % 18446744073709551616 := by
 unfold ln
 rw [Nat.mod_mul_mod]
theorem shrRound {x n i z : Nat} (hx : x < M256) (hn : n < 256) (hi : i + n / 64 < 4) (hz : z < 2 ^ (64 * i)) (b4 : Nat) :
  u256ShrL0R (n : Int) (i : Int) x b4 z = some (.inl ((n : Int), ((i : Int) + 1), x, b4, z + ln (x / 2 ^ n) i * 2 ^ (64 * i))) := by
 have hr : n % 64 < 64 := Nat.mod_lt _ (by decide)
 have hA : ln x (i + n / 64) / 2 ^ (n % 64) < 18446744073709551616 := Nat.lt_of_le_of_lt (Nat.div_le_self _ _) (ln_lt _ _)
 have w1 : IntKind.wrap .i64 ((i : Int) + ((n / 64 : Nat) : Int)) = ((i + n / 64 : Nat) : Int) := by rw [wI64z _ (by omega) (by omega)]; omega
 have w2 : IntKind.wrap .i64 ((4 : Int) - ((n / 64 : Nat) : Int)) = (4 : Int) - ((n / 64 : Nat) : Int) := wI64z _ (by omega) (by omega)
 have w3 : IntKind.wrap .i64 ((i : Int) + 1) = (i : Int) + 1 := wI64z _ (by omega) (by omega)
 have w4 : IntKind.wrap .i64 (((i + n / 64 : Nat) : Int) + 1) = ((i + n / 64 + 1 : Nat) : Int) := by rw [wI64z _ (by omega) (by omega)]; omega
 have w5 : IntKind.wrap .i64 ((64 : Int) - ((n % 64 : Nat) : Int)) = ((64 - n % 64 : Nat) : Int) := by rw [wI64z _ (by omega) (by omega)]; omega
 have hi4 : i < 4 := by omega
 have b0 : decide (0 ≤ (i : Int)) = true := by simp
 have b1 : Nat.blt (Int.toNat (i : Int)) 4 = true := by simp only [Int.toNat_natCast]; simpa using hi4
 have b2 : Nat.blt (Int.toNat ((i + n / 64 : Nat) : Int)) 4 = true := by simp only [Int.toNat_natCast]; simpa using hi
 have b3 : decide (((n % 64 : Nat) : Int) < 0) = false := by simp; omega
 have eA : shrI .u64 (limb x (Int.toNat ((i + n / 64 : Nat) : Int))) ((n % 64 : Nat) : Int) = ((ln x (i + n / 64) / 2 ^ (n % 64) : Nat) : Int) := by
  simp only [Int.toNat_natCast]; rw [limb_ln, shrN _ _ (by omega)]
 unfold u256ShrL0R
 rw [tdiv64 n hn, tmod64, w1, w2, w3, w4, w5, eA]
 refine guard_step (by simp; omega) (guard_step (by simp; omega) (guard_step b2 (guard_step b2 (guard_else b3 (guard_step b0 (guard_step b1 (guard_step b1 (guard_step (inU64_nat hA) ?_))))))))
 simp only [Int.toNat_natCast]
 have hset := (setLimb_new' hz hA).1
 by_cases h3 : i + n / 64 < 3
 ·refine guard_step (by simp; omega) ?_
  by_cases hr0 : 0 < n % 64
  ·have hB : ln x (i + n / 64 + 1) * 2 ^ (64 - n % 64) % 18446744073709551616 < 18446744073709551616 := Nat.mod_lt _ (by decide)
   have eB : shlI .u64 (limb x (i + n / 64 + 1)) ((64 - n % 64 : Nat) : Int) = ((ln x (i + n / 64 + 1) * 2 ^ (64 - n % 64) % 18446744073709551616 : Nat) : Int) := by rw [limb_ln, shlN _ _ (by omega)]
   have eL : limb (setLimb z i ((ln x (i + n / 64) / 2 ^ (n % 64) : Nat) : Int)) i = ((ln x (i + n / 64) / 2 ^ (n % 64) : Nat) : Int) := by
    rw [setLimb_limb (inU64_nat hA) hi4 hi4, if_pos rfl]
   have hor : (ln x (i + n / 64) / 2 ^ (n % 64)) ||| (ln x (i + n / 64 + 1) * 2 ^ (64 - n % 64) % 18446744073709551616) = ln (x / 2 ^ n) i := by
    rw [shl_mod, limb_shr (ln_lt _ _) hr hr0, ← ln_shr]
   have b5 : Nat.blt (i + n / 64 + 1) 4 = true := by simp; omega
   rw [eB, eL, orN hA hB, hor]
   refine guard_step (by simp; omega) (guard_step b0 (guard_step (by simpa using hi4) (guard_step (by simpa using hi4) (guard_step (by simp; omega) (guard_step b5 (guard_step b5 (guard_else (by simp) (guard_step b0 (guard_step (by simpa using hi4) (guard_step (by simpa using hi4) (guard_step (inU64_nat (ln_lt _ _)) ?_)))))))))))
   rw [setLimb_over hz hA (ln_lt _ _)]
  ·have hr1 : n % 64 = 0 := by omega
   refine guard_else (by simp; omega) ?_
   rw [hset, ln_shr, hr1]
   simp only [Nat.pow_zero, Nat.div_one]
   rw [Nat.add_mul_mod_self_left, Nat.mod_eq_of_lt (ln_lt _ _)]
 ·have h33 : i + n / 64 = 3 := by omega
  refine guard_else (by simp; omega) ?_
  rw [hset, ln_shr, h33]
  have : x / 2 ^ (64 * (3 + 1)) = 0 := Nat.div_eq_of_lt hx
  rw [this, Nat.mul_zero, Nat.add_zero, Nat.mod_eq_of_lt (Nat.lt_of_le_of_lt (Nat.div_le_self _ _) (ln_lt _ _))]
theorem shrLoop {x n : Nat} (hx : x < M256) (hn : n < 256) (b4 : Nat) (k : Nat) : ∀ (fuel i z : Nat), k < fuel → i + n / 64 + k = 4 → z = x / 2 ^ n % 2 ^ (64 * i) →
  iter (fun p : Int × Int × Nat × Nat × Nat => u256ShrL0R p.1 p.2.1 p.2.2.1 p.2.2.2.1 p.2.2.2.2) fuel ((n : Int), (i : Int), x, b4, z) = some (b4, x / 2 ^ n) := by
 induction k with
 | zero =>
  intro fuel i z hf hi hz
  obtain ⟨fuel, rfl⟩ : ∃ q, fuel = q + 1 := ⟨fuel - 1, by omega⟩
  refine iter_end ?_
  show u256ShrL0R (n : Int) (i : Int) x b4 z = _
  unfold u256ShrL0R
  have w2 : IntKind.wrap .i64 ((4 : Int) - ((n / 64 : Nat) : Int)) = (4 : Int) - ((n / 64 : Nat) : Int) := wI64z _ (by omega) (by omega)
  rw [tdiv64 n hn, w2]
  refine guard_else (by simp; omega) ?_
  have hlt : x / 2 ^ n < 2 ^ (64 * i) := by
   rw [Nat.div_lt_iff_lt_mul (Nat.two_pow_pos n), ← Nat.pow_add]
   exact Nat.lt_of_lt_of_le hx (show M256 ≤ 2 ^ (64 * i + n) from by
    have : M256 = 2 ^ 256 := by decide
    rw [this]; exact Nat.pow_le_pow_right (by decide) (by omega))
  rw [hz, Nat.mod_eq_of_lt hlt]
 | succ k ih =>
  intro fuel i z hf hi hz
  obtain ⟨fuel, rfl⟩ : ∃ q, fuel = q + 1 := ⟨fuel - 1, by omega⟩
  have hzl : z < 2 ^ (64 * i) := by rw [hz]; exact Nat.mod_lt _ (Nat.two_pow_pos _)
  refine iter_more (shrRound hx hn (by omega) hzl b4) ?_
  have e : ((i : Int) + 1) = ((i + 1 : Nat) : Int) := by omega
  rw [e]
  refine ih fuel (i + 1) _ (by omega) (by omega) ?_
  rw [hz, pow64, Nat.mul_comm 18446744073709551616, Nat.mod_mul, Nat.mul_comm (2 ^ (64 * i))]
  rfl
theorem u256Shr_val {x n : Nat} (hx : x < M256) (hn : n < 256) : u256Shr x (n : Int) = some (x / 2 ^ n) := by
 rw [u256Shr_eq]
 unfold u256ShrB
 refine guard_else (by simp; omega) (guard_else (by first | (simp; done) | (simp; omega)) (guard_else (by simp) (bind_step ((u256ShrL0_eq _ _ _ _ _).trans (shrLoop hx hn 0 (4 - n / 64) 1000 0 0 (by omega) (by omega) ?_)) rfl)))
 simp [Nat.mod_one]
end Go.Sy
set_option linter.unusedVariables false
set_option linter.unusedSimpArgs false
namespace Go.Sy
open Go
theorem u256Shr_n : u256Shr ordN 1 = some halfN := by
 have h : ordN / 2 ^ 1 = halfN := by decide
 rw [← h]; exact u256Shr_val (n := 1) ordN_lt (by omega)
end Go.Sy
set_option linter.unusedVariables false
set_option linter.unusedSimpArgs false
namespace Go.Sy
open Go
theorem invK_good {k : Int} (hk : k = 0 ∨ k = 1) {x : Nat} (h : x % modK k ≠ 0) : invK k x = (x ^ (modK k - 2) % modK k, 0) := by
 unfold invK; rw [if_pos hk, if_neg h]
end Go.Sy
set_option linter.unusedVariables false
set_option linter.unusedSimpArgs false
namespace Go.Sy
open Go
theorem prP_lt : prP < M256 := by decide
theorem mod_p_lt (n : Nat) : n % prP < M256 := mod_lt256 0 n
end Go.Sy
set_option linter.unusedVariables false
set_option linter.unusedSimpArgs false
namespace Go.Sy
open Go
theorem p_pos : 0 < prP := by decide
end Go.Sy
set_option linter.unusedVariables false
set_option linter.unusedSimpArgs false
namespace Go.Sy
open Go
theorem blt_of {a b : Nat} (h : a < b) : Nat.blt a b = true := by simpa using h
end Go.Sy
