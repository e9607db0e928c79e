/- Numbers and their bytes. -/
import Derived.Test.YtfappeeggccicaaDoorSyVT
import Derived.Test.YtfappeeggccicaaDoorSyMa3
set_option linter.unusedVariables false
set_option linter.unusedSimpArgs false
namespace Go.Sy
open Go
def bN (b : List Int) (j : Nat) : Nat := (b.getD j (0 : Int)).toNat
def Bytes (b : List Int) : Prop := ∀ j, 0 ≤ b.getD j (0 : Int) ∧ b.getD j (0 : Int) < 256
theorem bN_lt {b : List Int} (h : Bytes b) (j : Nat) : bN b j < 256 := by have := h j; unfold bN; omega
theorem bN_eq {b : List Int} (h : Bytes b) (j : Nat) : b.getD j (0 : Int) = (bN b j : Int) := by have := h j; unfold bN; omega
def valB (b : List Int) : Nat → Nat
 | 0 => 0
 | i + 1 => valB b i * 256 + bN b i
theorem setLimb_add {x q c : Nat} (h : ln x q + c < 18446744073709551616) : setLimb x q ((ln x q + c : Nat) : Int) = x + c * 2 ^ (64 * q) := by
 have e : (((ln x q + c : Nat) : Int) % 18446744073709551616).toNat = ln x q + c := by omega
 unfold setLimb
 rw [e]
 show x - ln x q * 2 ^ (64 * q) + (ln x q + c) * 2 ^ (64 * q) = _
 have h1 : ln x q * 2 ^ (64 * q) ≤ x := by
  have h2 : ln x q ≤ x / 2 ^ (64 * q) := Nat.mod_le _ _
  exact Nat.le_trans (Nat.mul_le_mul_right _ h2) (Nat.div_mul_le_self _ _)
 rw [Nat.add_mul]
 omega
theorem byte_or {x k b y : Nat} (hk : k < 32) (hx : x = 2 ^ (8 * (k + 1)) * y) (hb : b < 256) :
  ln x (k / 8) ||| b * 2 ^ (8 * (k % 8)) = ln x (k / 8) + b * 2 ^ (8 * (k % 8)) ∧ ln x (k / 8) + b * 2 ^ (8 * (k % 8)) < 18446744073709551616 ∧ b * 2 ^ (8 * (k % 8)) < 18446744073709551616 ∧ setLimb x (k / 8) ((ln x (k / 8) + b * 2 ^ (8 * (k % 8)) : Nat) : Int) = x + b * 2 ^ (8 * k) := by
 have hm := Nat.mod_lt k (show 0 < 8 by decide)
 generalize hs : 8 * (k % 8) = s at *
 have hs2 : s ≤ 56 := by omega
 have e1 : 8 * (k + 1) = 64 * (k / 8) + (s + 8) := by omega
 have e2 : (18446744073709551616 : Nat) = 2 ^ (s + 8) * 2 ^ (56 - s) := by rw [← Nat.pow_add, show s + 8 + (56 - s) = 64 by omega]
 have hl : ln x (k / 8) = 2 ^ (s + 8) * (y % 2 ^ (56 - s)) := by
  unfold ln
  rw [hx, e1, Nat.pow_add, Nat.mul_assoc, Nat.mul_div_cancel_left _ (Nat.two_pow_pos _), e2, Nat.mul_mod_mul_left]
 have hz : y % 2 ^ (56 - s) < 2 ^ (56 - s) := Nat.mod_lt _ (Nat.two_pow_pos _)
 have hc : b * 2 ^ s < 2 ^ (s + 8) := by
  rw [Nat.pow_add, Nat.mul_comm (2 ^ s)]
  exact Nat.mul_lt_mul_of_pos_right (by simpa using hb) (Nat.two_pow_pos _)
 have hsum : ln x (k / 8) + b * 2 ^ s < 18446744073709551616 := by
  rw [hl, e2]
  have h1 : 2 ^ (s + 8) * (y % 2 ^ (56 - s)) + 2 ^ (s + 8) ≤ 2 ^ (s + 8) * 2 ^ (56 - s) := by
   rw [← Nat.mul_succ]
   exact Nat.mul_le_mul_left _ hz
  omega
 refine ⟨?_, hsum, by omega, ?_⟩
 ·rw [hl]
  exact (Nat.two_pow_add_eq_or_of_lt hc _).symm
 ·rw [setLimb_add hsum, Nat.mul_assoc, ← Nat.pow_add, show s + 64 * (k / 8) = 8 * k by omega]
theorem val_step {b : List Int} {n i : Nat} (hi : i < n) : valB b i * 2 ^ (8 * (n - i)) + bN b i * 2 ^ (8 * (n - 1 - i)) = valB b (i + 1) * 2 ^ (8 * (n - (i + 1))) := by
 have e : 8 * (n - i) = 8 + 8 * (n - 1 - i) := by omega
 rw [e, Nat.pow_add, show n - (i + 1) = n - 1 - i by omega, ← Nat.mul_assoc, ← Nat.add_mul]
 rfl
theorem u256GetRound {b : List Int} (hb : Bytes b) (hn : b.length ≤ 32) {i x : Nat} (b2 : Nat) (hi : i < b.length) (hx : x = valB b i * 2 ^ (8 * (b.length - i))) :
  u256GetL0R b (b.length : Int) (i : Int) b2 x = some (.inl (b, (b.length : Int), ((i + 1 : Nat) : Int), b2, valB b (i + 1) * 2 ^ (8 * (b.length - (i + 1))))) := by
 have hk : b.length - 1 - i < 32 := by omega
 have hm := Nat.mod_lt (b.length - 1 - i) (show 0 < 8 by decide)
 obtain ⟨g1, g2, g3, g4⟩ := byte_or (x := x) (k := b.length - 1 - i) (b := bN b i) (y := valB b i) hk (by rw [hx, Nat.mul_comm]; congr 2; omega) (bN_lt hb i)
 have w1 : IntKind.wrap .i64 (((b.length : Nat) : Int) - (1 : Int)) = (b.length : Int) - 1 := wI64z _ (by omega) (by omega)
 have w2 : IntKind.wrap .i64 (((b.length : Nat) : Int) - 1 - (i : Int)) = ((b.length - 1 - i : Nat) : Int) := by rw [wI64z _ (by omega) (by omega)]; omega
 have vs := val_step (b := b) hi
 generalize hkk : b.length - 1 - i = k at *
 have w3 : IntKind.wrap .i64 (Int.tdiv (k : Int) (8 : Int)) = ((k / 8 : Nat) : Int) := by
  have : Int.tdiv (k : Int) (8 : Int) = ((k / 8 : Nat) : Int) := rfl
  rw [this, wI64 _ (by omega)]
 have w4 : IntKind.wrap .i64 ((8 : Int) * (Int.tmod (k : Int) (8 : Int))) = ((8 * (k % 8) : Nat) : Int) := by
  have : Int.tmod (k : Int) (8 : Int) = ((k % 8 : Nat) : Int) := rfl
  rw [this]
  have e : (8 : Int) * ((k % 8 : Nat) : Int) = ((8 * (k % 8) : Nat) : Int) := by omega
  rw [e, wI64 _ (by omega)]
 have t1 : Int.toNat ((k / 8 : Nat) : Int) = k / 8 := rfl
 have t2 : Int.toNat (i : Int) = i := rfl
 have hb1 := bN_lt hb i
 unfold u256GetL0R
 rw [w1, w2, w3, w4, t1, t2, bN_eq hb i, wu64 _ (by omega), shlN _ _ (by omega), Nat.mod_eq_of_lt g3, limb_ln, orN (ln_lt _ _) g3, g1]
 have hq : Nat.blt (k / 8) 4 = true := blt_of (by omega)
 refine guard_step (decide_eq_true (by omega)) (guard_step (by simp; omega) (guard_step hq (guard_step hq (guard_step (by simp) (guard_step (blt_of hi) (guard_else (by simp; omega) (guard_step (by simp; omega) (guard_step hq (guard_step hq (guard_step (inU64_nat g2) ?_))))))))))
 rw [g4, hx, vs, wI64z _ (by omega) (by omega)]; rfl
theorem u256GetLoop {b : List Int} (hb : Bytes b) (hn : b.length ≤ 32) (b2 : Nat) : ∀ (r i fuel x : Nat), i + r = b.length → r < fuel → x = valB b i * 2 ^ (8 * (b.length - i)) →
  iter (fun p : List Int × Int × Int × Nat × Nat => u256GetL0R p.1 p.2.1 p.2.2.1 p.2.2.2.1 p.2.2.2.2) fuel (b, (b.length : Int), (i : Int), b2, x) = some (b2, valB b b.length)
 | 0, i, fuel, x, hi, hf, hx => by
  obtain ⟨fuel, rfl⟩ : ∃ n, fuel = n + 1 := ⟨fuel - 1, by omega⟩
  have : i = b.length := by omega
  subst this
  refine iter_end ?_
  show u256GetL0R b (b.length : Int) (b.length : Int) b2 x = _
  unfold u256GetL0R
  refine guard_else (decide_eq_false (by omega)) ?_
  rw [hx]; simp
 | r + 1, i, fuel, x, hi, hf, hx => by
  obtain ⟨fuel, rfl⟩ : ∃ n, fuel = n + 1 := ⟨fuel - 1, by omega⟩
  exact iter_more (u256GetRound hb hn b2 (by omega) hx) (u256GetLoop hb hn b2 r (i + 1) fuel _ (by omega) (by omega) rfl)
def getV (b : List Int) : Nat × Int := if 32 < b.length then (0, 11) else (valB b b.length, 0)
theorem u256Get_val {b : List Int} (hb : Bytes b) : u256Get b = some (getV b) := by
 rw [u256Get_eq]
 unfold u256GetB getV
 by_cases h : 32 < b.length
 ·rw [if_pos h]; exact guard_step (decide_eq_true (by omega)) rfl
 ·rw [if_neg h]
  refine guard_else (decide_eq_false (by omega)) (bind_step ((u256GetL0_eq _ _ _ _ _).trans (u256GetLoop hb (by omega) 0 b.length 0 1000 0 (by omega) (by omega) ?_)) rfl)
  simp [valB]
theorem valB_lt {b : List Int} (hb : Bytes b) : ∀ i, valB b i < 256 ^ i
 | 0 => by simp [valB]
 | i + 1 => by
  have := valB_lt hb i
  have := bN_lt hb i
  simp only [valB, Nat.pow_succ]
  omega
def byteN (x i : Nat) : Nat := x / 2 ^ (8 * i) % 256
theorem byte_limb (x i : Nat) : ln x (i / 8) / 2 ^ (8 * (i % 8)) % 256 = byteN x i := by
 unfold ln byteN
 have hi := Nat.mod_lt i (show 0 < 8 by decide)
 have h : (18446744073709551616 : Nat) = 2 ^ (8 * (i % 8)) * 2 ^ (64 - 8 * (i % 8)) := by
  rw [← Nat.pow_add]
  have : 8 * (i % 8) + (64 - 8 * (i % 8)) = 64 := by omega
  rw [this]
 rw [h, Nat.mod_mul_right_div_self, Nat.div_div_eq_div_mul, ← Nat.pow_add]
 have e1 : 64 * (i / 8) + 8 * (i % 8) = 8 * i := by omega
 rw [e1]
 have h2 : 2 ^ (64 - 8 * (i % 8)) = 256 * 2 ^ (56 - 8 * (i % 8)) := by
  have : 64 - 8 * (i % 8) = (56 - 8 * (i % 8)) + 8 := by omega
  rw [this, Nat.pow_add, Nat.mul_comm]
 rw [h2, Nat.mod_mul_right_mod]
theorem wU8m (n : Nat) : IntKind.wrap .u8 (n : Int) = ((n % 256 : Nat) : Int) := by
 have h1 : (IntKind.u8).signed = false := rfl
 have h2 : (2 : Int) ^ (IntKind.u8).bits = 256 := rfl
 simp only [IntKind.wrap, h1, h2, Bool.false_and, Bool.false_eq_true, if_false]
 omega
theorem getD_setI {b : List Int} {i j : Nat} {a : Int} : (b.set i a).getD j (0 : Int) = if i = j then (if i < b.length then a else 0) else b.getD j (0 : Int) := by
 simp only [List.getD_eq_getElem?_getD, List.getElem?_set]
 split
 ·subst_vars
  split <;> simp
 ·rfl
theorem ext_getDI {a b : List Int} (h : a.length = b.length) (g : ∀ j, j < a.length → a.getD j (0 : Int) = b.getD j (0 : Int)) : a = b := by
 refine List.ext_getElem h fun i h1 h2 => ?_
 have := g i h1
 simpa [List.getD_eq_getElem?_getD, h1, h2] using this
def put32 (x : Nat) : List Int := (List.range 32).map fun j => ((byteN x (31 - j) : Nat) : Int)
theorem put32_length (x : Nat) : (put32 x).length = 32 := by simp [put32]
theorem put32_get (x : Nat) {j : Nat} (h : j < 32) : (put32 x).getD j (0 : Int) = ((byteN x (31 - j) : Nat) : Int) := by
 simp [put32, List.getD_eq_getElem?_getD, List.getElem?_range h]
theorem u256PutRound {x i : Nat} (hi : i < 32) (b2 b : List Int) :
  u256PutL0R (i : Int) x b2 b = some (.inl (((i + 1 : Nat) : Int), x, b2, b.set (31 - i) ((byteN x i : Nat) : Int))) := by
 have hm := Nat.mod_lt i (show 0 < 8 by decide)
 have w3 : IntKind.wrap .i64 (Int.tdiv (i : Int) (8 : Int)) = ((i / 8 : Nat) : Int) := by
  have : Int.tdiv (i : Int) (8 : Int) = ((i / 8 : Nat) : Int) := rfl
  rw [this, wI64 _ (by omega)]
 have w4 : IntKind.wrap .i64 ((8 : Int) * (Int.tmod (i : Int) (8 : Int))) = ((8 * (i % 8) : Nat) : Int) := by
  have : Int.tmod (i : Int) (8 : Int) = ((i % 8 : Nat) : Int) := rfl
  rw [this]
  have e : (8 : Int) * ((i % 8 : Nat) : Int) = ((8 * (i % 8) : Nat) : Int) := by omega
  rw [e, wI64 _ (by omega)]
 have w5 : IntKind.wrap .i64 ((31 : Int) - (i : Int)) = ((31 - i : Nat) : Int) := by rw [wI64z _ (by omega) (by omega)]; omega
 have t1 : Int.toNat ((i / 8 : Nat) : Int) = i / 8 := rfl
 have t2 : Int.toNat ((31 - i : Nat) : Int) = 31 - i := rfl
 unfold u256PutL0R
 rw [w3, w4, w5, t1, t2, limb_ln, shrN _ _ (by omega), wU8m, byte_limb]
 have hq : Nat.blt (i / 8) 4 = true := blt_of (by omega)
 have hq2 : Nat.blt (31 - i) 32 = true := blt_of (by omega)
 refine guard_step (decide_eq_true (by omega)) (guard_step (by simp; omega) (guard_step hq (guard_step hq (guard_else (by simp; omega) (guard_step (decide_eq_true (Int.natCast_nonneg _)) (guard_step hq2 (guard_step hq2 ?_)))))))
 rw [wI64z _ (by omega) (by omega)]; rfl
theorem put_all {x : Nat} {f : Int × Nat × List Int × List Int → Option ((Int × Nat × List Int × List Int) ⊕ (List Int × List Int))} (hr : ∀ (i : Nat) (b2 b : List Int), i < 32 → f ((i : Int), x, b2, b) = some (.inl (((i + 1 : Nat) : Int), x, b2, b.set (31 - i) ((byteN x i : Nat) : Int))))
  (he : ∀ b2 b : List Int, f (((32 : Nat) : Int), x, b2, b) = some (.inr (b2, b))) (b2 : List Int) : ∀ (r i fuel : Nat) (b : List Int), i + r = 32 → r < fuel → b.length = 32 → (∀ j, j < 32 → 31 - i < j → b.getD j (0 : Int) = ((byteN x (31 - j) : Nat) : Int)) → (i = 0 ∨ 0 < i) → (i = 32 → b.getD 0 (0 : Int) = ((byteN x 31 : Nat) : Int)) →
  iter f fuel ((i : Int), x, b2, b) = some (b2, put32 x)
 | 0, i, fuel, b, hi, hf, hb, h, _, h0 => by
  obtain ⟨fuel, rfl⟩ : ∃ n, fuel = n + 1 := ⟨fuel - 1, by omega⟩
  have : i = 32 := by omega
  subst this
  rw [iter_end (he b2 b)]
  have : b = put32 x := ext_getDI (by rw [hb, put32_length]) fun j hj => by
   rw [hb] at hj
   rw [put32_get x hj]
   rcases Nat.eq_zero_or_pos j with e | e
   ·subst e; exact h0 rfl
   ·exact h j hj (by omega)
  rw [this]
 | r + 1, i, fuel, b, hi, hf, hb, h, _, h0 => by
  obtain ⟨fuel, rfl⟩ : ∃ n, fuel = n + 1 := ⟨fuel - 1, by omega⟩
  refine iter_more (hr i b2 b (by omega)) (put_all hr he b2 r (i + 1) fuel _ (by omega) (by omega) (by simpa using hb) (fun j hj hj2 => ?_) (.inr (by omega)) (fun e => ?_))
  ·rw [getD_setI]
   by_cases e : 31 - i = j
   ·subst e; rw [if_pos rfl, if_pos (by omega), show 31 - (31 - i) = i by omega]
   ·rw [if_neg e]; exact h j hj (by omega)
  ·have : i = 31 := by omega
   subst this
   rw [getD_setI, if_pos rfl, if_pos (by omega)]
theorem u256Put_val (x : Nat) : u256Put x = some (put32 x) := by
 rw [u256Put_eq]
 unfold u256PutB
 refine bind_step ((u256PutL0_eq _ _ _ _).trans (put_all (fun i b2 b hi => u256PutRound hi b2 b) (fun b2 b => ?_) (List.replicate 32 (0 : Int)) 32 0 1000 (List.replicate 32 (0 : Int)) (by omega) (by omega) (by simp) (fun j hj hj2 => absurd hj2 (by omega)) (.inl rfl) (fun e => by omega))) rfl
 show u256PutL0R ((32 : Nat) : Int) x b2 b = _
 unfold u256PutL0R
 exact guard_else (by decide) rfl
theorem val_div {b : List Int} (hb : Bytes b) : ∀ k i, valB b (i + k) / 2 ^ (8 * k) = valB b i
 | 0, i => by simp
 | k + 1, i => by
  rw [show 8 * (k + 1) = 8 * k + 8 by omega, Nat.pow_add, Nat.mul_comm, ← Nat.div_div_eq_div_mul]
  have : valB b (i + (k + 1)) / 2 ^ 8 = valB b (i + k) := by
   show (valB b (i + k) * 256 + bN b (i + k)) / 256 = _
   have := bN_lt hb (i + k)
   omega
  rw [this, val_div hb k i]
theorem put_get {b : List Int} (hb : Bytes b) (hn : b.length = 32) : put32 (valB b 32) = b := by
 refine ext_getDI (by rw [put32_length, hn]) fun j hj => ?_
 rw [put32_length] at hj
 rw [put32_get _ hj, bN_eq hb j]
 congr 1
 unfold byteN
 have := val_div hb (31 - j) (j + 1)
 rw [show j + 1 + (31 - j) = 32 by omega] at this
 rw [this]
 show (valB b j * 256 + bN b j) % 256 = _
 have := bN_lt hb j
 omega
end Go.Sy
