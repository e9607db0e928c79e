/- Powers on both sides: the law of powers. -/
import Derived.Test.YtmbcolalfgepiaaDoorSyMM
set_option linter.unusedVariables false
set_option linter.unusedSimpArgs false
namespace Go.Sy
open Go

theorem lenEnd (e : Nat) : u256LenL0R (((0 : Nat) : Int) - 1) e = some (.inr (.inr ())) := by
  unfold u256LenL0R
  exact guard_else (by decide) rfl

theorem lenNext {e i : Nat} (hi4 : i < 4) (hz : ln e i = 0) : u256LenL0R (i : Int) e = some (.inl ((i : Int) - 1, e)) := by
  have hb : Nat.blt (Int.toNat (i : Int)) 4 = true := by simp only [Int.toNat_natCast]; simpa using hi4
  unfold u256LenL0R
  refine guard_step (by simp) (guard_step (by simp) (guard_step hb (guard_step hb (guard_else ?_ ?_))))
  · simp only [Int.toNat_natCast, limb_ln, hz]; rfl
  · rw [wI64z _ (by omega) (by omega)]

theorem lenFound {e i m : Nat} (hi4 : i < 4) (hz : ln e i ≠ 0) (hm : m ≤ 64) (h1 : bitsLen64 (ln e i : Int) = some (m : Int)) : u256LenL0R (i : Int) e = some (.inr (.inl ((64 * i + m : Nat) : Int))) := by
  have hb : Nat.blt (Int.toNat (i : Int)) 4 = true := by simp only [Int.toNat_natCast]; simpa using hi4
  unfold u256LenL0R
  refine guard_step (by simp) (guard_step (by simp) (guard_step hb (guard_step hb (guard_step ?_ (guard_step (by simp) (guard_step hb (guard_step hb (bind_step (a := (m : Int)) ?_ ?_))))))))
  · simp only [Int.toNat_natCast, limb_ln]
    have : ((ln e i : Nat) : Int) ≠ 0 := by omega
    simpa using this
  · simp only [Int.toNat_natCast, limb_ln]; exact h1
  · have e1 : ((64 : Int) * (i : Int)) = ((64 * i : Nat) : Int) := by omega
    rw [e1, wI64 _ (by omega)]
    have e2 : (((64 * i : Nat) : Int) + (m : Int)) = ((64 * i + m : Nat) : Int) := by omega
    rw [e2, wI64 _ (by omega)]

theorem top_limb {e i : Nat} (he : e < 2 ^ (64 * (i + 1))) : e / 2 ^ (64 * i) < 18446744073709551616 := by
  rw [Nat.div_lt_iff_lt_mul (Nat.two_pow_pos _), ← pow64]; exact he

theorem lenLoop {e : Nat} (i : Nat) : ∀ (n : Nat), i ≤ 4 → i < n → e < 2 ^ (64 * i) → ∃ q, iter (fun p : Int × Nat => u256LenL0R p.1 p.2) n ((i : Int) - 1, e) = some q ∧ ((∃ m : Nat, q = .inl (m : Int) ∧ m ≤ 256 ∧ e < 2 ^ m) ∨ (q = .inr () ∧ e = 0)) := by
  induction i with
  | zero =>
    intro n _ hn he
    obtain ⟨n, rfl⟩ : ∃ k, n = k + 1 := ⟨n - 1, by omega⟩
    exact ⟨.inr (), iter_end (lenEnd e), .inr ⟨rfl, by simpa using he⟩⟩
  | succ i ih =>
    intro n hi hn he
    obtain ⟨n, rfl⟩ : ∃ k, n = k + 1 := ⟨n - 1, by omega⟩
    have e0 : (((i + 1 : Nat) : Int) - 1) = (i : Int) := by omega
    rw [e0]
    have ht := top_limb he
    by_cases hz : ln e i = 0
    · have hlt : e < 2 ^ (64 * i) := by
        have hz' := hz
        unfold ln at hz'
        rw [Nat.mod_eq_of_lt ht] at hz'
        exact Nat.lt_of_div_eq_zero (Nat.two_pow_pos _) hz'
      obtain ⟨q, h1, h2⟩ := ih n (by omega) (by omega) hlt
      exact ⟨q, iter_more (lenNext (by omega) hz) h1, h2⟩
    · obtain ⟨m, h1, h2, h3⟩ := bitsLen64_val (ln_lt e i)
      refine ⟨.inl ((64 * i + m : Nat) : Int), iter_end (lenFound (by omega) hz h2 h1), .inl ⟨64 * i + m, rfl, by omega, lt_of_div ?_⟩⟩
      unfold ln at h3
      rwa [Nat.mod_eq_of_lt ht] at h3

theorem u256Len_val {e : Nat} (he : e < M256) : ∃ m : Nat, u256Len e = some (m : Int) ∧ m ≤ 256 ∧ e < 2 ^ m := by
  obtain ⟨q, h1, h2⟩ := lenLoop (e := e) 4 1000 (by omega) (by omega) he
  have h3 : u256LenL0 3 e = some q := (u256LenL0_eq _ _).trans h1
  rw [u256Len_eq]
  unfold u256LenB
  rcases h2 with ⟨m, rfl, hm, hl⟩ | ⟨rfl, h0⟩
  · exact ⟨m, bind_step h3 rfl, hm, hl⟩
  · exact ⟨0, bind_step h3 rfl, by omega, by simp [h0]⟩

theorem rlenEnd (e : Nat) : ref01LenL0R (((0 : Nat) : Int) - 1) e = some (.inr (.inr ())) := by
  unfold ref01LenL0R
  exact guard_else (by decide) rfl

theorem rlenNext {e i : Nat} (hi : i < 256) (hz : bitN e i = 0) : ref01LenL0R (i : Int) e = some (.inl ((i : Int) - 1, e)) := by
  unfold ref01LenL0R
  refine guard_step (by simp) (bind_step (ref01Bit_val hi) (guard_else (by rw [hz]; rfl) ?_))
  rw [wI64z _ (by omega) (by omega)]

theorem rlenFound {e i : Nat} (hi : i < 256) (hz : bitN e i = 1) : ref01LenL0R (i : Int) e = some (.inr (.inl ((i + 1 : Nat) : Int))) := by
  unfold ref01LenL0R
  refine guard_step (by simp) (bind_step (ref01Bit_val hi) (guard_step (by rw [hz]; rfl) ?_))
  rw [wI64z _ (by omega) (by omega)]
  rfl

theorem bit01 (e i : Nat) : bitN e i = 0 ∨ bitN e i = 1 := by unfold bitN; omega

theorem rlenLoop {e : Nat} (i : Nat) : ∀ (n : Nat), i ≤ 256 → i < n → e < 2 ^ i → ∃ q, iter (fun p : Int × Nat => ref01LenL0R p.1 p.2) n ((i : Int) - 1, e) = some q ∧ ((∃ m : Nat, q = .inl (m : Int) ∧ m ≤ 256 ∧ e < 2 ^ m) ∨ (q = .inr () ∧ e = 0)) := by
  induction i with
  | zero =>
    intro n _ hn he
    obtain ⟨n, rfl⟩ : ∃ k, n = k + 1 := ⟨n - 1, by omega⟩
    exact ⟨.inr (), iter_end (rlenEnd e), .inr ⟨rfl, by simpa using he⟩⟩
  | succ i ih =>
    intro n hi hn he
    obtain ⟨n, rfl⟩ : ∃ k, n = k + 1 := ⟨n - 1, by omega⟩
    have e0 : (((i + 1 : Nat) : Int) - 1) = (i : Int) := by omega
    rw [e0]
    rcases bit01 e i with hz | hz
    · have hlt : e < 2 ^ i := by
        have h1 : e / 2 ^ i < 2 := by
          rw [Nat.div_lt_iff_lt_mul (Nat.two_pow_pos _), Nat.mul_comm, ← Nat.pow_succ]; exact he
        unfold bitN at hz
        rw [Nat.mod_eq_of_lt h1] at hz
        exact Nat.lt_of_div_eq_zero (Nat.two_pow_pos _) hz
      obtain ⟨q, h1, h2⟩ := ih n (by omega) (by omega) hlt
      exact ⟨q, iter_more (rlenNext (by omega) hz) h1, h2⟩
    · exact ⟨.inl ((i + 1 : Nat) : Int), iter_end (rlenFound (by omega) hz), .inl ⟨i + 1, rfl, hi, he⟩⟩

theorem ref01Len_val {e : Nat} (he : e < M256) : ∃ m : Nat, ref01Len e = some (m : Int) ∧ m ≤ 256 ∧ e < 2 ^ m := by
  obtain ⟨q, h1, h2⟩ := rlenLoop (e := e) 256 1000 (by omega) (by omega) he
  have h3 : ref01LenL0 255 e = some q := (ref01LenL0_eq _ _).trans h1
  rw [ref01Len_eq]
  unfold ref01LenB
  rcases h2 with ⟨m, rfl, hm, hl⟩ | ⟨rfl, h0⟩
  · exact ⟨m, bind_step h3 rfl, hm, hl⟩
  · exact ⟨0, bind_step h3 rfl, by omega, by simp [h0]⟩

/-! ### Powers -/

theorem bit_split (e n : Nat) : e / 2 ^ n = 2 * (e / 2 ^ (n + 1)) + bitN e n := by
  unfold bitN
  rw [Nat.pow_succ, ← Nat.div_div_eq_div_mul]
  omega

theorem pow_step0 {x e n m : Nat} (h : bitN e n = 0) : (x ^ (e / 2 ^ (n + 1)) % m) * (x ^ (e / 2 ^ (n + 1)) % m) % m = x ^ (e / 2 ^ n) % m := by
  have e1 : e / 2 ^ n = e / 2 ^ (n + 1) + e / 2 ^ (n + 1) := by have := bit_split e n; omega
  rw [← Nat.mul_mod, ← Nat.pow_add, ← e1]

theorem pow_step1 {x e n m : Nat} (h : bitN e n = 1) : ((x ^ (e / 2 ^ (n + 1)) % m) * (x ^ (e / 2 ^ (n + 1)) % m) % m) * x % m = x ^ (e / 2 ^ n) % m := by
  rw [← Nat.mul_mod, ← Nat.pow_add, Nat.mod_mul_mod, ← Nat.pow_succ, bit_split e n, h, Nat.two_mul]

theorem expLoop (k : Int) {x e b6 : Nat} (hx : x < M256) (n : Nat) : ∀ (fuel z : Nat), n < fuel → n ≤ 256 → z = x ^ (e / 2 ^ n) % modK k →
    iter (fun p : Int × (Nat × Nat) × Nat × Nat × Nat × Nat => fieldModulusExpL0R p.1 p.2.1 p.2.2.1 p.2.2.2.1 p.2.2.2.2.1 p.2.2.2.2.2) fuel ((n : Int) - 1, (modK k, restK k), x, e, b6, z) = some (b6, x ^ e % modK k) := by
  induction n with
  | zero =>
    intro fuel z hf _ hz
    obtain ⟨fuel, rfl⟩ : ∃ q, fuel = q + 1 := ⟨fuel - 1, by omega⟩
    refine iter_end ?_
    show fieldModulusExpL0R (((0 : Nat) : Int) - 1) (modK k, restK k) x e b6 z = _
    unfold fieldModulusExpL0R
    refine guard_else (by decide) ?_
    rw [hz]; simp
  | succ n ih =>
    intro fuel z hf hn hz
    obtain ⟨fuel, rfl⟩ : ∃ q, fuel = q + 1 := ⟨fuel - 1, by omega⟩
    have e0 : (((n + 1 : Nat) : Int) - 1) = (n : Int) := by omega
    rw [e0]
    have hzl : z < M256 := by rw [hz]; exact mod_lt256 k _
    rcases bit01 e n with hb | hb
    · refine iter_more (b := ((n : Int) - 1, (modK k, restK k), x, e, b6, z * z % modK k)) ?_ (ih fuel _ (by omega) (by omega) (by rw [hz]; exact pow_step0 hb))
      show fieldModulusExpL0R (n : Int) (modK k, restK k) x e b6 z = _
      unfold fieldModulusExpL0R
      refine guard_step (by simp) (bind_step (fMul_val k hzl hzl) (bind_step (u256Bit_val (by omega)) (guard_else (by rw [hb]; rfl) ?_)))
      rw [wI64z _ (by omega) (by omega)]
    · refine iter_more (b := ((n : Int) - 1, (modK k, restK k), x, e, b6, z * z % modK k * x % modK k)) ?_ (ih fuel _ (by omega) (by omega) (by rw [hz]; exact pow_step1 hb))
      show fieldModulusExpL0R (n : Int) (modK k, restK k) x e b6 z = _
      unfold fieldModulusExpL0R
      refine guard_step (by simp) (bind_step (fMul_val k hzl hzl) (bind_step (u256Bit_val (by omega)) (guard_step (by rw [hb]; rfl) (bind_step (fMul_val k (mod_lt256 k _) hx) ?_))))
      rw [wI64z _ (by omega) (by omega)]

theorem fExp_val (k : Int) {x e : Nat} (hx : x < M256) (he : e < M256) : fieldModulusExp (modK k, restK k) x e = some (x ^ e % modK k) := by
  obtain ⟨m, h1, h2, h3⟩ := u256Len_val he
  rw [fieldModulusExp_eq]
  unfold fieldModulusExpB
  refine bind_step (u256From_val (c := 1) (by omega)) (bind_step (fOne_val k (by decide)) (bind_step h1 ?_))
  rw [wI64z _ (by omega) (by omega)]
  refine bind_step ((fieldModulusExpL0_eq _ _ _ _ _ _).trans (expLoop k hx m 1000 _ (by omega) h2 ?_)) rfl
  rw [Nat.div_eq_of_lt h3, Nat.pow_zero]

theorem powLoop (k : Int) {x e b6 : Nat} (hx : x < M256) (n : Nat) : ∀ (fuel z : Nat), n < fuel → n ≤ 256 → z = x ^ (e / 2 ^ n) % modK k →
    iter (fun p : Int × Int × Nat × Nat × Nat × Nat => ref04IPowerL0R p.1 p.2.1 p.2.2.1 p.2.2.2.1 p.2.2.2.2.1 p.2.2.2.2.2) fuel (k, (n : Int) - 1, x, e, b6, z) = some (b6, x ^ e % modK k) := by
  induction n with
  | zero =>
    intro fuel z hf _ hz
    obtain ⟨fuel, rfl⟩ : ∃ q, fuel = q + 1 := ⟨fuel - 1, by omega⟩
    refine iter_end ?_
    show ref04IPowerL0R k (((0 : Nat) : Int) - 1) x e b6 z = _
    unfold ref04IPowerL0R
    refine guard_else (by decide) ?_
    rw [hz]; simp
  | succ n ih =>
    intro fuel z hf hn hz
    obtain ⟨fuel, rfl⟩ : ∃ q, fuel = q + 1 := ⟨fuel - 1, by omega⟩
    have e0 : (((n + 1 : Nat) : Int) - 1) = (n : Int) := by omega
    rw [e0]
    have hzl : z < M256 := by rw [hz]; exact mod_lt256 k _
    rcases bit01 e n with hb | hb
    · refine iter_more (b := (k, (n : Int) - 1, x, e, b6, z * z % modK k)) ?_ (ih fuel _ (by omega) (by omega) (by rw [hz]; exact pow_step0 hb))
      show ref04IPowerL0R k (n : Int) x e b6 z = _
      unfold ref04IPowerL0R
      refine guard_step (by simp) (bind_step (rTimes_val k hzl hzl) (bind_step (ref01Bit_val (by omega)) (guard_else (by rw [hb]; rfl) ?_)))
      rw [wI64z _ (by omega) (by omega)]
    · refine iter_more (b := (k, (n : Int) - 1, x, e, b6, z * z % modK k * x % modK k)) ?_ (ih fuel _ (by omega) (by omega) (by rw [hz]; exact pow_step1 hb))
      show ref04IPowerL0R k (n : Int) x e b6 z = _
      unfold ref04IPowerL0R
      refine guard_step (by simp) (bind_step (rTimes_val k hzl hzl) (bind_step (ref01Bit_val (by omega)) (guard_step (by rw [hb]; rfl) (bind_step (rTimes_val k (mod_lt256 k _) hx) ?_))))
      rw [wI64z _ (by omega) (by omega)]

theorem rPower_val (k : Int) {x e : Nat} (hx : x < M256) (he : e < M256) : ref04IPower k x e = some (x ^ e % modK k) := by
  obtain ⟨m, h1, h2, h3⟩ := ref01Len_val he
  rw [ref04IPower_eq]
  unfold ref04IPowerB
  refine bind_step (ref01From_val (c := 1) (by omega)) (bind_step h1 ?_)
  rw [wI64z _ (by omega) (by omega)]
  refine bind_step ((ref04IPowerL0_eq _ _ _ _ _ _).trans (powLoop k hx m 1000 _ (by omega) h2 ?_)) rfl
  rw [Nat.div_eq_of_lt h3, Nat.pow_zero, Nat.mod_eq_of_lt (one_lt_modK k)]

theorem fieldExp_val (k : Int) {x e : Nat} (hx : x < M256) (he : e < M256) : fieldExp k x e = some (ansK k (x ^ e % modK k)) := by
  rw [fieldExp_eq]
  unfold fieldExpB ansK
  by_cases h : k = 0 ∨ k = 1
  · rw [if_pos h]; exact bind_step (fieldIOf_good h) (guard_else rfl (bind_step (fExp_val k hx he) rfl))
  · rw [if_neg h]; exact bind_step (fieldIOf_bad h) (guard_step rfl rfl)

theorem ref04Exp_val (k : Int) {x e : Nat} (hx : x < M256) (he : e < M256) : ref04Exp k x e = some (ansK k (x ^ e % modK k)) := by
  rw [ref04Exp_eq]
  unfold ref04ExpB ansK
  refine bind_step (ref04IGood_val k) ?_
  by_cases h : k = 0 ∨ k = 1
  · rw [if_pos h]; exact guard_else (by simp [h]) (bind_step (rPower_val k hx he) rfl)
  · rw [if_neg h]; exact guard_step (by simp [h]) rfl

/-! ### Inverses -/

theorem less2 (k : Int) : 2 < modK k := by unfold modK; split <;> decide

theorem fInverse_val (k : Int) {x : Nat} (hx : x < M256) : fieldModulusInverse (modK k, restK k) x = some (x ^ (modK k - 2) % modK k) := by
  obtain ⟨r, o, h1, h2, h3, h4⟩ := u256Sub_val (modK_lt k) (show 2 < M256 by decide)
  have hm := less2 k
  have hr : r = modK k - 2 := by
    have : o = 0 ∨ o = 1 := by omega
    rcases this with rfl | rfl
    · omega
    · have := modK_lt k; omega
  subst hr
  rw [fieldModulusInverse_eq]
  unfold fieldModulusInverseB
  exact bind_step (u256From_val (c := 2) (by omega)) (bind_step h1 (bind_step (fExp_val k hx h2) rfl))

/-- What an inverse is. -/
def invK (k : Int) (x : Nat) : Nat × Int := if k = 0 ∨ k = 1 then (if x % modK k = 0 then (0, 40) else (x ^ (modK k - 2) % modK k, 0)) else (0, 1)

theorem u256eq0 {v : Nat} (hv : v < M256) : u256eq v 0 = decide (v = 0) := u256eq_val hv (by decide)

theorem fieldInverse_val (k : Int) {x : Nat} (hx : x < M256) : fieldInverse k x = some (invK k x) := by
  rw [fieldInverse_eq]
  unfold fieldInverseB invK
  by_cases h : k = 0 ∨ k = 1
  · rw [if_pos h]
    refine bind_step (fieldIOf_good h) (guard_else rfl (bind_step (fOne_val k hx) ?_))
    by_cases h0 : x % modK k = 0
    · rw [if_pos h0]; exact guard_step (by rw [u256eq0 (mod_lt256 k _)]; simp [h0]) rfl
    · rw [if_neg h0]; exact guard_else (by rw [u256eq0 (mod_lt256 k _)]; simp [h0]) (bind_step (fInverse_val k hx) rfl)
  · rw [if_neg h]; exact bind_step (fieldIOf_bad h) (guard_step rfl rfl)

theorem ref04Inverse_val (k : Int) {x : Nat} (hx : x < M256) : ref04Inverse k x = some (invK k x) := by
  rw [ref04Inverse_eq]
  unfold ref04InverseB invK
  refine bind_step (ref04IGood_val k) ?_
  by_cases h : k = 0 ∨ k = 1
  · rw [if_pos h]
    refine guard_else (by simp [h]) (bind_step (rBelow_val k hx) ?_)
    by_cases h0 : x % modK k = 0
    · rw [if_pos h0]; exact guard_step (by rw [u256eq0 (mod_lt256 k _)]; simp [h0]) rfl
    · rw [if_neg h0]
      obtain ⟨r, o, h1, h2, h3, h4⟩ := ref01Sub_val (modK_lt k) (show 2 < M256 by decide)
      have hm := less2 k
      have hr : r = modK k - 2 := by
        have : o = 0 ∨ o = 1 := by omega
        rcases this with rfl | rfl
        · omega
        · have := modK_lt k; omega
      subst hr
      exact guard_else (by rw [u256eq0 (mod_lt256 k _)]; simp [h0]) (bind_step (ref04IModulus_val k) (bind_step (ref01From_val (c := 2) (by omega)) (bind_step h1 (bind_step (rPower_val k hx h2) rfl))))
  · rw [if_neg h]; exact guard_step (by simp [h]) rfl

theorem law04FieldPowers_true (k : Int) {x e : Nat} (hx : x < M256) (he : e < M256) : law04FieldPowers k x e = some true := by
  rw [law04FieldPowers_eq]
  unfold law04FieldPowersB
  refine bind_step (fieldExp_val k hx he) (bind_step (ref04Exp_val k hx he) (guard_else (by simp [u256eq_self]) (bind_step (law04INum_val _) (guard_else (by simp) ?_))))
  refine bind_step (fieldInverse_val k hx) (bind_step (ref04Inverse_val k hx) (guard_step (u256eq_self _) (bind_step (law04INum_val _) ?_)))
  simp
end Go.Sy
