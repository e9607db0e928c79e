/- Folding: a number of 512 bits modulo the modulus. -/
import Derived.Test.YtmbcolalfgepiaaDoorSyME
set_option linter.unusedVariables false
set_option linter.unusedSimpArgs false
namespace Go.Sy
open Go

theorem u256From_val {c : Nat} (hc : c < 18446744073709551616) : u256From (c : Int) = some c := by
  rw [u256From_eq]
  unfold u256FromB
  first
  | (refine guard_step (inU64_nat hc) ?_
     have := setLimb_new' (x := 0) (i := 0) (by decide) hc
     rw [this.1]; simp)
  | skip

/-- A modulus and what 2^256 is less it, small enough for the folding to end. -/
structure FoldOk (m rest : Nat) : Prop where
  sum : m + rest = M256
  two : rest * rest < 2 * M256
  three : 3 * rest < M256
  pos : 0 < rest
  big : rest < m

theorem foldRound {m rest high low b6 : Nat} (hf : FoldOk m rest) (hh : high < M256) (hl : low < M256) (h0 : high ≠ 0) :
    ∃ high' low', fieldModulusFoldL0R (m, rest) high low b6 = some (.inl ((m, rest), high', low', b6)) ∧ high' < M256 ∧ low' < M256 ∧ high' * M256 + low' = high * rest + low := by
  have hr : rest < M256 := by have := hf.sum; have := hf.big; omega
  obtain ⟨h, l, e1, g1, g2, g3⟩ := u256Mul_val hh hr
  obtain ⟨r, c, e2, k1, k2, k3⟩ := u256Add_val hl g2
  have hh1 : h < M256 - 1 := by
    have h1 : high * rest ≤ (M256 - 1) * rest := Nat.mul_le_mul_right _ (by omega)
    have h2 : (M256 - 1) * rest < M256 * rest := Nat.mul_lt_mul_of_pos_right (by simp [M256]) hf.pos
    have h3 : M256 * h < M256 * rest := by omega
    have h4 : h < rest := Nat.lt_of_mul_lt_mul_left h3
    have := hf.sum; have := hf.big; omega
  obtain ⟨t, o, e3, j1, j2, j3⟩ := u256Add_val (x := h) (y := c) (by omega) (by simp only [M256]; omega)
  have ho : o = 0 := by
    rcases (show o = 0 ∨ o = 1 by omega) with h | h
    · exact h
    · subst h; omega
  subst ho
  refine ⟨t, r, ?_, j1, k1, ?_⟩
  · unfold fieldModulusFoldL0R
    refine guard_step ?_ ?_
    · rw [u256eq_val hh (by simp [M256])]; simp [h0]
    · refine bind_step e1 (bind_step e2 (bind_step (u256From_val (by omega)) (bind_step e3 rfl)))
  · have : t = h + c := by omega
    subst this
    rw [Nat.add_mul, Nat.mul_comm h, Nat.mul_comm c]
    omega

theorem foldExit (f : Nat × Nat) (low b6 : Nat) : fieldModulusFoldL0R f 0 low b6 = some (.inr (f, low, b6)) := by
  unfold fieldModulusFoldL0R
  exact guard_else rfl rfl

theorem fold_mod {m rest high low high' low' : Nat} (hs : m + rest = M256) (h : high' * M256 + low' = high * rest + low) : (high' * M256 + low') % m = (high * M256 + low) % m := by
  rw [h, ← hs, Nat.mul_add]
  rw [Nat.add_assoc, Nat.mul_comm high m, Nat.mul_add_mod]

/-- Rounds with a bound on what is left. -/
theorem foldLoop {m rest b6 : Nat} (hf : FoldOk m rest) {high low : Nat} (hh : high < M256) (hl : low < M256) :
    ∃ r, fieldModulusFoldL0 (m, rest) high low b6 = some ((m, rest), r, b6) ∧ r < M256 ∧ r % m = (high * M256 + low) % m := by
  have fin : ∀ (n low : Nat), low < M256 → ∃ r, iter (fun p : (Nat × Nat) × Nat × Nat × Nat => fieldModulusFoldL0R p.1 p.2.1 p.2.2.1 p.2.2.2) (n + 1) ((m, rest), 0, low, b6) = some ((m, rest), r, b6) ∧ r < M256 ∧ r % m = (0 * M256 + low) % m :=
    fun n low hl => ⟨low, iter_end (foldExit _ _ _), hl, by simp⟩
  have step : ∀ (n high low : Nat) (Q : Nat → Nat → Prop), high < M256 → low < M256 →
      (∀ high' low', high' < M256 → low' < M256 → high' * M256 + low' = high * rest + low → Q high' low') →
      (∀ high' low', high' < M256 → low' < M256 → Q high' low' → ∃ r, iter (fun p : (Nat × Nat) × Nat × Nat × Nat => fieldModulusFoldL0R p.1 p.2.1 p.2.2.1 p.2.2.2) (n + 1) ((m, rest), high', low', b6) = some ((m, rest), r, b6) ∧ r < M256 ∧ r % m = (high' * M256 + low') % m) →
      ∃ r, iter (fun p : (Nat × Nat) × Nat × Nat × Nat => fieldModulusFoldL0R p.1 p.2.1 p.2.2.1 p.2.2.2) (n + 2) ((m, rest), high, low, b6) = some ((m, rest), r, b6) ∧ r < M256 ∧ r % m = (high * M256 + low) % m := by
    intro n high low Q hh hl hQ hn
    by_cases h0 : high = 0
    · subst h0; exact fin (n + 1) low hl
    · obtain ⟨h', l', e, g1, g2, g3⟩ := foldRound (b6 := b6) hf hh hl h0
      obtain ⟨r, k1, k2, k3⟩ := hn h' l' g1 g2 (hQ h' l' g1 g2 g3)
      exact ⟨r, iter_more e k1, k2, k3.trans (fold_mod hf.sum g3)⟩
  rw [fieldModulusFoldL0_eq]
  have hM : 0 < M256 := by simp [M256]
  refine step 998 high low (fun h' _ => h' ≤ rest) hh hl (fun h' l' g1 g2 g3 => ?_) (fun h1 l1 a1 a2 q1 => ?_)
  · have h1 : high * rest ≤ (M256 - 1) * rest := Nat.mul_le_mul_right _ (by omega)
    have h2 : (M256 - 1) * rest + rest = M256 * rest := by rw [← Nat.succ_mul]; first | done | (congr 1; done) | (congr 1; omega)
    have h3 : h' * M256 < (rest + 1) * M256 := by
      rw [Nat.add_mul, Nat.mul_comm rest M256]; have := hf.pos; omega
    exact Nat.le_of_lt_succ (Nat.lt_of_mul_lt_mul_right h3)
  refine step 997 h1 l1 (fun h' _ => h' ≤ 2) a1 a2 (fun h' l' g1 g2 g3 => ?_) (fun h2 l2 b1 b2 q2 => ?_)
  · have h1' : h1 * rest ≤ rest * rest := Nat.mul_le_mul_right _ q1
    have := hf.two
    have h3 : h' * M256 < 3 * M256 := by omega
    exact Nat.le_of_lt_succ (Nat.lt_of_mul_lt_mul_right h3)
  refine step 996 h2 l2 (fun h' l' => h' = 0 ∨ (h' = 1 ∧ l' < 2 * rest)) b1 b2 (fun h' l' g1 g2 g3 => ?_) (fun h3 l3 c1 c2 q3 => ?_)
  · have h1' : h2 * rest ≤ 2 * rest := Nat.mul_le_mul_right _ q2
    have := hf.three
    rcases Nat.lt_or_ge h' 1 with h | h
    · left; omega
    · right
      have h4 : 1 * M256 ≤ h' * M256 := Nat.mul_le_mul_right _ h
      have h5 : h' * M256 < 2 * M256 := by omega
      have h6 : h' < 2 := Nat.lt_of_mul_lt_mul_right h5
      have : h' = 1 := by omega
      subst this
      exact ⟨rfl, by omega⟩
  refine step 995 h3 l3 (fun h' _ => h' = 0) c1 c2 (fun h' l' g1 g2 g3 => ?_) (fun h4 l4 d1 d2 q4 => ?_)
  · have := hf.three
    rcases q3 with rfl | ⟨rfl, q⟩
    · rcases Nat.lt_or_ge h' 1 with h | h
      · omega
      · have h4 : 1 * M256 ≤ h' * M256 := Nat.mul_le_mul_right _ h
        omega
    · rcases Nat.lt_or_ge h' 1 with h | h
      · omega
      · have h4 : 1 * M256 ≤ h' * M256 := Nat.mul_le_mul_right _ h
        omega
  subst q4
  exact fin 995 l4 d2
end Go.Sy
