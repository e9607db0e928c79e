/- The document's fold; sums and products of the field, on both sides. -/
import Derived.Test.YtmbcolalfgepiaaDoorSyMJ
import Derived.Test.YtmbcolalfgepiaaDoorSyMB
set_option linter.unusedVariables false
set_option linter.unusedSimpArgs false
namespace Go.Sy
open Go

/-- Folding, whatever the rounds' state looks like. -/
theorem fold_rounds {m rest : Nat} (hf : FoldOk m rest) {σ ρ : Type} (f : σ → Option (Sum σ ρ)) (st : Nat → Nat → σ) (out : Nat → ρ)
    (hround : ∀ high low, high < M256 → low < M256 → high ≠ 0 → ∃ high' low', f (st high low) = some (.inl (st high' low')) ∧ high' < M256 ∧ low' < M256 ∧ high' * M256 + low' = high * rest + low)
    (hexit : ∀ low, low < M256 → f (st 0 low) = some (.inr (out low))) {high low : Nat} (hh : high < M256) (hl : low < M256) :
    ∃ r, iter f 1000 (st high low) = some (out r) ∧ r < M256 ∧ r % m = (high * M256 + low) % m := by
  have fin : ∀ (n low : Nat), low < M256 → ∃ r, iter f (n + 1) (st 0 low) = some (out r) ∧ r < M256 ∧ r % m = (0 * M256 + low) % m :=
    fun n low hl => ⟨low, iter_end (hexit _ hl), hl, by simp⟩
  have step : ∀ (n high low : Nat) (Q : Nat → Nat → Prop), high < M256 → low < M256 →
      (∀ high' low', high' < M256 → low' < M256 → high' * M256 + low' = high * rest + low → Q high' low') →
      (∀ high' low', high' < M256 → low' < M256 → Q high' low' → ∃ r, iter f (n + 1) (st high' low') = some (out r) ∧ r < M256 ∧ r % m = (high' * M256 + low') % m) →
      ∃ r, iter f (n + 2) (st high low) = some (out r) ∧ r < M256 ∧ r % m = (high * M256 + low) % m := by
    intro n high low Q hh hl hQ hn
    by_cases h0 : high = 0
    · subst h0; exact fin (n + 1) low hl
    · obtain ⟨h', l', e, g1, g2, g3⟩ := hround high low hh hl h0
      obtain ⟨r, k1, k2, k3⟩ := hn h' l' g1 g2 (hQ h' l' g1 g2 g3)
      exact ⟨r, iter_more e k1, k2, k3.trans (fold_mod hf.sum g3)⟩
  have hM : 0 < M256 := by simp [M256]
  refine step 998 high low (fun h' _ => h' ≤ rest) hh hl (fun h' l' g1 g2 g3 => ?_) (fun h1 l1 a1 a2 q1 => ?_)
  · have h1 : high * rest ≤ (M256 - 1) * rest := Nat.mul_le_mul_right _ (by omega)
    have h2 : (M256 - 1) * rest + rest = M256 * rest := by rw [← Nat.succ_mul]; first | done | (congr 1; done) | (congr 1; omega)
    have h3 : h' * M256 < (rest + 1) * M256 := by
      rw [Nat.add_mul, Nat.mul_comm rest M256]; have := hf.pos; omega
    exact Nat.le_of_lt_succ (Nat.lt_of_mul_lt_mul_right h3)
  refine step 997 h1 l1 (fun h' _ => h' ≤ 2) a1 a2 (fun h' l' g1 g2 g3 => ?_) (fun h2 l2 b1 b2 q2 => ?_)
  · have h1' : h1 * rest ≤ rest * rest := Nat.mul_le_mul_right _ q1
    have := hf.two
    have h3 : h' * M256 < 3 * M256 := by omega
    exact Nat.le_of_lt_succ (Nat.lt_of_mul_lt_mul_right h3)
  refine step 996 h2 l2 (fun h' l' => h' = 0 ∨ (h' = 1 ∧ l' < 2 * rest)) b1 b2 (fun h' l' g1 g2 g3 => ?_) (fun h3 l3 c1 c2 q3 => ?_)
  · have h1' : h2 * rest ≤ 2 * rest := Nat.mul_le_mul_right _ q2
    have := hf.three
    rcases Nat.lt_or_ge h' 1 with h | h
    · left; omega
    · right
      have h4 : 1 * M256 ≤ h' * M256 := Nat.mul_le_mul_right _ h
      have h5 : h' * M256 < 2 * M256 := by omega
      have h6 : h' < 2 := Nat.lt_of_mul_lt_mul_right h5
      have : h' = 1 := by omega
      subst this
      exact ⟨rfl, by omega⟩
  refine step 995 h3 l3 (fun h' _ => h' = 0) c1 c2 (fun h' l' g1 g2 g3 => ?_) (fun h4 l4 d1 d2 q4 => ?_)
  · have := hf.three
    rcases q3 with rfl | ⟨rfl, q⟩
    · rcases Nat.lt_or_ge h' 1 with h | h
      · omega
      · have h4 : 1 * M256 ≤ h' * M256 := Nat.mul_le_mul_right _ h
        omega
    · rcases Nat.lt_or_ge h' 1 with h | h
      · omega
      · have h4 : 1 * M256 ≤ h' * M256 := Nat.mul_le_mul_right _ h
        omega
  subst q4
  exact fin 995 l4 d2

theorem ref01From_val {c : Nat} (hc : c < 18446744073709551616) : ref01From (c : Int) = some c := by
  rw [ref01From_eq]
  unfold ref01FromB
  refine guard_step (inU64_nat hc) ?_
  have h := four_val hc (show 0 < 18446744073709551616 by decide) (show 0 < 18446744073709551616 by decide) (show 0 < 18446744073709551616 by decide)
  simp only [Int.natCast_zero] at h
  rw [show (0 : Int) = ((0 : Nat) : Int) from rfl] at h ⊢
  rw [h]; simp

/-- The prime, and the modulus of a kind. -/
def prP : Nat := 115792089237316195423570985008687907853269984665640564039457584007908834671663
def modK (k : Int) : Nat := if k = 0 then prP else ordN
def restK (k : Int) : Nat := if k = 0 then 4294968273 else 432420386565659656852420866394968145599

theorem foldOkK (k : Int) : FoldOk (modK k) (restK k) := by
  by_cases h : k = 0
  · subst h; exact ⟨by decide, by decide, by decide, by decide, by decide⟩
  · simp only [modK, restK, if_neg h]; exact ⟨by decide, by decide, by decide, by decide, by decide⟩

theorem modK_lt (k : Int) : modK k < M256 := by unfold modK; split <;> decide
theorem modK_pos (k : Int) : 0 < modK k := by unfold modK; split <;> decide
theorem one_lt_modK (k : Int) : 1 < modK k := by unfold modK; split <;> decide
theorem mod_lt256 (k : Int) (n : Nat) : n % modK k < M256 := Nat.lt_trans (Nat.mod_lt _ (modK_pos k)) (modK_lt k)

theorem fieldIOf_good {k : Int} (h : k = 0 ∨ k = 1) : fieldIOf k = some ((modK k, restK k), 0) := by
  rcases h with rfl | rfl
  · rw [fieldIOf_eq]; kernel_rfl
  · exact fieldIOf_n
theorem fieldIOf_bad {k : Int} (h : ¬ (k = 0 ∨ k = 1)) : fieldIOf k = some ((0, 0), 1) := by
  rw [fieldIOf_eq]
  unfold fieldIOfB
  by_cases h0 : k < 0
  · exact guard_step (decide_eq_true h0) rfl
  · exact guard_else (decide_eq_false h0) (guard_step (decide_eq_true (by omega)) rfl)
theorem ref04IGood_val (k : Int) : ref04IGood k = some (decide (k = 0 ∨ k = 1)) := by
  rw [ref04IGood_eq]
  unfold ref04IGoodB
  by_cases h0 : k = 0
  · subst h0; rfl
  · refine guard_else (by simpa using h0) ?_
    by_cases h1 : k = 1
    · subst h1; rfl
    · simp [h0, h1]
theorem ref04IModulus_val (k : Int) : ref04IModulus k = some (modK k) := by
  rw [ref04IModulus_eq]
  unfold ref04IModulusB modK
  by_cases h0 : k = 0
  · subst h0; rfl
  · rw [if_neg h0]; exact guard_else (by simpa using h0) rfl

theorem foldRoundR {k : Int} {high low b6 : Nat} (hh : high < M256) (hl : low < M256) (h0 : high ≠ 0) :
    ∃ high' low', ref04IFoldL0R high low b6 0 (modK k) (restK k) = some (.inl (high', low', b6, 0, modK k, restK k)) ∧ high' < M256 ∧ low' < M256 ∧ high' * M256 + low' = high * restK k + low := by
  have hf := foldOkK k
  generalize modK k = m at *
  generalize restK k = rest at *
  have hr : rest < M256 := by have := hf.sum; have := hf.big; omega
  obtain ⟨h, l, e1, g1, g2, g3⟩ := ref01Mul_val hh hr
  obtain ⟨r, c, e2, k1, k2, k3⟩ := ref01Add_val g2 hl
  have hh1 : h < M256 - 1 := by
    have h1 : high * rest ≤ (M256 - 1) * rest := Nat.mul_le_mul_right _ (by omega)
    have h2 : (M256 - 1) * rest < M256 * rest := Nat.mul_lt_mul_of_pos_right (by simp [M256]) hf.pos
    have h3 : M256 * h < M256 * rest := by omega
    have h4 : h < rest := Nat.lt_of_mul_lt_mul_left h3
    have := hf.sum; have := hf.big; omega
  obtain ⟨t, o, e3, j1, j2, j3⟩ := ref01Add_val (x := h) (y := c) (by omega) (by simp only [M256]; omega)
  have ho : o = 0 := by
    rcases (show o = 0 ∨ o = 1 by omega) with h | h
    · exact h
    · subst h; omega
  subst ho
  refine ⟨t, r, ?_, j1, k1, ?_⟩
  · unfold ref04IFoldL0R
    refine guard_step ?_ ?_
    · rw [u256eq_val hh (by simp [M256])]; simp [h0]
    · exact bind_step e1 (bind_step e2 (bind_step (ref01From_val (by omega)) (bind_step e3 rfl)))
  · have : t = h + c := by omega
    subst this
    rw [Nat.add_mul, Nat.mul_comm h, Nat.mul_comm c]
    omega

theorem foldLoopR1 {k : Int} {low b6 : Nat} (hl : low < M256) : ref04IFoldL1 low b6 (modK k) = some (low % modK k, b6) := by
  have hf := foldOkK k
  have hm := modK_lt k
  generalize modK k = m at *
  generalize restK k = rest at *
  have hs := hf.sum
  have hb := hf.big
  have hstop : ∀ low, low < M256 → low < m → ref04IFoldL1R low b6 m = some (.inr (low, b6)) := fun low hl h => by
    unfold ref04IFoldL1R
    refine bind_step (ref01Cmp_val hl hm) (guard_else ?_ rfl)
    simp [cmpI, h]
  rw [ref04IFoldL1_eq]
  rcases Nat.lt_or_ge low m with h | h
  · rw [Nat.mod_eq_of_lt h]
    exact iter_end (hstop low hl h)
  · have e : low % m = low - m := by rw [Nat.mod_eq_sub_mod h, Nat.mod_eq_of_lt (by omega)]
    rw [e]
    obtain ⟨r, o, e, g1, g2, g3⟩ := ref01Sub_val hl hm
    have ho : o = 0 := by
      rcases (show o = 0 ∨ o = 1 by omega) with h' | h'
      · exact h'
      · subst h'; omega
    subst ho
    have hr : r = low - m := by omega
    subst hr
    refine iter_more (b := (low - m, b6, m)) ?_ (iter_end (hstop _ (by omega) (by omega)))
    unfold ref04IFoldL1R
    refine bind_step (ref01Cmp_val hl hm) (guard_step ?_ (bind_step e rfl))
    have : ¬ low < m := by omega
    simp only [cmpI, this, if_false]
    split <;> decide

theorem rest_val (k : Int) : ∃ o, ref01Sub 0 (modK k) = some (restK k, o) := by
  obtain ⟨r, o, e, g1, g2, g3⟩ := ref01Sub_val (x := 0) (y := modK k) (by simp [M256]) (modK_lt k)
  have hs := (foldOkK k).sum
  have hp := modK_pos k
  have ho : o = 1 := by
    rcases (show o = 0 ∨ o = 1 by omega) with h' | h'
    · subst h'; omega
    · exact h'
  subst ho
  have : r = restK k := by omega
  subst this
  exact ⟨_, e⟩

/-- **The document's fold: the remainder.** -/
theorem ref04IFold_val (k : Int) {high low : Nat} (hh : high < M256) (hl : low < M256) : ref04IFold k high low = some ((high * M256 + low) % modK k) := by
  obtain ⟨o, e⟩ := rest_val k
  obtain ⟨r, e1, g1, g2⟩ := fold_rounds (foldOkK k) (fun p : Nat × Nat × Nat × Nat × Nat × Nat => ref04IFoldL0R p.1 p.2.1 p.2.2.1 p.2.2.2.1 p.2.2.2.2.1 p.2.2.2.2.2) (fun high low => (high, low, 0, 0, modK k, restK k)) (fun low => (low, 0, modK k))
    (fun high low hh hl h0 => foldRoundR hh hl h0) (fun low _ => by unfold ref04IFoldL0R; exact guard_else rfl rfl) hh hl
  rw [ref04IFold_eq]
  unfold ref04IFoldB
  refine bind_step (ref04IModulus_val k) (bind_step e (bind_step ((ref04IFoldL0_eq _ _ _ _ _ _).trans e1) (bind_step (foldLoopR1 g1) ?_)))
  rw [g2]

/-! ### What the calls answer -/

theorem fieldFold_val (k : Int) {high low : Nat} (hh : high < M256) (hl : low < M256) : fieldModulusFold (modK k, restK k) high low = some ((high * M256 + low) % modK k) := fold_val (foldOkK k) hh hl

theorem fMul_val (k : Int) {x y : Nat} (hx : x < M256) (hy : y < M256) : fieldModulusMul (modK k, restK k) x y = some (x * y % modK k) := by
  obtain ⟨h, l, e, g1, g2, g3⟩ := u256Mul_val hx hy
  rw [fieldModulusMul_eq]
  unfold fieldModulusMulB
  refine bind_step e (bind_step (fieldFold_val k g1 g2) ?_)
  rw [← g3, Nat.mul_comm h, Nat.add_comm]

theorem fAdd_val (k : Int) {x y : Nat} (hx : x < M256) (hy : y < M256) : fieldModulusAdd (modK k, restK k) x y = some ((x + y) % modK k) := by
  obtain ⟨r, o, e, g1, g2, g3⟩ := u256Add_val hx hy
  rw [fieldModulusAdd_eq]
  unfold fieldModulusAddB
  refine bind_step e (bind_step (u256From_val (by omega)) (bind_step (fieldFold_val k (by simp only [M256]; omega) g1) ?_))
  rw [← g3, Nat.mul_comm o, Nat.add_comm]

theorem fOne_val (k : Int) {x : Nat} (hx : x < M256) : fieldModulusOne (modK k, restK k) x = some (x % modK k) := by
  rw [fieldModulusOne_eq]
  unfold fieldModulusOneB
  refine bind_step (fieldFold_val k (by decide) hx) ?_
  simp

theorem sub_mod_val (k : Int) (x : Nat) : (modK k - x % modK k) < M256 := by have := modK_lt k; omega

theorem fNeg_val (k : Int) {x : Nat} (hx : x < M256) : fieldModulusNeg (modK k, restK k) x = some ((modK k - x % modK k) % modK k) := by
  have hlt := Nat.mod_lt x (modK_pos k)
  obtain ⟨r, o, e, g1, g2, g3⟩ := u256Sub_val (modK_lt k) (mod_lt256 k x)
  have ho : o = 0 := by
    rcases (show o = 0 ∨ o = 1 by omega) with h' | h'
    · exact h'
    · subst h'; omega
  subst ho
  have hr : r = modK k - x % modK k := by omega
  subst hr
  rw [fieldModulusNeg_eq]
  unfold fieldModulusNegB
  exact bind_step (fOne_val k hx) (bind_step e (bind_step (fOne_val k g1) rfl))

theorem rTimes_val (k : Int) {x y : Nat} (hx : x < M256) (hy : y < M256) : ref04ITimes k x y = some (x * y % modK k) := by
  obtain ⟨h, l, e, g1, g2, g3⟩ := ref01Mul_val hx hy
  rw [ref04ITimes_eq]
  unfold ref04ITimesB
  refine bind_step e (bind_step (ref04IFold_val k g1 g2) ?_)
  rw [← g3, Nat.mul_comm h, Nat.add_comm]

theorem rPlus_val (k : Int) {x y : Nat} (hx : x < M256) (hy : y < M256) : ref04IPlus k x y = some ((x + y) % modK k) := by
  obtain ⟨r, o, e, g1, g2, g3⟩ := ref01Add_val hx hy
  rw [ref04IPlus_eq]
  unfold ref04IPlusB
  refine bind_step e (bind_step (ref01From_val (by omega)) (bind_step (ref04IFold_val k (by simp only [M256]; omega) g1) ?_))
  rw [← g3, Nat.mul_comm o, Nat.add_comm]

theorem rBelow_val (k : Int) {x : Nat} (hx : x < M256) : ref04IBelow k x = some (x % modK k) := by
  rw [ref04IBelow_eq]
  unfold ref04IBelowB
  refine bind_step (ref04IFold_val k (by decide) hx) ?_
  simp

theorem rLess_val (k : Int) {x : Nat} (hx : x < M256) : ref04ILess k x = some ((modK k - x % modK k) % modK k) := by
  have hlt := Nat.mod_lt x (modK_pos k)
  obtain ⟨r, o, e, g1, g2, g3⟩ := ref01Sub_val (modK_lt k) (mod_lt256 k x)
  have ho : o = 0 := by
    rcases (show o = 0 ∨ o = 1 by omega) with h' | h'
    · exact h'
    · subst h'; omega
  subst ho
  have hr : r = modK k - x % modK k := by omega
  subst hr
  rw [ref04ILess_eq]
  unfold ref04ILessB
  exact bind_step (ref04IModulus_val k) (bind_step (rBelow_val k hx) (bind_step e (bind_step (rBelow_val k g1) rfl)))

/-- The calls of both sides answer by one function of a good kind. -/
def ansK (k : Int) (v : Nat) : Nat × Int := if k = 0 ∨ k = 1 then (v, 0) else (0, 1)

theorem fieldModulus_val (k : Int) : fieldModulus k = some (ansK k (modK k)) := by
  rw [fieldModulus_eq]
  unfold fieldModulusB ansK
  by_cases h : k = 0 ∨ k = 1
  · rw [if_pos h]; exact bind_step (fieldIOf_good h) rfl
  · rw [if_neg h]; exact bind_step (fieldIOf_bad h) rfl
theorem ref04Modulus_val (k : Int) : ref04Modulus k = some (ansK k (modK k)) := by
  rw [ref04Modulus_eq]
  unfold ref04ModulusB ansK
  refine bind_step (ref04IGood_val k) ?_
  by_cases h : k = 0 ∨ k = 1
  · rw [if_pos h]; exact guard_else (by simp [h]) (bind_step (ref04IModulus_val k) rfl)
  · rw [if_neg h]; exact guard_step (by simp [h]) rfl

theorem fieldAdd_val (k : Int) {x y : Nat} (hx : x < M256) (hy : y < M256) : fieldAdd k x y = some (ansK k ((x + y) % modK k)) := by
  rw [fieldAdd_eq]
  unfold fieldAddB ansK
  by_cases h : k = 0 ∨ k = 1
  · rw [if_pos h]; exact bind_step (fieldIOf_good h) (guard_else rfl (bind_step (fAdd_val k hx hy) rfl))
  · rw [if_neg h]; exact bind_step (fieldIOf_bad h) (guard_step rfl rfl)
theorem ref04Add_val (k : Int) {x y : Nat} (hx : x < M256) (hy : y < M256) : ref04Add k x y = some (ansK k ((x + y) % modK k)) := by
  rw [ref04Add_eq]
  unfold ref04AddB ansK
  refine bind_step (ref04IGood_val k) ?_
  by_cases h : k = 0 ∨ k = 1
  · rw [if_pos h]; exact guard_else (by simp [h]) (bind_step (rPlus_val k hx hy) rfl)
  · rw [if_neg h]; exact guard_step (by simp [h]) rfl

theorem fieldSub_val (k : Int) {x y : Nat} (hx : x < M256) (hy : y < M256) : fieldSub k x y = some (ansK k ((x + (modK k - y % modK k) % modK k) % modK k)) := by
  rw [fieldSub_eq]
  unfold fieldSubB ansK
  by_cases h : k = 0 ∨ k = 1
  · rw [if_pos h]; exact bind_step (fieldIOf_good h) (guard_else rfl (bind_step (fNeg_val k hy) (bind_step (fAdd_val k hx (mod_lt256 k _)) rfl)))
  · rw [if_neg h]; exact bind_step (fieldIOf_bad h) (guard_step rfl rfl)
theorem ref04Sub_val (k : Int) {x y : Nat} (hx : x < M256) (hy : y < M256) : ref04Sub k x y = some (ansK k ((x + (modK k - y % modK k) % modK k) % modK k)) := by
  rw [ref04Sub_eq]
  unfold ref04SubB ansK
  refine bind_step (ref04IGood_val k) ?_
  by_cases h : k = 0 ∨ k = 1
  · rw [if_pos h]; exact guard_else (by simp [h]) (bind_step (rLess_val k hy) (bind_step (rPlus_val k hx (mod_lt256 k _)) rfl))
  · rw [if_neg h]; exact guard_step (by simp [h]) rfl

theorem fieldNeg_val (k : Int) {x : Nat} (hx : x < M256) : fieldNeg k x = some (ansK k ((modK k - x % modK k) % modK k)) := by
  rw [fieldNeg_eq]
  unfold fieldNegB ansK
  by_cases h : k = 0 ∨ k = 1
  · rw [if_pos h]; exact bind_step (fieldIOf_good h) (guard_else rfl (bind_step (fNeg_val k hx) rfl))
  · rw [if_neg h]; exact bind_step (fieldIOf_bad h) (guard_step rfl rfl)
theorem ref04Neg_val (k : Int) {x : Nat} (hx : x < M256) : ref04Neg k x = some (ansK k ((modK k - x % modK k) % modK k)) := by
  rw [ref04Neg_eq]
  unfold ref04NegB ansK
  refine bind_step (ref04IGood_val k) ?_
  by_cases h : k = 0 ∨ k = 1
  · rw [if_pos h]; exact guard_else (by simp [h]) (bind_step (rLess_val k hx) rfl)
  · rw [if_neg h]; exact guard_step (by simp [h]) rfl

theorem fieldMul_val (k : Int) {x y : Nat} (hx : x < M256) (hy : y < M256) : fieldMul k x y = some (ansK k (x * y % modK k)) := by
  rw [fieldMul_eq]
  unfold fieldMulB ansK
  by_cases h : k = 0 ∨ k = 1
  · rw [if_pos h]; exact bind_step (fieldIOf_good h) (guard_else rfl (bind_step (fMul_val k hx hy) rfl))
  · rw [if_neg h]; exact bind_step (fieldIOf_bad h) (guard_step rfl rfl)
theorem ref04Mul_val (k : Int) {x y : Nat} (hx : x < M256) (hy : y < M256) : ref04Mul k x y = some (ansK k (x * y % modK k)) := by
  rw [ref04Mul_eq]
  unfold ref04MulB ansK
  refine bind_step (ref04IGood_val k) ?_
  by_cases h : k = 0 ∨ k = 1
  · rw [if_pos h]; exact guard_else (by simp [h]) (bind_step (rTimes_val k hx hy) rfl)
  · rw [if_neg h]; exact guard_step (by simp [h]) rfl

theorem fieldSquare_val (k : Int) {x : Nat} (hx : x < M256) : fieldSquare k x = some (ansK k (x * x % modK k)) := by
  rw [fieldSquare_eq]
  unfold fieldSquareB
  exact bind_step (fieldMul_val k hx hx) rfl
theorem ref04Square_val (k : Int) {x : Nat} (hx : x < M256) : ref04Square k x = some (ansK k (x * x % modK k)) := by
  rw [ref04Square_eq]
  unfold ref04SquareB
  exact bind_step (ref04Mul_val k hx hx) rfl

theorem fieldReduce_val (k : Int) {high low : Nat} (hx : high < M256) (hy : low < M256) : fieldReduce k high low = some (ansK k ((high * M256 + low) % modK k)) := by
  rw [fieldReduce_eq]
  unfold fieldReduceB ansK
  by_cases h : k = 0 ∨ k = 1
  · rw [if_pos h]; exact bind_step (fieldIOf_good h) (guard_else rfl (bind_step (fieldFold_val k hx hy) rfl))
  · rw [if_neg h]; exact bind_step (fieldIOf_bad h) (guard_step rfl rfl)
theorem ref04Reduce_val (k : Int) {high low : Nat} (hx : high < M256) (hy : low < M256) : ref04Reduce k high low = some (ansK k ((high * M256 + low) % modK k)) := by
  rw [ref04Reduce_eq]
  unfold ref04ReduceB ansK
  refine bind_step (ref04IGood_val k) ?_
  by_cases h : k = 0 ∨ k = 1
  · rw [if_pos h]; exact guard_else (by simp [h]) (bind_step (ref04IFold_val k hx hy) rfl)
  · rw [if_neg h]; exact guard_step (by simp [h]) rfl

theorem u256eq_self (x : Nat) : u256eq x x = true := by simp [u256eq]
theorem law04INum_val (e : Int) : law04INum e = some e := by rw [law04INum_eq]; rfl

theorem law04FieldProducts_true (k : Int) {x y : Nat} (hx : x < M256) (hy : y < M256) : law04FieldProducts k x y = some true := by
  rw [law04FieldProducts_eq]
  unfold law04FieldProductsB
  refine bind_step (fieldMul_val k hx hy) (bind_step (ref04Mul_val k hx hy) (guard_else (by simp [u256eq_self]) (bind_step (law04INum_val _) (guard_else (by simp) ?_))))
  refine bind_step (fieldSquare_val k hx) (bind_step (ref04Square_val k hx) (guard_else (by simp [u256eq_self]) (bind_step (law04INum_val _) (guard_else (by simp) ?_))))
  refine bind_step (fieldReduce_val k hx hy) (bind_step (ref04Reduce_val k hx hy) (guard_step (u256eq_self _) (bind_step (law04INum_val _) (by simp))))

theorem law04FieldSums_true (k : Int) {x y : Nat} (hx : x < M256) (hy : y < M256) : law04FieldSums k x y = some true := by
  rw [law04FieldSums_eq]
  unfold law04FieldSumsB
  refine bind_step (fieldModulus_val k) (bind_step (ref04Modulus_val k) (guard_else (by simp [u256eq_self]) (bind_step (law04INum_val _) (guard_else (by simp) ?_))))
  refine bind_step (fieldAdd_val k hx hy) (bind_step (ref04Add_val k hx hy) (guard_else (by simp [u256eq_self]) (bind_step (law04INum_val _) (guard_else (by simp) ?_))))
  refine bind_step (fieldSub_val k hx hy) (bind_step (ref04Sub_val k hx hy) (guard_else (by simp [u256eq_self]) (bind_step (law04INum_val _) (guard_else (by simp) ?_))))
  refine bind_step (fieldNeg_val k hx) (bind_step (ref04Neg_val k hx) (guard_step (u256eq_self _) (bind_step (law04INum_val _) (by simp))))
end Go.Sy
