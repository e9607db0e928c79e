/- Plain laws: what SignWith answers, by the group and the field alone; the nonce and its opposite make one signature. -/

import Derived.Test.YtfappeeggccicaaDoorSyEN

set_option linter.unusedVariables false

set_option linter.unusedSimpArgs false

namespace Go.Sy

open Go

theorem law06IFit_val {x : Nat} (hx : x < M256) : law06IFit x = some (fitV x) := by
  rw [law06IFit_eq]
  unfold law06IFitB fitV
  rw [u256eq_val hx (by decide)]
  refine bind_step fieldModulus_1 (guard_step rfl ?_)
  by_cases h : x = 0
  · exact guard_else (by simp [h]) (by simp [h])
  · refine guard_step (by simp [h]) (bind_step (u256Cmp_val hx ordN_M) ?_)
    rw [cmp_neg]; simp [h]

theorem zz0 : ((u256eq 0 0) && ((u256eq 0 0) && (false == false))) = true := by rw [u256eq_self]; rfl

theorem some_true {b : Bool} (h : b = true) : some b = some true := by rw [h]

theorem smul_negn {k : Nat} (hk : k ≤ ordN) : smul (ordN - k) gP = pneg (smul k gP) := by
  have h1 : padd (smul k gP) (smul (ordN - k) gP) = none := by
    rw [← smul_add gP_ok, show k + (ordN - k) = ordN by omega]; exact order_G
  exact padd_cancel (smul_ok gP_ok k) (smul_ok gP_ok _) (pneg_ok (smul_ok gP_ok k)) (h1.trans (padd_neg _).symm)

theorem neg_y {P : Pt} (h : P ≠ none) (hP : PtOk P) : (ofPt (pneg P)).1 = (ofPt P).1 ∧ oddV (ofPt (pneg P)).2.1 = !oddV (ofPt P).2.1 := by
  match P, h with
  | some (x, y), _ =>
    refine ⟨rfl, ?_⟩
    have hy : y ≠ 0 := y_ne hP
    have hy0 : y.val ≠ 0 := fun e => hy (FP.ext e)
    have hl : y.val < prP := y.isLt
    have hv : (-y).val = prP - y.val := by
      have h1 : (-y).val = (prP - y.val) % prP := rfl
      rw [h1, Nat.mod_eq_of_lt (by omega)]
    show oddV (-y).val = !oddV y.val
    rw [hv]
    have ho := prP_odd
    unfold oddV
    rcases (by omega : y.val % 2 = 0 ∨ y.val % 2 = 1) with e | e
    · rw [e, show (prP - y.val) % 2 = 1 by omega]; rfl
    · rw [e, show (prP - y.val) % 2 = 0 by omega]; rfl

theorem signV_cases {key nonce : Nat} {d : List Int} (h1 : fitV key = true) (h2 : fitV nonce = true) :
    signV key nonce d = ((0, 0, false), 64) ∨ signV key nonce d = ((0, 0, false), 65) ∨ ∃ r s o, signV key nonce d = ((r, s, o), 0) ∧ fitV r = true ∧ fitV s = true ∧ lowV s = true := by
  unfold signV
  rw [if_pos h1, if_pos h2]
  have hsl : sN (ofPt (smul nonce gP)).1 key nonce d < ordN := lt_n _
  generalize sN (ofPt (smul nonce gP)).1 key nonce d = s at *
  generalize ofPt (smul nonce gP) = p at *
  unfold signP
  by_cases h3 : p.1 < ordN
  · rw [if_pos h3]
    by_cases h4 : p.1 = 0
    · rw [if_pos h4]; exact .inr (.inl rfl)
    · rw [if_neg h4]
      by_cases h5 : s = 0
      · rw [if_pos h5]; exact .inr (.inl rfl)
      · rw [if_neg h5]
        by_cases h7 : lowV s = true
        · rw [if_pos h7]; exact .inr (.inr ⟨_, _, _, rfl, of_fit h4 h3, of_fit h5 hsl, h7⟩)
        · have := not_low h7
          have h2h := two_half
          rw [if_neg h7, negS h5 hsl]
          exact .inr (.inr ⟨_, _, _, rfl, of_fit h4 h3, of_fit (by omega) (by omega), of_low (by omega)⟩)
  · rw [if_neg h3]; exact .inl rfl

end Go.Sy
