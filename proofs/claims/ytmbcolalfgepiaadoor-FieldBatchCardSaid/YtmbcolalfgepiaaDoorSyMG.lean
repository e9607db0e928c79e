/- The field's fold is the remainder. -/
import Derived.Test.YtmbcolalfgepiaaDoorSyMF
set_option linter.unusedVariables false
set_option linter.unusedSimpArgs false
namespace Go.Sy
open Go

theorem foldRound1_stop {m rest low b6 : Nat} (hm : m < M256) (hl : low < M256) (h : low < m) : fieldModulusFoldL1R (m, rest) low b6 = some (.inr (low, b6)) := by
  unfold fieldModulusFoldL1R
  refine bind_step (u256Cmp_val hl hm) (guard_else ?_ rfl)
  simp [cmpI, h]

theorem foldRound1_go {m rest low b6 : Nat} (hm : m < M256) (hl : low < M256) (h : m ≤ low) : fieldModulusFoldL1R (m, rest) low b6 = some (.inl ((m, rest), low - m, b6)) := by
  obtain ⟨r, o, e, g1, g2, g3⟩ := u256Sub_val hl hm
  have ho : o = 0 := by
    rcases (show o = 0 ∨ o = 1 by omega) with h' | h'
    · exact h'
    · subst h'; omega
  subst ho
  have hr : r = low - m := by omega
  subst hr
  unfold fieldModulusFoldL1R
  refine bind_step (u256Cmp_val hl hm) (guard_step ?_ (bind_step e rfl))
  have : ¬ low < m := by omega
  simp only [cmpI, this, if_false]
  split <;> decide

theorem foldLoop1 {m rest low b6 : Nat} (hf : FoldOk m rest) (hl : low < M256) : fieldModulusFoldL1 (m, rest) low b6 = some (low % m, b6) := by
  have hs := hf.sum
  have hb := hf.big
  have hp := hf.pos
  have hm : m < M256 := by omega
  rw [fieldModulusFoldL1_eq]
  rcases Nat.lt_or_ge low m with h | h
  · rw [Nat.mod_eq_of_lt h]
    exact iter_end (foldRound1_stop hm hl h)
  · have e : low % m = low - m := by rw [Nat.mod_eq_sub_mod h, Nat.mod_eq_of_lt (by omega)]
    rw [e]
    have hstop := foldRound1_stop (rest := rest) (b6 := b6) hm (show low - m < M256 by omega) (show low - m < m by omega)
    exact iter_more (foldRound1_go hm hl h) (iter_end hstop)

/-- **fold: the remainder.** -/
theorem fold_val {m rest high low : Nat} (hf : FoldOk m rest) (hh : high < M256) (hl : low < M256) : fieldModulusFold (m, rest) high low = some ((high * M256 + low) % m) := by
  obtain ⟨r, e, g1, g2⟩ := foldLoop (b6 := 0) hf hh hl
  rw [fieldModulusFold_eq]
  unfold fieldModulusFoldB
  refine bind_step e (bind_step (foldLoop1 hf g1) ?_)
  rw [g2]
end Go.Sy
