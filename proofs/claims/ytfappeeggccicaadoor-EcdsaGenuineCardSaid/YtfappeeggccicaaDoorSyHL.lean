/- Points of an x, and back. -/

import Derived.Test.YtfappeeggccicaaDoorSyHa

set_option linter.unusedVariables false

set_option linter.unusedSimpArgs false

namespace Go.Sy

open Go

theorem rootV_ok {v : Nat} (h : (rootV v).2 = 0) : (rootV v).1 * (rootV v).1 % prP = v % prP ∧ (rootV v).1 % 2 = 0 ∧ (rootV v).1 < prP := by
  have hodd := prP_odd
  have hr : v ^ quaP % prP < prP := Nat.mod_lt _ p_pos
  unfold rootV at h ⊢
  generalize v ^ quaP % prP = r at *
  by_cases h1 : r * r % prP = v % prP
  · rw [if_pos h1] at h ⊢
    by_cases h2 : r % 2 = 1
    · rw [if_pos h2] at h ⊢
      refine ⟨(neg_sq hr).trans h1, ?_, Nat.mod_lt _ p_pos⟩
      show (prP - r % prP) % prP % 2 = 0
      rw [Nat.mod_eq_of_lt hr, Nat.mod_eq_of_lt (show prP - r < prP by omega)]
      omega
    · rw [if_neg h2] at h ⊢
      exact ⟨h1, by show r % 2 = 0; omega, hr⟩
  · rw [if_neg h1] at h
    exact absurd h (by decide)

theorem negN {e : Nat} (h0 : e ≠ 0) (h : e < prP) : (0 + (prP - e % prP) % prP) % prP = prP - e := by
  rw [Nat.zero_add, Nat.mod_mod, Nat.mod_eq_of_lt h, Nat.mod_eq_of_lt (by omega)]

theorem rhs_ne (x : Nat) : rhsN x ≠ 0 := fun h => by
  have h1 : toF (rhsN x) = 0 := by rw [h]; rfl
  rw [toF_rhs] at h1
  exact no2 _ h1

theorem OnN_mk {x y : Nat} (hx : x < prP) (hy : y < prP) (h : y * y % prP = rhsN x) : OnN (x, y, false) := .inr ⟨rfl, hx, hy, h⟩

theorem OnN_y {x y : Nat} (h : OnN (x, y, false)) : x < prP ∧ y < prP ∧ y * y % prP = rhsN x := by
  rcases h with ⟨h0, _⟩ | ⟨_, h1, h2, h3⟩
  · cases h0
  · exact ⟨h1, h2, h3⟩

theorem OnN_ne {x y : Nat} (h : OnN (x, y, false)) : y ≠ 0 := fun e => by
  have := (OnN_y h).2.2
  rw [e] at this
  exact rhs_ne x (by rw [← this]; rfl)

/-- The points of an x. -/
theorem lift_props {x : Nat} {odd : Bool} {q : P3} (h : liftV x odd = (q, 0)) : ∃ y, q = (x, y, false) ∧ OnN q ∧ (decide (y % 2 = 1)) = odd := by
  unfold liftV at h
  have hok := @rootV_ok (rhsN x)
  generalize rootV (rhsN x) = rv at *
  by_cases hx : x < prP
  · rw [if_pos hx] at h
    by_cases h2 : rv.2 = 0
    · rw [if_pos h2] at h
      obtain ⟨k1, k2, k3⟩ := hok h2
      rw [Nat.mod_eq_of_lt (rhsN_lt x)] at k1
      have he : rv.1 ≠ 0 := fun e => by
        rw [e] at k1
        exact rhs_ne x (by rw [← k1]; rfl)
      have hodd := prP_odd
      have h3 := (Prod.mk.inj h).1
      cases odd with
      | true =>
        rw [if_pos rfl, negN he k3] at h3
        refine ⟨prP - rv.1, h3.symm, ?_, ?_⟩
        · rw [← h3]
          refine OnN_mk hx (by omega) ?_
          have := neg_sq k3
          rw [Nat.mod_eq_of_lt k3, Nat.mod_eq_of_lt (show prP - rv.1 < prP by omega)] at this
          rw [this, k1]
        · exact decide_eq_true (by omega)
      | false =>
        rw [if_neg (by decide)] at h3
        exact ⟨rv.1, h3.symm, by rw [← h3]; exact OnN_mk hx k3 k1, decide_eq_false (by omega)⟩
    · rw [if_neg h2] at h
      exact absurd (Prod.mk.inj h).2 (by decide)
  · rw [if_neg hx] at h
    exact absurd (Prod.mk.inj h).2 (by decide)

/-- A point comes back from its x and the parity of its y; the other one is its opposite. -/
theorem lift_on {x y : Nat} (h : OnN (x, y, false)) (odd : Bool) : liftV x odd = ((x, if odd = decide (y % 2 = 1) then y else (0 + (prP - y % prP) % prP) % prP, false), 0) := by
  obtain ⟨hx, hy, hv⟩ := OnN_y h
  have hy0 := OnN_ne h
  have hodd := prP_odd
  obtain ⟨e, h1, h2, h3, h4⟩ := root_of_sq y
  rw [Nat.mod_eq_of_lt hy, Nat.mod_eq_of_lt h2] at h4
  rw [hv] at h1
  unfold liftV
  rw [h1, if_pos hx, if_pos rfl, negN hy0 hy]
  have he0 : e ≠ 0 := fun e0 => by
    subst e0
    rcases h4 with h | h
    · exact hy0 h.symm
    · rw [Nat.sub_zero, Nat.mod_self] at h; exact hy0 h.symm
  rw [Nat.mod_eq_of_lt (show prP - e < prP by omega)] at h4
  show ((x, if odd = true then (0 + (prP - e % prP) % prP) % prP else e, false), (0 : Int)) = _
  rw [negN he0 h2]
  congr 2
  congr 1
  rcases h4 with h4 | h4
  · subst h4
    rw [decide_eq_false (by omega)]
    cases odd
    · rw [if_neg (by decide), if_pos rfl]
    · rw [if_pos rfl, if_neg (by decide)]
  · rw [decide_eq_true (by omega)]
    cases odd
    · rw [if_neg (by decide), if_neg (by decide)]; omega
    · rw [if_pos rfl, if_pos rfl]; exact h4

end Go.Sy
