/- Plain law: whatever key, nonce and digest: a signature is its key's, tells the key, and through its bytes it is the same again. -/

import Derived.Test.YtfappeeggccicaaDoorSyEC

import Derived.Test.YtfappeeggccicaaDoorSyVE3

set_option linter.unusedVariables false

set_option linter.unusedSimpArgs false

namespace Go.Sy

open Go

theorem lift_self {P : Pt} (hP : PtOk P) (hn : P ≠ none) : liftV (ofPt P).1 (oddV (ofPt P).2.1) = (ofPt P, 0) ∧ liftV (ofPt P).1 (!oddV (ofPt P).2.1) = (ofPt (pneg P), 0) := by
  match P, hn, hP with
  | some (x, y), _, hP =>
    have hon : OnN (x.val, y.val, false) := OnN_ofPt hP
    have hpt : ptF (x.val, y.val, false) = some (x, y) := ptF_ofPt (some (x, y))
    constructor
    · show liftV x.val (oddV y.val) = ((x.val, y.val, false), 0)
      rw [lift_on hon, if_pos (show oddV y.val = decide (y.val % 2 = 1) from rfl)]
    · show liftV x.val (!oddV y.val) = (ofPt (pneg (some (x, y))), 0)
      rw [lift_on hon, if_neg (by unfold oddV; cases decide (y.val % 2 = 1) <;> decide), neg_pt hon, hpt]

theorem sign_pt {key nonce : Nat} {d : List Int} {r s : Nat} {o : Bool} (h1 : fitV key = true) (h2 : fitV nonce = true) (h : signV key nonce d = ((r, s, o), 0)) :
    ∃ R : Pt, PtOk R ∧ R ≠ none ∧ liftV r o = (ofPt R, 0) ∧ (ofPt R).1 = r ∧ padd (smul (numV d) gP) (smul r (smul key gP)) = smul s R := by
  obtain ⟨n0, n1⟩ := fit_of h2
  unfold signV at h
  rw [if_pos h1, if_pos h2] at h
  have hP := smul_ok gP_ok nonce
  have hPn : smul nonce gP ≠ none := smul_ne (Nat.pos_of_ne_zero n0) n1
  obtain ⟨l1, l2⟩ := lift_self hP hPn
  have x1 := (neg_y hPn hP).1
  have hneg := smul_negn (k := nonce) (Nat.le_of_lt n1)
  have hr1 : (ofPt (smul nonce gP)).1 = r → toN ((numV d + (ofPt (smul nonce gP)).1 * key % ordN) % ordN) = toN (numV d) + toN r * toN key := fun e => by rw [e, toN_addm, toN_mulm]
  have hsl : sN (ofPt (smul nonce gP)).1 key nonce d < ordN := lt_n _
  have hsm : toN (sN (ofPt (smul nonce gP)).1 key nonce d) = toN ((numV d + (ofPt (smul nonce gP)).1 * key % ordN) % ordN) * toN (wN nonce) := toN_mulm _ _
  generalize sN (ofPt (smul nonce gP)).1 key nonce d = s0 at *
  generalize (numV d + (ofPt (smul nonce gP)).1 * key % ordN) % ordN = t at *
  have hw := toN_wN n0 n1
  unfold signP at h
  by_cases h3 : (ofPt (smul nonce gP)).1 < ordN
  · rw [if_pos h3] at h
    by_cases h4 : (ofPt (smul nonce gP)).1 = 0
    · rw [if_pos h4] at h; exact absurd (Prod.mk.inj h).2 (by decide)
    · rw [if_neg h4] at h
      by_cases h5 : s0 = 0
      · rw [if_pos h5] at h; exact absurd (Prod.mk.inj h).2 (by decide)
      · rw [if_neg h5] at h
        by_cases h7 : lowV s0 = true
        · rw [if_pos h7] at h
          obtain ⟨e1, e2⟩ := Prod.mk.inj (Prod.mk.inj h).1
          obtain ⟨e3, e4⟩ := Prod.mk.inj e2
          refine ⟨smul nonce gP, hP, hPn, by rw [← e1, ← e4]; exact l1, e1, ?_⟩
          have hr := hr1 e1
          rw [← e3, ← smul_mul gP_ok, ← smul_mul gP_ok, ← smul_add gP_ok]
          exact smul_N gP_ok (by rw [toN_add, toN_mul, toN_mul, hsm, hr]; grind)
        · rw [if_neg h7, negS h5 hsl] at h
          obtain ⟨e1, e2⟩ := Prod.mk.inj (Prod.mk.inj h).1
          obtain ⟨e3, e4⟩ := Prod.mk.inj e2
          refine ⟨pneg (smul nonce gP), pneg_ok hP, (fun e => ?_), by rw [← e1, ← e4]; exact l2, x1.trans e1, ?_⟩
          · have := padd_neg (smul nonce gP)
            rw [e, padd_none] at this
            exact hPn this
          have hr := hr1 e1
          have a1 : toN ((ordN - s0 % ordN) % ordN) = -toN s0 := toN_neg s0
          rw [negS h5 hsl] at a1
          have a2 : toN ((ordN - nonce % ordN) % ordN) = -toN nonce := toN_neg nonce
          rw [negS n0 n1] at a2
          rw [← e3, ← hneg, ← smul_mul gP_ok, ← smul_mul gP_ok, ← smul_add gP_ok]
          exact smul_N gP_ok (by rw [toN_add, toN_mul, toN_mul, a1, a2, hsm, hr]; grind)
  · rw [if_neg h3] at h; exact absurd (Prod.mk.inj h).2 (by decide)

end Go.Sy
