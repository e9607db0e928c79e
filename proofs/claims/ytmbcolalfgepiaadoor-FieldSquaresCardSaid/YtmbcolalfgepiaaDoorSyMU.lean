/- Squares, roots, residues: the law of squares. -/
import Derived.Test.YtmbcolalfgepiaaDoorSyMS
import Derived.Test.YtmbcolalfgepiaaDoorSyMO
set_option linter.unusedVariables false
set_option linter.unusedSimpArgs false
namespace Go.Sy
open Go

theorem one_lt_p : 1 < prP := by decide
theorem p_pos : 0 < prP := by decide

/-- A square's roots. -/
theorem sq_roots {a b : Nat} (ha : a < prP) (hb : b < prP) (h : a * a % prP = b * b % prP) : a = b ∨ a + b = prP ∨ (a = 0 ∧ b = 0) := by
  have key : ∀ {a b : Nat}, a < prP → b < prP → b ≤ a → a * a % prP = b * b % prP → a = b ∨ a + b = prP ∨ (a = 0 ∧ b = 0) := by
    intro a b ha hb hle h
    have h1 : (a * a - b * b) % prP = 0 := Nat.sub_mod_eq_zero_of_mod_eq h
    rw [Nat.mul_self_sub_mul_self_eq] at h1
    rcases prime_prP.euclid (Nat.dvd_of_mod_eq_zero h1) with h2 | h2
    · rcases Nat.eq_zero_or_pos (a + b) with h3 | h3
      · exact .inl (by omega)
      · obtain ⟨c, hc⟩ := h2
        have : c = 1 := by
          rcases Nat.lt_or_ge c 2 with h4 | h4
          · rcases Nat.eq_zero_or_pos c with h5 | h5
            · subst h5; omega
            · omega
          · have := Nat.mul_le_mul_left prP h4; omega
        subst this; exact .inr (.inl (by omega))
    · rcases Nat.eq_zero_or_pos (a - b) with h3 | h3
      · exact .inl (by omega)
      · have := Nat.le_of_dvd h3 h2; omega
  rcases Nat.le_total b a with hle | hle
  · exact key ha hb hle h
  · rcases key hb ha hle h.symm with h | h | h
    · exact .inl h.symm
    · exact .inr (.inl (by omega))
    · exact .inr (.inr ⟨h.2, h.1⟩)

/-- Euler's power. -/
def eul (x : Nat) : Nat := x ^ halfP % prP

theorem eul_sq {x : Nat} (hx : x % prP ≠ 0) : eul x * eul x % prP = 1 := by
  unfold eul
  rw [← Nat.mul_mod, ← Nat.pow_add]
  have : halfP + halfP = modK 0 - 1 := by decide
  rw [this]
  exact fermatK 0 hx

theorem eul_three (x : Nat) : (x % prP = 0 ∧ eul x = 0) ∨ (x % prP ≠ 0 ∧ eul x = 1) ∨ (x % prP ≠ 0 ∧ eul x = prP - 1) := by
  by_cases h : x % prP = 0
  · exact .inl ⟨h, res_zero.2 h⟩
  · have hl : eul x < prP := Nat.mod_lt _ p_pos
    have h1 : eul x * eul x % prP = 1 * 1 % prP := by rw [eul_sq h]; rfl
    rcases sq_roots hl one_lt_p h1 with h2 | h2 | h2
    · exact .inr (.inl ⟨h, h2⟩)
    · exact .inr (.inr ⟨h, by omega⟩)
    · omega

theorem eul_mul (x y : Nat) : eul (x * y % prP) = eul x * eul y % prP := by
  unfold eul
  rw [← Nat.pow_mod, Nat.mul_pow, Nat.mul_mod]

theorem prP_odd : prP % 2 = 1 := by decide

theorem root_of_sq (x : Nat) : ∃ e, rootV (x * x % prP) = (e, 0) ∧ e < prP ∧ e % 2 = 0 ∧ (e = x % prP ∨ (prP - e % prP) % prP = x % prP) := by
  have hq : x % prP < prP := Nat.mod_lt _ p_pos
  have hv : x * x % prP = x % prP * (x % prP) % prP := Nat.mul_mod _ _ _
  have hr : (x * x % prP) ^ quaP % prP < prP := Nat.mod_lt _ p_pos
  have hsq : (x * x % prP) ^ quaP % prP * ((x * x % prP) ^ quaP % prP) % prP = x * x % prP % prP := by
    refine (root_sq _).trans ?_
    have h1 : eul (x * x % prP) = eul x * eul x % prP := eul_mul x x
    show eul (x * x % prP) * (x * x % prP) % prP = _
    by_cases h0 : x % prP = 0
    · have h2 : x * x % prP = 0 := by rw [hv, h0, Nat.zero_mul, Nat.zero_mod]
      rw [h2, Nat.mul_zero]
    · rw [h1, eul_sq h0, Nat.one_mul]
  unfold rootV
  rw [if_pos hsq]
  generalize (x * x % prP) ^ quaP % prP = r at *
  rw [Nat.mod_mod, hv] at hsq
  have hodd := prP_odd
  have hrr : r % prP = r := Nat.mod_eq_of_lt hr
  rcases sq_roots hr hq hsq with h | h | h
  · by_cases h2 : r % 2 = 1
    · rw [if_pos h2]
      have e1 : (prP - r % prP) % prP = prP - r := by rw [hrr, Nat.mod_eq_of_lt (by omega)]
      refine ⟨prP - r, by rw [e1], by omega, by omega, .inr ?_⟩
      rw [Nat.mod_eq_of_lt (show prP - r < prP by omega), show prP - (prP - r) = r by omega, hrr]; exact h
    · rw [if_neg h2]
      exact ⟨r, rfl, hr, by omega, .inl h⟩
  · by_cases h2 : r % 2 = 1
    · rw [if_pos h2]
      have e1 : (prP - r % prP) % prP = prP - r := by rw [hrr, Nat.mod_eq_of_lt (by omega)]
      exact ⟨prP - r, by rw [e1], by omega, by omega, .inl (by omega)⟩
    · rw [if_neg h2]
      refine ⟨r, rfl, hr, by omega, .inr ?_⟩
      rw [hrr, show prP - r = x % prP by omega, Nat.mod_mod]
  · rw [if_neg (by omega)]
    exact ⟨r, rfl, hr, by omega, .inl (by omega)⟩

theorem neg_sq {r : Nat} (hr : r < prP) : (prP - r % prP) % prP * ((prP - r % prP) % prP) % prP = r * r % prP := by
  rw [← Nat.mul_mod, Nat.mod_eq_of_lt hr]
  obtain ⟨c, hc⟩ : ∃ c, prP = r + c := ⟨prP - r, by omega⟩
  have h1 : prP - r = c := by omega
  rw [h1]
  have e : c * c + prP * r = r * r + prP * c := by
    rw [hc, Nat.add_mul, Nat.add_mul, Nat.mul_comm c r]; omega
  calc c * c % prP = (c * c + prP * r) % prP := (Nat.add_mul_mod_self_left _ _ _).symm
    _ = (r * r + prP * c) % prP := by rw [e]
    _ = r * r % prP := Nat.add_mul_mod_self_left _ _ _

theorem resV_eul (x : Nat) : resV x = if eul x = 0 then 0 else if eul x = 1 then 1 else -1 := rfl

theorem root_good {x : Nat} (h : eul x * x % prP = x % prP) : ∃ r, rootV x = (r, 0) ∧ r < prP ∧ r * r % prP = x % prP := by
  have hr : x ^ quaP % prP < prP := Nat.mod_lt _ p_pos
  have hs : x ^ quaP % prP * (x ^ quaP % prP) % prP = x % prP := (root_sq x).trans h
  unfold rootV
  rw [if_pos hs]
  by_cases h2 : x ^ quaP % prP % 2 = 1
  · rw [if_pos h2]; exact ⟨_, rfl, Nat.mod_lt _ p_pos, (neg_sq hr).trans hs⟩
  · rw [if_neg h2]; exact ⟨_, rfl, hr, hs⟩

theorem root_none {x : Nat} (h : eul x * x % prP ≠ x % prP) : rootV x = (0, 41) := by
  have hs : ¬ x ^ quaP % prP * (x ^ quaP % prP) % prP = x % prP := fun e => h ((root_sq x).symm.trans e)
  unfold rootV
  rw [if_neg hs]

theorem root_cases (x : Nat) : (x % prP = 0 ∧ eul x = 0 ∧ resV x = 0 ∧ ∃ r, rootV x = (r, 0) ∧ r < prP ∧ r * r % prP = x % prP) ∨ (x % prP ≠ 0 ∧ eul x = 1 ∧ resV x = 1 ∧ ∃ r, rootV x = (r, 0) ∧ r < prP ∧ r * r % prP = x % prP) ∨ (x % prP ≠ 0 ∧ eul x = prP - 1 ∧ resV x = -1 ∧ rootV x = (0, 41)) := by
  rcases eul_three x with ⟨h, e⟩ | ⟨h, e⟩ | ⟨h, e⟩
  · exact .inl ⟨h, e, by rw [resV_eul, e]; rfl, root_good (by rw [e, h, Nat.zero_mul]; rfl)⟩
  · exact .inr (.inl ⟨h, e, by rw [resV_eul, e]; rfl, root_good (by rw [e, Nat.one_mul])⟩)
  · refine .inr (.inr ⟨h, e, by rw [resV_eul, e, if_neg (by decide), if_neg (by decide)], root_none fun h1 => ?_⟩)
    have h2 := (euler_one h).1 h1
    unfold eul at e
    rw [e] at h2
    exact absurd h2 (by decide)

theorem resV_mul (x y : Nat) : resV (x * y % prP) = resV x * resV y := by
  rw [resV_eul, eul_mul, resV_eul, resV_eul]
  rcases eul_three x with ⟨_, e⟩ | ⟨_, e⟩ | ⟨_, e⟩ <;> rcases eul_three y with ⟨_, f⟩ | ⟨_, f⟩ | ⟨_, f⟩ <;> rw [e, f] <;> decide

theorem or_step {α : Type} {c1 c2 : Bool} {T f r : α} (h : c1 = false ∨ c2 = false) (k : T = r) : (bif c1 then (bif c2 then f else T) else T) = r := by
  cases c1
  · exact k
  · cases c2
    · exact k
    · simp at h

theorem half1 : (prP - 1) / 2 ^ 1 = halfP := by decide

theorem law04FieldSquares_true {x y : Nat} (hx : x < M256) (hy : y < M256) : law04FieldSquares x y = some true := by
  obtain ⟨e, he, hel, he2, hee⟩ := root_of_sq x
  have hL := mod_p_lt
  have h0 : (0 : Int) = 0 ∨ (0 : Int) = 1 := .inl rfl
  have hpl := prP_lt
  have he256 : e < M256 := by omega
  have gm : fieldModulus 0 = some (prP, 0) := by rw [fieldModulus_val, ansK_good h0]; rfl
  have gn : fieldNeg 0 e = some ((prP - e % prP) % prP, 0) := by rw [fieldNeg_val 0 he256, ansK_good h0]; rfl
  have gx : fieldExp 0 x halfP = some (eul x, 0) := by rw [fieldExp_val 0 hx halfP_lt, ansK_good h0]; rfl
  have mul : ∀ {a b : Nat}, a < M256 → b < M256 → law04SumMul ((0 : Int), false) a b = some (a * b % prP, ((0 : Int), false)) := fun ha hb => sumMul_val h0 ha hb
  have gsh : u256Shr (prP - 1) (1 : Int) = some halfP := by
    rw [← half1]; exact u256Shr_val (n := 1) (by omega) (by omega)
  have eul_lt : eul x < M256 := hL _
  rw [law04FieldSquares_eq]
  unfold law04FieldSquaresB
  refine bind_step gm (bind_step (mul hx hx) (bind_step (a := (e, 0)) ((fieldRoot_val (hL _)).trans (congrArg some he)) (bind_step gn (bind_step (u256From_val (c := 1) (by omega)) (bind_step (mul hx (by decide)) (guard_else rfl (guard_else rfl (guard_else rfl (bind_step (u256Bit_val (i := 0) (by omega)) (guard_else ?_ (or_step ?_ (bind_step (u256Cmp_val he256 hpl) (guard_else (by rw [cmp_lt hel]; rfl) ?_)))))))))))))
  · have : bitN e 0 = 0 := by unfold bitN; rw [Nat.pow_zero, Nat.div_one]; exact he2
    rw [this]; rfl
  · rw [Nat.mul_one]
    rcases hee with h | h
    · left; show (!(u256eq e (x % prP))) = false; exact ne_no h
    · right; show (!(u256eq ((prP - e % prP) % prP) (x % prP))) = false; exact ne_no h
  have tail : ∀ {q1 q2 q3 : Bool}, q1 = true → q2 = true → q3 = true → True := fun _ _ _ => trivial
  rw [Nat.mul_one]
  rcases root_cases x with ⟨k0, k1, k2, r, k3, k4, k5⟩ | ⟨k0, k1, k2, r, k3, k4, k5⟩ | ⟨k0, k1, k2, k3⟩
  · have hr : r < M256 := by omega
    refine bind_step ((fieldRoot_val hx).trans (congrArg some k3)) (bind_step ((fieldResidue_val hx).trans (congrArg some k2)) (guard_else rfl (guard_step rfl (bind_step (mul hr hr) (guard_else (ne_no k5) (guard_else rfl ?_))))))
    refine bind_step (u256From_val (c := 1) (by omega)) (bind_step (sub_val hpl (by decide)) (bind_step gsh (bind_step gx (guard_else rfl (bind_step (u256From_val (c := 1) (by omega)) ?_)))))
    rw [k1, k0]
    refine guard_else rfl (guard_else rfl (guard_else rfl (bind_step (mul hx hy) (bind_step (fieldResidue_val (hL _)) (bind_step (fieldResidue_val hy) ?_)))))
    rw [resV_mul, k2]
    refine guard_step ?_ rfl
    rw [Int.zero_mul]; rfl
  · have hr : r < M256 := by omega
    refine bind_step ((fieldRoot_val hx).trans (congrArg some k3)) (bind_step ((fieldResidue_val hx).trans (congrArg some k2)) (guard_else rfl (guard_step rfl (bind_step (mul hr hr) (guard_else (ne_no k5) (guard_else rfl ?_))))))
    refine bind_step (u256From_val (c := 1) (by omega)) (bind_step (sub_val hpl (by decide)) (bind_step gsh (bind_step gx (guard_else rfl (bind_step (u256From_val (c := 1) (by omega)) ?_)))))
    rw [k1]
    refine guard_else rfl (guard_else rfl (guard_else (by rw [u256eq_val (hL _) (by decide), decide_eq_false k0]; rfl) (bind_step (mul hx hy) (bind_step (fieldResidue_val (hL _)) (bind_step (fieldResidue_val hy) ?_)))))
    rw [resV_mul, k2]
    refine guard_step ?_ rfl
    rw [Int.one_mul, resV_eul]; split <;> (try split) <;> rfl
  · refine bind_step ((fieldRoot_val hx).trans (congrArg some k3)) (bind_step ((fieldResidue_val hx).trans (congrArg some k2)) (guard_else rfl (guard_else rfl (guard_step rfl (bind_step (law04INum_val _) (guard_else rfl ?_))))))
    refine bind_step (u256From_val (c := 1) (by omega)) (bind_step (sub_val hpl (by decide)) (bind_step gsh (bind_step gx (guard_else rfl (bind_step (u256From_val (c := 1) (by omega)) ?_)))))
    rw [k1]
    refine guard_else rfl (guard_else (by rw [u256eq_self]; rfl) (guard_else (by rw [u256eq_val (hL _) (by decide), decide_eq_false k0]; rfl) (bind_step (mul hx hy) (bind_step (fieldResidue_val (hL _)) (bind_step (fieldResidue_val hy) ?_)))))
    rw [resV_mul, k2]
    refine guard_step ?_ rfl
    rw [resV_eul y]; split <;> (try split) <;> rfl
end Go.Sy
