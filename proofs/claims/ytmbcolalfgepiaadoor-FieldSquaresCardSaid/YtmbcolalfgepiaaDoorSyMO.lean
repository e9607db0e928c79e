/- Roots and residues on both sides: the law of roots. -/
import Derived.Test.YtmbcolalfgepiaaDoorSyMN
import Derived.Test.YtmbcolalfgepiaaDoorSyMB
import Derived.Test.YtmbcolalfgepiaaDoorSyPb
set_option linter.unusedVariables false
set_option linter.unusedSimpArgs false
namespace Go.Sy
open Go

def quaP : Nat := 28948022309329048855892746252171976963317496166410141009864396001977208667916
def halfP : Nat := 57896044618658097711785492504343953926634992332820282019728792003954417335831

theorem u256Shr_p1 : u256Shr prP 1 = some halfP := by
  have h : u256ShrL0 1 0 prP 0 0 = some (0, halfP) := by rw [u256ShrL0_eq]; kernel_rfl
  have e : u256ShrB prP 1 = (u256ShrL0 1 0 prP 0 0).bind fun q => some q.2 := by kernel_rfl
  rw [u256Shr_eq, e, h]
  rfl

theorem u256Shr_p2 : u256Shr (prP + 1) 2 = some quaP := by
  have h : u256ShrL0 2 0 (prP + 1) 0 0 = some (0, quaP) := by rw [u256ShrL0_eq]; kernel_rfl
  have e : u256ShrB (prP + 1) 2 = (u256ShrL0 2 0 (prP + 1) 0 0).bind fun q => some q.2 := by kernel_rfl
  rw [u256Shr_eq, e, h]
  rfl

theorem ref01Shr_p2 : ref01Shr (prP + 1) 2 = some quaP := by
  have h : ref01ShlL0 (-2) 0 (prP + 1) 0 0 = some (0, quaP) := by rw [ref01ShlL0_eq, shlR_eq]; kernel_rfl
  have e : ref01ShlB (prP + 1) (-2) = (ref01ShlL0 (-2) 0 (prP + 1) 0 0).bind fun q => some q.2 := by kernel_rfl
  have h2 : ref01Shl (prP + 1) (-2) = some quaP := by rw [ref01Shl_eq, e, h]; rfl
  have e2 : ref01ShrB (prP + 1) 2 = (ref01Shl (prP + 1) (-2)).bind fun r => some r := by kernel_rfl
  rw [ref01Shr_eq, e2, h2]
  rfl

theorem modK0 : modK 0 = prP := rfl
theorem moduli0 : fieldModuli.getD 0 ((0, 0) : Nat × Nat) = (modK 0, restK 0) := by kernel_rfl
theorem prP_lt : prP < M256 := by decide
theorem quaP_lt : quaP < M256 := by decide
theorem halfP_lt : halfP < M256 := by decide

theorem add1 : ∃ o : Nat, u256Add prP 1 = some (prP + 1, (o : Int)) := by
  obtain ⟨r, o, h1, h2, h3, h4⟩ := u256Add_val prP_lt (show 1 < M256 by decide)
  have : r = prP + 1 := by
    have : prP + 1 < M256 := by decide
    rcases (show o = 0 ∨ o = 1 by omega) with rfl | rfl <;> omega
  subst this
  exact ⟨o, h1⟩
theorem radd1 : ∃ o : Nat, ref01Add prP 1 = some (prP + 1, (o : Int)) := by
  obtain ⟨r, o, h1, h2, h3, h4⟩ := ref01Add_val prP_lt (show 1 < M256 by decide)
  have : r = prP + 1 := by
    have : prP + 1 < M256 := by decide
    rcases (show o = 0 ∨ o = 1 by omega) with rfl | rfl <;> omega
  subst this
  exact ⟨o, h1⟩

theorem low_bit (r : Nat) : ln r 0 % 2 = r % 2 := by
  unfold ln
  rw [Nat.mul_zero, Nat.pow_zero, Nat.div_one]
  omega

/-- What a root is. -/
def rootV (x : Nat) : Nat × Int :=
  if x ^ quaP % prP * (x ^ quaP % prP) % prP = x % prP then
    (if x ^ quaP % prP % 2 = 1 then ((prP - x ^ quaP % prP % prP) % prP, 0) else (x ^ quaP % prP, 0))
  else (0, 41)

theorem mod_p_lt (n : Nat) : n % prP < M256 := mod_lt256 0 n

theorem fieldRoot_val {x : Nat} (hx : x < M256) : fieldRoot x = some (rootV x) := by
  rw [fieldRoot_eq]
  unfold fieldRootB rootV
  rw [moduli0]
  obtain ⟨o, ho⟩ := add1
  have hr : x ^ quaP % prP < M256 := mod_p_lt _
  refine bind_step (u256From_val (c := 1) (by omega)) (bind_step ho (bind_step u256Shr_p2 (bind_step (fExp_val 0 hx quaP_lt) (bind_step (fMul_val 0 hr hr) (bind_step (fOne_val 0 hx) ?_)))))
  rw [modK0]
  by_cases h : x ^ quaP % prP * (x ^ quaP % prP) % prP = x % prP
  · rw [if_pos h]
    refine guard_else (by rw [h, u256eq_self]; rfl) ?_
    have hb : andI .u64 (limb (x ^ quaP % prP) 0) (1 : Int) = ((x ^ quaP % prP % 2 : Nat) : Int) := by rw [limb_ln, and1 _ (ln_lt _ _), low_bit]
    by_cases h2 : x ^ quaP % prP % 2 = 1
    · rw [if_pos h2]
      exact guard_step (by rw [hb, h2]; rfl) (bind_step (fNeg_val 0 hr) rfl)
    · rw [if_neg h2]
      have h3 : x ^ quaP % prP % 2 = 0 := by omega
      exact guard_else (by rw [hb, h3]; rfl) rfl
  · rw [if_neg h]
    exact guard_step (by rw [u256eq_val (mod_p_lt _) (mod_p_lt _), decide_eq_false h]; rfl) rfl

theorem ref04Root_val {x : Nat} (hx : x < M256) : ref04Root x = some (rootV x) := by
  rw [ref04Root_eq]
  unfold ref04RootB rootV
  obtain ⟨o, ho⟩ := radd1
  have hr : x ^ quaP % prP < M256 := mod_p_lt _
  refine bind_step (ref04IModulus_val 0) (bind_step (ref01From_val (c := 1) (by omega)) (bind_step ho (bind_step ref01Shr_p2 (bind_step (rPower_val 0 hx quaP_lt) (bind_step (rTimes_val 0 hr hr) (bind_step (rBelow_val 0 hx) ?_))))))
  rw [modK0]
  by_cases h : x ^ quaP % prP * (x ^ quaP % prP) % prP = x % prP
  · rw [if_pos h]
    refine guard_else (by rw [h, u256eq_self]; rfl) ?_
    have hb : Int.tmod (limb (x ^ quaP % prP) 0) (2 : Int) = ((x ^ quaP % prP % 2 : Nat) : Int) := by
      rw [limb_ln, ← low_bit]; rfl
    by_cases h2 : x ^ quaP % prP % 2 = 1
    · rw [if_pos h2]
      exact guard_step (by rw [hb, h2]; rfl) (bind_step (rLess_val 0 hr) rfl)
    · rw [if_neg h2]
      have h3 : x ^ quaP % prP % 2 = 0 := by omega
      exact guard_else (by rw [hb, h3]; rfl) rfl
  · rw [if_neg h]
    exact guard_step (by rw [u256eq_val (mod_p_lt _) (mod_p_lt _), decide_eq_false h]; rfl) rfl

/-- What the residue is: Euler's power. -/
def resV (x : Nat) : Int := if x ^ halfP % prP = 0 then 0 else if x ^ halfP % prP = 1 then 1 else -1

theorem fieldResidue_val {x : Nat} (hx : x < M256) : fieldResidue x = some (resV x) := by
  rw [fieldResidue_eq]
  unfold fieldResidueB resV
  rw [moduli0]
  refine bind_step u256Shr_p1 (bind_step (fExp_val 0 hx halfP_lt) ?_)
  rw [modK0]
  by_cases h0 : x ^ halfP % prP = 0
  · rw [if_pos h0]; exact guard_step (by rw [u256eq_val (mod_p_lt _) (by decide)]; simp [h0]) rfl
  · rw [if_neg h0]
    refine guard_else (by rw [u256eq_val (mod_p_lt _) (by decide)]; simp [h0]) ?_
    by_cases h1 : x ^ halfP % prP = 1
    · rw [if_pos h1]; exact guard_step (by rw [u256eq_val (mod_p_lt _) (by decide)]; simp [h1]) rfl
    · rw [if_neg h1]; exact guard_else (by rw [u256eq_val (mod_p_lt _) (by decide)]; simp [h1]) rfl

theorem prime_prP : PrimeN prP := prime_p

theorem res_zero {x : Nat} : x ^ halfP % prP = 0 ↔ x % prP = 0 := by
  constructor
  · intro h; exact Nat.mod_eq_zero_of_dvd (prime_prP.pow (Nat.dvd_of_mod_eq_zero h))
  · intro h
    rw [Nat.pow_mod, h, Nat.zero_pow (by decide), Nat.zero_mod]

/-- A root's square is Euler's power times the number. -/
theorem root_sq (x : Nat) : x ^ quaP % prP * (x ^ quaP % prP) % prP = x ^ halfP % prP * x % prP := by
  rw [← Nat.mul_mod, ← Nat.pow_add, Nat.mod_mul_mod, ← Nat.pow_succ]
  rfl

theorem euler_one {x : Nat} (hx : x % prP ≠ 0) : x ^ halfP % prP * x % prP = x % prP ↔ x ^ halfP % prP = 1 := by
  have hv : x ^ halfP % prP ≠ 0 := fun h => hx (res_zero.1 h)
  generalize hvv : x ^ halfP % prP = v at *
  have hlt : v < prP := by rw [← hvv]; exact Nat.mod_lt _ (by decide)
  constructor
  · intro h
    have h1 : (v * x - x) % prP = 0 := Nat.sub_mod_eq_zero_of_mod_eq h
    have h2 : prP ∣ (v - 1) * x := by rw [Nat.sub_mul, Nat.one_mul]; exact Nat.dvd_of_mod_eq_zero h1
    rcases prime_prP.euclid h2 with h3 | h3
    · rcases Nat.eq_zero_or_pos (v - 1) with h4 | h4
      · omega
      · have := Nat.le_of_dvd h4 h3; omega
    · exact absurd (Nat.mod_eq_zero_of_dvd h3) hx
  · intro h; rw [h, Nat.one_mul]

theorem ref04Residue_val {x : Nat} (hx : x < M256) : ref04Residue x = some (resV x) := by
  rw [ref04Residue_eq]
  unfold ref04ResidueB resV
  refine bind_step (rBelow_val 0 hx) ?_
  rw [modK0]
  by_cases h0 : x % prP = 0
  · rw [if_pos (res_zero.2 h0)]
    exact guard_step (by rw [u256eq_val (mod_p_lt _) (by decide)]; simp [h0]) rfl
  · rw [if_neg (fun h => h0 (res_zero.1 h))]
    refine guard_else (by rw [u256eq_val (mod_p_lt _) (by decide)]; simp [h0]) (bind_step (ref04Root_val hx) ?_)
    unfold rootV
    rw [root_sq]
    by_cases h1 : x ^ halfP % prP = 1
    · rw [if_pos ((euler_one h0).2 h1), if_pos h1]
      refine guard_else ?_ rfl
      split <;> rfl
    · rw [if_neg (fun h => h1 ((euler_one h0).1 h)), if_neg h1]
      exact guard_step rfl rfl

theorem law04FieldRoots_true {x : Nat} (hx : x < M256) : law04FieldRoots x = some true := by
  rw [law04FieldRoots_eq]
  unfold law04FieldRootsB
  refine bind_step (fieldRoot_val hx) (bind_step (ref04Root_val hx) (guard_step (u256eq_self _) (bind_step (law04INum_val _) (guard_step (by simp) (bind_step (fieldResidue_val hx) (bind_step (ref04Residue_val hx) ?_))))))
  simp
end Go.Sy
