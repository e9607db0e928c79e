/- The document's sums. -/
import Derived.Test.YtmbcolalfgepiaaDoorSyMH
set_option linter.unusedVariables false
set_option linter.unusedSimpArgs false
namespace Go.Sy
open Go

theorem valL_lt {B : Nat} : ∀ {l : List Nat}, digs B l → valL B l < B ^ l.length
  | [], _ => by simp [valL]
  | d :: l, h => by
    have h0 : d < B := h 0
    have ih := valL_lt (B := B) (l := l) fun k => by simpa using h (k + 1)
    simp only [valL, List.length_cons, Nat.pow_succ]
    have h2 : B * (valL B l + 1) ≤ B * B ^ l.length := Nat.mul_le_mul_left _ ih
    rw [Nat.mul_add, Nat.mul_one] at h2
    rw [Nat.mul_comm (B ^ l.length)]
    omega

theorem number_val {d : List Nat} (hl : d.length = 8) (hd : digs 4294967296 d) : ref01INumber (cst d) = some (valL 4294967296 d) ∧ valL 4294967296 d < M256 := by
  have hlt : valL 4294967296 d < M256 := by
    have := valL_lt hd
    rw [hl] at this
    exact this
  refine ⟨?_, hlt⟩
  clear hlt
  obtain ⟨a, b, c, e, f, g, h, i, rfl⟩ := digs_eight hl
  have h0 := hd 0; have h1 := hd 1; have h2 := hd 2; have h3 := hd 3
  have h4 := hd 4; have h5 := hd 5; have h6 := hd 6; have h7 := hd 7
  simp only [List.getD_cons_zero, List.getD_cons_succ] at h0 h1 h2 h3 h4 h5 h6 h7
  have w : ∀ u v : Nat, u < 4294967296 → v < 4294967296 → IntKind.wrap .u64 ((u : Int) + IntKind.wrap .u64 (4294967296 * (v : Int))) = ((u + 4294967296 * v : Nat) : Int) := fun u v hu hv => by
    have e1 : (4294967296 : Int) * (v : Int) = ((4294967296 * v : Nat) : Int) := by simp
    rw [e1, wrap64, Nat.mod_eq_of_lt (by omega), ← Int.natCast_add, wrap64, Nat.mod_eq_of_lt (by omega)]
  rw [ref01INumber_eq]
  unfold ref01INumberB
  rw [cst_getD, cst_getD, cst_getD, cst_getD, cst_getD, cst_getD, cst_getD, cst_getD]
  simp only [List.getD_cons_zero, List.getD_cons_succ]
  rw [w a b h0 h1, w c e h2 h3, w f g h4 h5, w h i h6 h7]
  refine guard_step (inU64_nat (by omega)) (guard_step (inU64_nat (by omega)) (guard_step (inU64_nat (by omega)) (guard_step (inU64_nat (by omega)) ?_)))
  rw [four_val (by omega) (by omega) (by omega) (by omega)]
  congr 1
  clear w h0 h1 h2 h3 h4 h5 h6 h7 hd hl
  simp only [valL]
  omega
end Go.Sy
