/- Plain law: sums, products and reductions are what division by the modulus leaves. -/
import Derived.Test.YtmbcolalfgepiaaDoorSyMY
import Derived.Test.YtmbcolalfgepiaaDoorSyMa3
set_option linter.unusedVariables false
set_option linter.unusedSimpArgs false
namespace Go.Sy
open Go

theorem u256MulMod_val {x y m : Nat} (hx : x < M256) (hy : y < M256) (hm : m < M256) (h0 : m ≠ 0) : u256MulMod x y m = some (x * y % m, 0) := by
  rw [u256MulMod_eq]
  unfold u256MulModB
  obtain ⟨h, l, e, hh, hl, hv⟩ := u256Mul_val hx hy
  refine bind_step e (bind_step (u256Reduce_val hh hl hm h0) ?_)
  show some ((h * M256 + l) % m, (0 : Int)) = _
  rw [← hv, Nat.mul_comm h, Nat.add_comm]

theorem law04FieldWhole_true (w : Int) {x y : Nat} (hx : x < M256) (hy : y < M256) : law04FieldWhole w x y = some true := by
  rw [law04FieldWhole_eq]
  unfold law04FieldWholeB
  obtain ⟨k, hk, hw⟩ := kind_val w
  have hm : modK k < M256 := by rcases hk with h | h <;> subst h <;> decide
  have h0 : modK k ≠ 0 := by rcases hk with h | h <;> subst h <;> decide
  have h1 : 1 * 1 % modK k = 1 := by rcases hk with h | h <;> subst h <;> decide
  have am : fieldModulus k = some (modK k, 0) := by rw [fieldModulus_val, ansK_good hk]
  have aa : fieldAdd k x y = some ((x + y) % modK k, 0) := by rw [fieldAdd_val k hx hy, ansK_good hk]
  have ab : fieldMul k x y = some (x * y % modK k, 0) := by rw [fieldMul_val k hx hy, ansK_good hk]
  have ar : fieldReduce k x y = some ((x * M256 + y) % modK k, 0) := by rw [fieldReduce_val k hx hy, ansK_good hk]
  have a1 : fieldMul k 1 1 = some (1, 0) := by rw [fieldMul_val k (by decide) (by decide), ansK_good hk, h1]
  refine bind_step hw (bind_step am (bind_step aa (bind_step (u256AddMod_val hx hy hm h0) (bind_step ab (bind_step (u256MulMod_val hx hy hm h0) (bind_step ar (bind_step (u256Reduce_val hx hy hm h0) (bind_step a1 ?_))))))))
  exact guard_else rfl (guard_else (by rw [u256eq_self]; rfl) (guard_else rfl (guard_else rfl (guard_else rfl (guard_else rfl (guard_else rfl (guard_else rfl (guard_else rfl (guard_step (u256eq_self _) (guard_step (u256eq_self _) (by rw [u256eq_self])))))))))))
end Go.Sy
