/- The laws of a field: true. -/
import Derived.Test.YtmbcolalfgepiaaDoorSyMN
set_option linter.unusedVariables false
set_option linter.unusedSimpArgs false
namespace Go.Sy
open Go

theorem kind_val (w : Int) : ∃ k : Int, (k = 0 ∨ k = 1) ∧ law04IKind w = some k := by
  rw [law04IKind_eq]
  unfold law04IKindB
  cases h : (Int.tmod w (2 : Int) == (0 : Int))
  · exact ⟨1, .inr rfl, rfl⟩
  · exact ⟨0, .inl rfl, rfl⟩

theorem ansK_good {k : Int} (h : k = 0 ∨ k = 1) (v : Nat) : ansK k v = (v, 0) := by unfold ansK; rw [if_pos h]

theorem sumAdd_val {k : Int} (h : k = 0 ∨ k = 1) {x y : Nat} (hx : x < M256) (hy : y < M256) : law04SumAdd (k, false) x y = some ((x + y) % modK k, (k, false)) := by
  rw [law04SumAdd_eq]
  unfold law04SumAddB
  refine bind_step (fieldAdd_val k hx hy) (guard_else rfl ?_)
  rw [ansK_good h]; rfl

theorem sumMul_val {k : Int} (h : k = 0 ∨ k = 1) {x y : Nat} (hx : x < M256) (hy : y < M256) : law04SumMul (k, false) x y = some (x * y % modK k, (k, false)) := by
  rw [law04SumMul_eq]
  unfold law04SumMulB
  refine bind_step (fieldMul_val k hx hy) (guard_else rfl ?_)
  rw [ansK_good h]; rfl

theorem ne_no {a b : Nat} (h : a = b) : (!(u256eq a b)) = false := by rw [h, u256eq_self]; rfl

theorem cmp_lt {a b : Nat} (h : a < b) : cmpI a b = -1 := by unfold cmpI; rw [if_pos h]

theorem law04FieldLaws_true (w : Int) {l : List Nat} (h0 : l.getD 0 0 < M256) (h1 : l.getD 1 0 < M256) (h2 : l.getD 2 0 < M256) : law04FieldLaws w l = some true := by
  obtain ⟨k, hk, hw⟩ := kind_val w
  have hz : (0 : Nat) < M256 := by decide
  have ho : (1 : Nat) < M256 := by decide
  have hm := modK_lt k
  have hp := modK_pos k
  have hL := mod_lt256 k
  rw [law04FieldLaws_eq]
  unfold law04FieldLawsB
  generalize l.getD 0 0 = x0 at *
  generalize l.getD 1 0 = y at *
  generalize l.getD 2 0 = z at *
  have gm : fieldModulus k = some (modK k, 0) := by rw [fieldModulus_val, ansK_good hk]
  have gr : fieldReduce k 0 x0 = some (x0 % modK k, 0) := by rw [fieldReduce_val k hz h0, ansK_good hk]; simp
  have hxm : x0 % modK k < modK k := Nat.mod_lt _ hp
  have hx : x0 % modK k < M256 := hL _
  refine bind_step hw (bind_step gm (bind_step gr (bind_step (u256From_val (c := 1) (by omega)) (guard_else rfl (guard_else rfl ?_)))))
  generalize x0 % modK k = x at *
  have gs : fieldSub k x y = some ((x + (modK k - y % modK k) % modK k) % modK k, 0) := by rw [fieldSub_val k hx h1, ansK_good hk]
  have gn : fieldNeg k y = some ((modK k - y % modK k) % modK k, 0) := by rw [fieldNeg_val k h1, ansK_good hk]
  have gq : fieldSquare k x = some (x * x % modK k, 0) := by rw [fieldSquare_val k hx, ansK_good hk]
  have one : 1 < modK k := one_lt_modK k
  have back : ((x + (modK k - y % modK k) % modK k) % modK k + y) % modK k = x := by
    have hy' := Nat.mod_lt y hp
    rw [Nat.mod_add_mod, Nat.add_right_comm, Nat.add_mod_mod, Nat.add_right_comm, Nat.add_assoc]
    have : (modK k - y % modK k) + y = modK k * (y / modK k + 1) := by
      have := Nat.div_add_mod y (modK k)
      rw [Nat.mul_add, Nat.mul_one]; omega
    rw [this, Nat.add_mul_mod_self_left, Nat.mod_eq_of_lt hxm]
  refine bind_step (u256Cmp_val hx hm) (guard_else (by rw [cmp_lt hxm]; rfl) ?_)
  refine bind_step (sumAdd_val hk hx h1) (bind_step (sumAdd_val hk h1 hx) (guard_else (ne_no (by rw [Nat.add_comm])) ?_))
  refine bind_step (sumMul_val hk hx h1) (bind_step (sumMul_val hk h1 hx) (guard_else (ne_no (by rw [Nat.mul_comm])) ?_))
  refine bind_step (sumAdd_val hk hx h1) (bind_step (sumAdd_val hk (hL _) h2) (bind_step (sumAdd_val hk h1 h2) (bind_step (sumAdd_val hk hx (hL _)) (guard_else (ne_no (by rw [Nat.mod_add_mod, Nat.add_mod_mod, Nat.add_assoc])) ?_))))
  refine bind_step (sumMul_val hk hx h1) (bind_step (sumMul_val hk (hL _) h2) (bind_step (sumMul_val hk h1 h2) (bind_step (sumMul_val hk hx (hL _)) (guard_else (ne_no (by rw [Nat.mod_mul_mod, Nat.mul_mod_mod, Nat.mul_assoc])) ?_))))
  refine bind_step (sumAdd_val hk h1 h2) (bind_step (sumMul_val hk hx (hL _)) (bind_step (sumMul_val hk hx h1) (bind_step (sumMul_val hk hx h2) (bind_step (sumAdd_val hk (hL _) (hL _)) (guard_else (ne_no (by rw [Nat.mul_mod_mod, Nat.mul_add, ← Nat.add_mod])) ?_)))))
  refine bind_step (sumAdd_val hk hx hz) (guard_else (ne_no (by rw [Nat.add_zero, Nat.mod_eq_of_lt hxm])) ?_)
  refine bind_step (sumMul_val hk hx ho) (guard_else (ne_no (by rw [Nat.mul_one, Nat.mod_eq_of_lt hxm])) ?_)
  refine bind_step (sumMul_val hk hx hz) (guard_else (ne_no (by rw [Nat.mul_zero, Nat.zero_mod])) ?_)
  refine bind_step gs (bind_step gn (bind_step gq (guard_else rfl (guard_else rfl (guard_else rfl ?_)))))
  refine bind_step (sumAdd_val hk (hL _) h1) (guard_else (ne_no back) ?_)
  refine bind_step (sumAdd_val hk hx (hL _)) (guard_else (ne_no rfl) ?_)
  refine bind_step (sumMul_val hk hx hx) (guard_else (ne_no rfl) (guard_step rfl ?_))
  refine bind_step (sumMul_val hk h1 h2) (bind_step (u256Cmp_val (hL _) hm) (guard_step (by rw [cmp_lt (Nat.mod_lt _ hp)]; rfl) ?_))
  refine bind_step (u256Cmp_val (hL _) hm) (guard_step (by rw [cmp_lt (Nat.mod_lt _ hp)]; rfl) ?_)
  refine bind_step (u256Cmp_val (hL _) hm) (guard_step (by rw [cmp_lt (Nat.mod_lt _ hp)]; rfl) ?_)
  have : u256eq (modK k) 1 = false := by rw [u256eq_val hm ho]; simp; omega
  rw [this]; rfl

theorem all_getD {l : List Nat} (h : (l.all fun x => Nat.blt x M256) = true) (i : Nat) : l.getD i 0 < M256 := by
  rw [List.getD_eq_getElem?_getD]
  cases hi : l[i]? with
  | none => decide
  | some v => simpa using List.all_eq_true.1 h v (List.mem_of_getElem? hi)
end Go.Sy
