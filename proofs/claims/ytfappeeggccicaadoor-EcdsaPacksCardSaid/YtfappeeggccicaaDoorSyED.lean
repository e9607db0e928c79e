/- Plain law: whatever key, nonce and digest: a signature is its key's, tells the key, and through its bytes it is the same again. -/
import Derived.Test.YtfappeeggccicaaDoorSyEC
import Derived.Test.YtfappeeggccicaaDoorSyVE3
set_option linter.unusedVariables false
set_option linter.unusedSimpArgs false
namespace Go.Sy
open Go
theorem byte_marks : ∀ n : Fin 128, IntKind.wrap .u8 (BitVec.ofInt 8 (n.val : Int) ||| BitVec.ofInt 8 128).toNat = ((n.val + 128 : Nat) : Int) ∧ andNotI .u8 (((n.val + 128 : Nat) : Int)) 128 = (n.val : Int)
  ∧ andNotI .u8 ((n.val : Int)) 128 = (n.val : Int) ∧ (andI .u8 (((n.val + 128 : Nat) : Int)) 128 != 0) = true ∧ (andI .u8 ((n.val : Int)) 128 != 0) = false := by decide +kernel
theorem or128 {b : Nat} (h : b < 128) : orI .u8 (b : Int) 128 = ((b + 128 : Nat) : Int) := by rw [orI_eq]; exact (byte_marks ⟨b, h⟩).1
theorem put32_0 (x : Nat) : (put32 x).getD 0 (0 : Int) = ((byteN x 31 : Nat) : Int) := put32_get x (by decide)
def hiV (x : Nat) (o : Bool) : List Int := if o = true then (put32 x).set 0 ((byteN x 31 + 128 : Nat) : Int) else put32 x
theorem hiV_length (x : Nat) (o : Bool) : (hiV x o).length = 32 := by unfold hiV; split <;> simp [put32_length]
theorem top_low {x : Nat} (h : x ≤ halfN) : byteN x 31 < 128 := by
 have h1 : halfN / 2 ^ 248 < 128 := by decide
 have h2 : x / 2 ^ 248 ≤ halfN / 2 ^ 248 := Nat.div_le_div_right h
 have h3 : byteN x 31 ≤ x / 2 ^ (8 * 31) := Nat.mod_le _ _
 exact Nat.lt_of_le_of_lt (Nat.le_trans h3 h2) h1
theorem whole32 {l : List Int} (h : l.length = 32) : List.take 32 (List.drop 0 l) = l := by
 rw [List.drop_zero, List.take_of_length_le (by omega)]
theorem room32 {l : List Int} (h : l.length = 32) : roomB 1 (32 + l.length) = true := by
 rw [h]; rfl
theorem ecdsaPack_val {r s : Nat} {o : Bool} (hr : r < M256) (hs : s < M256) (hc : checkV (r, s, o) = 0) : ecdsaPack (r, s, o) = some (0, put32 r ++ hiV s o) := by
 rw [ecdsaPack_eq]
 unfold ecdsaPackB
 refine bind_step ((ecdsaCheck_val (s := (r, s, o)) ⟨hr, hs⟩).trans (congrArg some hc)) (guard_else rfl (bind_step (u256Put_val _) (bind_step (u256Put_val _) ?_)))
 have ht := top_low (low_of (of_check hc).2.2)
 unfold hiV
 cases o with
 | true =>
  refine guard_step rfl ?_
  rw [put32_0, or128 ht, whole32 (put32_length _), whole32 (by rw [List.length_set]; exact put32_length _), if_pos rfl]
  exact guard_step (room32 (by rw [List.length_set]; exact put32_length _)) rfl
 | false =>
  refine guard_else rfl ?_
  rw [whole32 (put32_length _), whole32 (put32_length _), if_neg (by decide)]
  exact guard_step (room32 (put32_length _)) rfl
end Go.Sy
