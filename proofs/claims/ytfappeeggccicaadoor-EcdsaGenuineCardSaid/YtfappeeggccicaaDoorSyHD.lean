/- Multiples on both sides; the laws of multiples. -/

import Derived.Test.YtfappeeggccicaaDoorSyVC2

import Derived.Test.YtfappeeggccicaaDoorSyHa

set_option linter.unusedVariables false

set_option linter.unusedSimpArgs false

namespace Go.Sy

open Go

theorem and15 (n : Nat) (hn : n < 18446744073709551616) : andI .u64 (n : Int) 15 = ((n % 16 : Nat) : Int) := by
  have h : (BitVec.ofInt (IntKind.u64).bits (n : Int) &&& BitVec.ofInt (IntKind.u64).bits 15).toNat = n % 16 := by
    have e1 : (BitVec.ofInt (IntKind.u64).bits (n : Int)).toNat = n := by
      rw [BitVec.toNat_ofInt]
      have : ((2 ^ (IntKind.u64).bits : Nat) : Int) = 18446744073709551616 := rfl
      rw [this]; omega
    have e2 : (BitVec.ofInt (IntKind.u64).bits 15).toNat = 2 ^ 4 - 1 := rfl
    rw [BitVec.toNat_and, e1, e2, Nat.and_two_pow_sub_one_eq_mod]
  simp only [andI, h]
  rw [wrap64]
  omega

def digN (k i : Nat) : Nat := k / 2 ^ (4 * i) % 16

theorem dig_limb (k i : Nat) : ln k (i / 16) / 2 ^ (4 * (i % 16)) % 16 = digN k i := by
  unfold ln digN
  have hi := Nat.mod_lt i (show 0 < 16 by decide)
  have h : (18446744073709551616 : Nat) = 2 ^ (4 * (i % 16)) * 2 ^ (64 - 4 * (i % 16)) := by
    rw [← Nat.pow_add]
    have : 4 * (i % 16) + (64 - 4 * (i % 16)) = 64 := by omega
    rw [this]
  rw [h, Nat.mod_mul_right_div_self, Nat.div_div_eq_div_mul, ← Nat.pow_add]
  have e1 : 64 * (i / 16) + 4 * (i % 16) = 4 * i := by omega
  rw [e1]
  have h2 : 2 ^ (64 - 4 * (i % 16)) = 16 * 2 ^ (60 - 4 * (i % 16)) := by
    have : 64 - 4 * (i % 16) = (60 - 4 * (i % 16)) + 4 := by omega
    rw [this, Nat.pow_add, Nat.mul_comm]
  rw [h2, Nat.mod_mul_right_mod]

theorem curveIDigit_val {k i : Nat} (hi : i < 64) : curveIDigit k (i : Int) = some ((digN k i : Nat) : Int) := by
  rw [curveIDigit_eq]
  unfold curveIDigitB
  have hm := Nat.mod_lt i (show 0 < 16 by decide)
  have t1 : IntKind.wrap .i64 (Int.tdiv (i : Int) (16 : Int)) = ((i / 16 : Nat) : Int) := by
    have : Int.tdiv (i : Int) (16 : Int) = ((i / 16 : Nat) : Int) := rfl
    rw [this, wI64 _ (by omega)]
  have t2 : IntKind.wrap .i64 ((4 : Int) * (Int.tmod (i : Int) (16 : Int))) = ((4 * (i % 16) : Nat) : Int) := by
    have : Int.tmod (i : Int) (16 : Int) = ((i % 16 : Nat) : Int) := rfl
    rw [this]
    have e : (4 : Int) * ((i % 16 : Nat) : Int) = ((4 * (i % 16) : Nat) : Int) := by omega
    rw [e, wI64 _ (by omega)]
  have t3 : Int.toNat ((i / 16 : Nat) : Int) = i / 16 := rfl
  rw [t1, t2, t3]
  have hq : i / 16 < 4 := by omega
  refine guard_step (by simp; omega) (guard_step (blt_of hq) (guard_step (blt_of hq) (guard_else (by simp; omega) ?_)))
  have hd : digN k i < 16 := Nat.mod_lt _ (by decide)
  rw [limb_ln, shrN _ _ (by omega), and15 _ (Nat.lt_of_le_of_lt (Nat.div_le_self _ _) (ln_lt _ _)), dig_limb, wI64 _ (by omega)]

theorem dig_split (k n : Nat) : k / 2 ^ (4 * n) = 16 * (k / 2 ^ (4 * (n + 1))) + digN k n := by
  unfold digN
  have : 2 ^ (4 * (n + 1)) = 2 ^ (4 * n) * 16 := by rw [show 4 * (n + 1) = 4 * n + 4 by omega, Nat.pow_add]
  rw [this, ← Nat.div_div_eq_div_mul]
  omega

abbrev J3 := Nat × Nat × Nat

abbrev getJ (l : List J3) (i : Nat) : J3 := l.getD i ((0, 0, 0) : Nat × Nat × Nat)

theorem curveJacobianRow_val {j : J3} {P : Pt} (hP : PtOk P) (h : JN j P) : ∃ l : List J3, curveJacobianRow j = some l ∧ ∀ i, i < 16 → JN (getJ l i) (smul i P) := by
  have ok := smul_ok hP
  obtain ⟨r1, a1, j1⟩ := curveJacobianAdd_val (ok 0) hP (j := (0, 0, 0)) JN_zero h
  obtain ⟨r2, a2, j2⟩ := curveJacobianAdd_val (ok 1) hP j1 h
  obtain ⟨r3, a3, j3⟩ := curveJacobianAdd_val (ok 2) hP j2 h
  obtain ⟨r4, a4, j4⟩ := curveJacobianAdd_val (ok 3) hP j3 h
  obtain ⟨r5, a5, j5⟩ := curveJacobianAdd_val (ok 4) hP j4 h
  obtain ⟨r6, a6, j6⟩ := curveJacobianAdd_val (ok 5) hP j5 h
  obtain ⟨r7, a7, j7⟩ := curveJacobianAdd_val (ok 6) hP j6 h
  obtain ⟨r8, a8, j8⟩ := curveJacobianAdd_val (ok 7) hP j7 h
  obtain ⟨r9, a9, j9⟩ := curveJacobianAdd_val (ok 8) hP j8 h
  obtain ⟨r10, a10, j10⟩ := curveJacobianAdd_val (ok 9) hP j9 h
  obtain ⟨r11, a11, j11⟩ := curveJacobianAdd_val (ok 10) hP j10 h
  obtain ⟨r12, a12, j12⟩ := curveJacobianAdd_val (ok 11) hP j11 h
  obtain ⟨r13, a13, j13⟩ := curveJacobianAdd_val (ok 12) hP j12 h
  obtain ⟨r14, a14, j14⟩ := curveJacobianAdd_val (ok 13) hP j13 h
  obtain ⟨r15, a15, j15⟩ := curveJacobianAdd_val (ok 14) hP j14 h
  have e : curveJacobianRowB j = (curveJacobianAdd ((0, 0, 0) : Nat × Nat × Nat) j).bind fun r1 =>
      (curveJacobianAdd r1 j).bind fun r2 =>
      (curveJacobianAdd r2 j).bind fun r3 =>
      (curveJacobianAdd r3 j).bind fun r4 =>
      (curveJacobianAdd r4 j).bind fun r5 =>
      (curveJacobianAdd r5 j).bind fun r6 =>
      (curveJacobianAdd r6 j).bind fun r7 =>
      (curveJacobianAdd r7 j).bind fun r8 =>
      (curveJacobianAdd r8 j).bind fun r9 =>
      (curveJacobianAdd r9 j).bind fun r10 =>
      (curveJacobianAdd r10 j).bind fun r11 =>
      (curveJacobianAdd r11 j).bind fun r12 =>
      (curveJacobianAdd r12 j).bind fun r13 =>
      (curveJacobianAdd r13 j).bind fun r14 =>
      (curveJacobianAdd r14 j).bind fun r15 =>
      some [(0, 0, 0), r1, r2, r3, r4, r5, r6, r7, r8, r9, r10, r11, r12, r13, r14, r15] := by kernel_rfl
  rw [curveJacobianRow_eq, e]
  refine ⟨[(0, 0, 0), r1, r2, r3, r4, r5, r6, r7, r8, r9, r10, r11, r12, r13, r14, r15], (bind_step a1 (bind_step a2 (bind_step a3 (bind_step a4 (bind_step a5 (bind_step a6 (bind_step a7 (bind_step a8 (bind_step a9 (bind_step a10 (bind_step a11 (bind_step a12 (bind_step a13 (bind_step a14 (bind_step a15 rfl))))))))))))))), fun i hi => ?_⟩
  match i, hi with
  | 0, _ => exact JN_zero
  | 1, _ => exact j1
  | 2, _ => exact j2
  | 3, _ => exact j3
  | 4, _ => exact j4
  | 5, _ => exact j5
  | 6, _ => exact j6
  | 7, _ => exact j7
  | 8, _ => exact j8
  | 9, _ => exact j9
  | 10, _ => exact j10
  | 11, _ => exact j11
  | 12, _ => exact j12
  | 13, _ => exact j13
  | 14, _ => exact j14
  | 15, _ => exact j15
  | n + 16, h => exact absurd h (by omega)

theorem smul_dbl {P : Pt} (hP : PtOk P) (m : Nat) : padd (smul m P) (smul m P) = smul (2 * m) P := by
  rw [← smul_add hP, Nat.two_mul]

theorem multLoop {P : Pt} (hP : PtOk P) {k : Nat} {l : List J3} (b4 : J3) (hl : ∀ i, i < 16 → JN (getJ l i) (smul i P)) : ∀ (n fuel : Nat) (s : J3), n ≤ 64 → n < fuel → JN s (smul (k / 2 ^ (4 * n)) P) →
    ∃ r, iter (fun p : Int × Nat × (Nat × Nat × Nat) × (List (Nat × Nat × Nat)) × (Nat × Nat × Nat) => curveJacobianMultipleL0R p.1 p.2.1 p.2.2.1 p.2.2.2.1 p.2.2.2.2) fuel ((n : Int), k, b4, l, s) = some (b4, r) ∧ JN r (smul k P)
  | 0, fuel, s, _, hf, h => by
    obtain ⟨fuel, rfl⟩ : ∃ q, fuel = q + 1 := ⟨fuel - 1, by omega⟩
    refine ⟨s, iter_end ?_, by simpa using h⟩
    show curveJacobianMultipleL0R ((0 : Nat) : Int) k b4 l s = _
    unfold curveJacobianMultipleL0R
    exact guard_else (by decide) rfl
  | n + 1, fuel, s, hn, hf, h => by
    obtain ⟨fuel, rfl⟩ : ∃ q, fuel = q + 1 := ⟨fuel - 1, by omega⟩
    have ok := smul_ok hP
    obtain ⟨r1, a1, j1⟩ := curveJacobianDouble_val (ok _) h
    obtain ⟨r2, a2, j2⟩ := curveJacobianDouble_val (padd_ok (ok _) (ok _)) j1
    rw [smul_dbl hP] at j1 j2
    rw [smul_dbl hP] at j2
    obtain ⟨r3, a3, j3⟩ := curveJacobianDouble_val (ok _) j2
    rw [smul_dbl hP] at j3
    obtain ⟨r4, a4, j4⟩ := curveJacobianDouble_val (ok _) j3
    rw [smul_dbl hP] at j4
    have hd : digN k n < 16 := Nat.mod_lt _ (by decide)
    obtain ⟨r5, a5, j5⟩ := curveJacobianAdd_val (ok _) (ok _) j4 (hl (digN k n) hd)
    rw [← smul_add hP, show 2 * (2 * (2 * (2 * (k / 2 ^ (4 * (n + 1)))))) + digN k n = k / 2 ^ (4 * n) by rw [dig_split k n]; omega] at j5
    obtain ⟨r, g1, g2⟩ := multLoop hP b4 hl n fuel r5 (by omega) (by omega) j5
    refine ⟨r, iter_more ?_ g1, g2⟩
    show curveJacobianMultipleL0R ((n + 1 : Nat) : Int) k b4 l s = _
    unfold curveJacobianMultipleL0R
    have e0 : IntKind.wrap .i64 (((n + 1 : Nat) : Int) - (1 : Int)) = (n : Int) := by rw [wI64z _ (by omega) (by omega)]; omega
    have t0 : Int.toNat ((digN k n : Nat) : Int) = digN k n := rfl
    rw [e0]
    refine guard_step (decide_eq_true (by omega)) (bind_step a1 (bind_step a2 (bind_step a3 (bind_step a4 (bind_step (curveIDigit_val (by omega)) (guard_step (by simp) (guard_step (blt_of (by rw [t0]; exact hd)) (guard_step (blt_of (by rw [t0]; exact hd)) ?_))))))))
    rw [t0]
    exact bind_step a5 rfl

theorem curveJacobianMultiple_val {j : J3} {P : Pt} (hP : PtOk P) (h : JN j P) {k : Nat} (hk : k < M256) : ∃ r, curveJacobianMultiple j k = some r ∧ JN r (smul k P) := by
  obtain ⟨l, g1, g2⟩ := curveJacobianRow_val hP h
  obtain ⟨m, h1, h2, h3⟩ := u256Len_val hk
  rw [curveJacobianMultiple_eq]
  unfold curveJacobianMultipleB
  have e : IntKind.wrap .i64 (Int.tdiv (IntKind.wrap .i64 ((m : Int) + (3 : Int))) (4 : Int)) = (((m + 3) / 4 : Nat) : Int) := by
    have w3 : IntKind.wrap .i64 ((m : Int) + (3 : Int)) = ((m + 3 : Nat) : Int) := by rw [wI64z _ (by omega) (by omega)]; rfl
    have : Int.tdiv ((m + 3 : Nat) : Int) 4 = (((m + 3) / 4 : Nat) : Int) := rfl
    rw [w3, this, wI64 _ (by omega)]
  have hz : k / 2 ^ (4 * ((m + 3) / 4)) = 0 := Nat.div_eq_of_lt (Nat.lt_of_lt_of_le h3 (Nat.pow_le_pow_right (by decide) (by omega)))
  obtain ⟨r, k1, k2⟩ := multLoop hP (k := k) (0, 0, 0) g2 ((m + 3) / 4) 1000 (0, 0, 0) (by omega) (by omega) (by rw [hz]; exact JN_zero)
  refine ⟨r, bind_step g1 (bind_step h1 ?_), k2⟩
  rw [e]
  exact bind_step ((curveJacobianMultipleL0_eq _ _ _ _ _).trans k1) rfl

theorem curveIMultipleG_val {k : Nat} (hk : k < M256) : ∃ r, curveIMultipleG k = some r ∧ JN r (smul k gP) := by
  obtain ⟨j, a1, j1⟩ := curveIOf_val gN_on
  obtain ⟨r, a2, j2⟩ := curveJacobianMultiple_val gN_on.ok j1 hk
  rw [curveIMultipleG_eq]
  exact ⟨r, bind_step curveG_val (bind_step a1 (bind_step a2 rfl)), j2⟩

theorem curveMulG_val {k : Nat} (hk : k < M256) : curveMulG k = some (ofPt (smul k gP)) := by
  obtain ⟨r, a1, j1⟩ := curveIMultipleG_val hk
  rw [curveMulG_eq]
  exact bind_step a1 (bind_step (curveJacobianPoint_val j1) rfl)

def mulAddV (a b : Nat) (q : P3) : P3 × Int := if OnN q then (ofPt (padd (smul a gP) (smul b (ptF q))), 0) else ((0, 0, false), 50)

theorem curveMulAdd_val {a b : Nat} {q : P3} (ha : a < M256) (hb : b < M256) (hq : In256 q) : curveMulAdd a b q = some (mulAddV a b q) := by
  rw [curveMulAdd_eq]
  unfold curveMulAddB mulAddV
  refine bind_step (curveOn_val hq) ?_
  by_cases h : OnN q
  · rw [if_pos h]
    obtain ⟨r1, a1, j1⟩ := curveIMultipleG_val ha
    obtain ⟨j, a2, j2⟩ := curveIOf_val h
    obtain ⟨r3, a3, j3⟩ := curveJacobianMultiple_val h.ok j2 hb
    obtain ⟨r4, a4, j4⟩ := curveJacobianAdd_val (smul_ok gP_ok _) (smul_ok h.ok _) j1 j3
    exact guard_else (by rw [decide_eq_true h]; rfl) (bind_step a1 (bind_step a2 (bind_step a3 (bind_step a4 (bind_step (curveJacobianPoint_val j4) rfl)))))
  · rw [if_neg h]; exact guard_step (by rw [decide_eq_false h]; rfl) rfl

end Go.Sy
