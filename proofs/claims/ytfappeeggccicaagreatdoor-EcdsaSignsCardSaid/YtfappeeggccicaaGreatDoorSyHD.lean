/- Multiples on both sides; the laws of multiples. -/
import Derived.Test.YtfappeeggccicaaGreatDoorSyVC2
import Derived.Test.YtfappeeggccicaaGreatDoorSyHa
set_option linter.unusedVariables false
set_option linter.unusedSimpArgs false
namespace Go.Sy
open Go
theorem and15 (n : Nat) (hn : n < 18446744073709551616) : andI .u64 (n : Int) 15 = ((n % 16 : Nat) : Int) := by
 have h : (BitVec.ofInt (IntKind.u64).bits (n : Int) &&& BitVec.ofInt (IntKind.u64).bits 15).toNat = n % 16 := by
  have e1 : (BitVec.ofInt (IntKind.u64).bits (n : Int)).toNat = n := by
   rw [BitVec.toNat_ofInt]
   have : ((2 ^ (IntKind.u64).bits : Nat) : Int) = 18446744073709551616 := rfl
   rw [this]; omega
  have e2 : (BitVec.ofInt (IntKind.u64).bits 15).toNat = 2 ^ 4 - 1 := rfl
  rw [BitVec.toNat_and, e1, e2, Nat.and_two_pow_sub_one_eq_mod]
 simp only [andI, h]
 rw [wrap64]
 omega
def digN (k i : Nat) : Nat := k / 2 ^ (4 * i) % 16
theorem dig_limb (k i : Nat) : ln k (i / 16) / 2 ^ (4 * (i % 16)) % 16 = digN k i := by
 unfold ln digN
 have hi := Nat.mod_lt i (show 0 < 16 by decide)
 have h : (18446744073709551616 : Nat) = 2 ^ (4 * (i % 16)) * 2 ^ (64 - 4 * (i % 16)) := by
  rw [← Nat.pow_add]
  have : 4 * (i % 16) + (64 - 4 * (i % 16)) = 64 := by omega
  rw [this]
 rw [h, Nat.mod_mul_right_div_self, Nat.div_div_eq_div_mul, ← Nat.pow_add]
 have e1 : 64 * (i / 16) + 4 * (i % 16) = 4 * i := by omega
 rw [e1]
 have h2 : 2 ^ (64 - 4 * (i % 16)) = 16 * 2 ^ (60 - 4 * (i % 16)) := by
  have : 64 - 4 * (i % 16) = (60 - 4 * (i % 16)) + 4 := by omega
  rw [this, Nat.pow_add, Nat.mul_comm]
 rw [h2, Nat.mod_mul_right_mod]
theorem curveIDigit_val {k i : Nat} (hi : i < 64) : curveIDigit k (i : Int) = some ((digN k i : Nat) : Int) := by
 rw [curveIDigit_eq]
 unfold curveIDigitB
 have hm := Nat.mod_lt i (show 0 < 16 by decide)
 have t1 : IntKind.wrap .i64 (Int.tdiv (i : Int) (16 : Int)) = ((i / 16 : Nat) : Int) := by
  have : Int.tdiv (i : Int) (16 : Int) = ((i / 16 : Nat) : Int) := rfl
  rw [this, wI64 _ (by omega)]
 have t2 : IntKind.wrap .i64 ((4 : Int) * (Int.tmod (i : Int) (16 : Int))) = ((4 * (i % 16) : Nat) : Int) := by
  have : Int.tmod (i : Int) (16 : Int) = ((i % 16 : Nat) : Int) := rfl
  rw [this]
  have e : (4 : Int) * ((i % 16 : Nat) : Int) = ((4 * (i % 16) : Nat) : Int) := by omega
  rw [e, wI64 _ (by omega)]
 have t3 : Int.toNat ((i / 16 : Nat) : Int) = i / 16 := rfl
 rw [t1, t2, t3]
 have hq : i / 16 < 4 := by omega
 refine guard_step (by simp; omega) (guard_step (blt_of hq) (guard_step (blt_of hq) (guard_else (by simp; omega) ?_)))
 have hd : digN k i < 16 := Nat.mod_lt _ (by decide)
 rw [limb_ln, shrN _ _ (by omega), and15 _ (Nat.lt_of_le_of_lt (Nat.div_le_self _ _) (ln_lt _ _)), dig_limb, wI64 _ (by omega)]
theorem dig_split (k n : Nat) : k / 2 ^ (4 * n) = 16 * (k / 2 ^ (4 * (n + 1))) + digN k n := by
 unfold digN
 have : 2 ^ (4 * (n + 1)) = 2 ^ (4 * n) * 16 := by rw [show 4 * (n + 1) = 4 * n + 4 by omega, Nat.pow_add]
 rw [this, ← Nat.div_div_eq_div_mul]
 omega
abbrev J3 := Nat × Nat × Nat
abbrev getJ (l : List J3) (i : Nat) : J3 := l.getD i ((0, 0, 0) : Nat × Nat × Nat)
theorem curveJacobianRow_val {j : J3} {P : Pt} (hP : PtOk P) (h : JN j P) : ∃ l : List J3, curveJacobianRow j = some l ∧ ∀ i, i < 16 → JN (getJ l i) (smul i P) := by
 have ok := smul_ok hP
 obtain ⟨r1, a1, j1⟩ := curveJacobianAdd_val (ok 0) hP (j := (0, 0, 0)) JN_zero h
 obtain ⟨r2, a2, j2⟩ := curveJacobianAdd_val (ok 1) hP j1 h
 obtain ⟨r3, a3, j3⟩ := curveJacobianAdd_val (ok 2) hP j2 h
 obtain ⟨r4, a4, j4⟩ := curveJacobianAdd_val (ok 3) hP j3 h
 obtain ⟨r5, a5, j5⟩ := curveJacobianAdd_val (ok 4) hP j4 h
 obtain ⟨r6, a6, j6⟩ := curveJacobianAdd_val (ok 5) hP j5 h
 obtain ⟨r7, a7, j7⟩ := curveJacobianAdd_val (ok 6) hP j6 h
 obtain ⟨r8, a8, j8⟩ := curveJacobianAdd_val (ok 7) hP j7 h
 obtain ⟨r9, a9, j9⟩ := curveJacobianAdd_val (ok 8) hP j8 h
 obtain ⟨r10, a10, j10⟩ := curveJacobianAdd_val (ok 9) hP j9 h
 obtain ⟨r11, a11, j11⟩ := curveJacobianAdd_val (ok 10) hP j10 h
 obtain ⟨r12, a12, j12⟩ := curveJacobianAdd_val (ok 11) hP j11 h
 obtain ⟨r13, a13, j13⟩ := curveJacobianAdd_val (ok 12) hP j12 h
 obtain ⟨r14, a14, j14⟩ := curveJacobianAdd_val (ok 13) hP j13 h
 obtain ⟨r15, a15, j15⟩ := curveJacobianAdd_val (ok 14) hP j14 h
 have e : curveJacobianRowB j = (curveJacobianAdd ((0, 0, 0) : Nat × Nat × Nat) j).bind fun r1 =>
   (curveJacobianAdd r1 j).bind fun r2 =>
   (curveJacobianAdd r2 j).bind fun r3 =>
   (curveJacobianAdd r3 j).bind fun r4 =>
   (curveJacobianAdd r4 j).bind fun r5 =>
   (curveJacobianAdd r5 j).bind fun r6 =>
   (curveJacobianAdd r6 j).bind fun r7 =>
   (curveJacobianAdd r7 j).bind fun r8 =>
   (curveJacobianAdd r8 j).bind fun r9 =>
   (curveJacobianAdd r9 j).bind fun r10 =>
   (curveJacobianAdd r10 j).bind fun r11 =>
   (curveJacobianAdd r11 j).bind fun r12 =>
   (curveJacobianAdd r12 j).bind fun r13 =>
   (curveJacobianAdd r13 j).bind fun r14 =>
   (curveJacobianAdd r14 j).bind fun r15 =>
   some [(0, 0, 0), r1, r2, r3, r4, r5, r6, r7, r8, r9, r10, r11, r12, r13, r14, r15] := by kernel_rfl
 rw [curveJacobianRow_eq, e]
 refine ⟨[(0, 0, 0), r1, r2, r3, r4, r5, r6, r7, r8, r9, r10, r11, r12, r13, r14, r15], (bind_step a1 (bind_step a2 (bind_step a3 (bind_step a4 (bind_step a5 (bind_step a6 (bind_step a7 (bind_step a8 (bind_step a9 (bind_step a10 (bind_step a11 (bind_step a12 (bind_step a13 (bind_step a14 (bind_step a15 rfl))))))))))))))), fun i hi => ?_⟩
 match i, hi with
 | 0, _ => exact JN_zero
 | 1, _ => exact j1
 | 2, _ => exact j2
 | 3, _ => exact j3
 | 4, _ => exact j4
 | 5, _ => exact j5
 | 6, _ => exact j6
 | 7, _ => exact j7
 | 8, _ => exact j8
 | 9, _ => exact j9
 | 10, _ => exact j10
 | 11, _ => exact j11
 | 12, _ => exact j12
 | 13, _ => exact j13
 | 14, _ => exact j14
 | 15, _ => exact j15
 | n + 16, h => exact absurd h (by omega)
theorem smul_dbl {P : Pt} (hP : PtOk P) (m : Nat) : padd (smul m P) (smul m P) = smul (2 * m) P := by
 rw [← smul_add hP, Nat.two_mul]
theorem multLoop {P : Pt} (hP : PtOk P) {k : Nat} {l : List J3} (b4 : J3) (hl : ∀ i, i < 16 → JN (getJ l i) (smul i P)) : ∀ (n fuel : Nat) (s : J3), n ≤ 64 → n < fuel → JN s (smul (k / 2 ^ (4 * n)) P) →
  ∃ r, iter (fun p : Int × Nat × (Nat × Nat × Nat) × (List (Nat × Nat × Nat)) × (Nat × Nat × Nat) => curveJacobianMultipleL0R p.1 p.2.1 p.2.2.1 p.2.2.2.1 p.2.2.2.2) fuel ((n : Int), k, b4, l, s) = some (b4, r) ∧ JN r (smul k P)
 | 0, fuel, s, _, hf, h => by
  obtain ⟨fuel, rfl⟩ : ∃ q, fuel = q + 1 := ⟨fuel - 1, by omega⟩
  refine ⟨s, iter_end ?_, by simpa using h⟩
  show curveJacobianMultipleL0R ((0 : Nat) : Int) k b4 l s = _
  unfold curveJacobianMultipleL0R
  exact guard_else (by decide) rfl
 | n + 1, fuel, s, hn, hf, h => by
  obtain ⟨fuel, rfl⟩ : ∃ q, fuel = q + 1 := ⟨fuel - 1, by omega⟩
  have ok := smul_ok hP
  obtain ⟨r1, a1, j1⟩ := curveJacobianDouble_val (ok _) h
  obtain ⟨r2, a2, j2⟩ := curveJacobianDouble_val (padd_ok (ok _) (ok _)) j1
  rw [smul_dbl hP] at j1 j2
  rw [smul_dbl hP] at j2
  obtain ⟨r3, a3, j3⟩ := curveJacobianDouble_val (ok _) j2
  rw [smul_dbl hP] at j3
  obtain ⟨r4, a4, j4⟩ := curveJacobianDouble_val (ok _) j3
  rw [smul_dbl hP] at j4
  have hd : digN k n < 16 := Nat.mod_lt _ (by decide)
  obtain ⟨r5, a5, j5⟩ := curveJacobianAdd_val (ok _) (ok _) j4 (hl (digN k n) hd)
  rw [← smul_add hP, show 2 * (2 * (2 * (2 * (k / 2 ^ (4 * (n + 1)))))) + digN k n = k / 2 ^ (4 * n) by rw [dig_split k n]; omega] at j5
  obtain ⟨r, g1, g2⟩ := multLoop hP b4 hl n fuel r5 (by omega) (by omega) j5
  refine ⟨r, iter_more ?_ g1, g2⟩
  show curveJacobianMultipleL0R ((n + 1 : Nat) : Int) k b4 l s = _
  unfold curveJacobianMultipleL0R
  have e0 : IntKind.wrap .i64 (((n + 1 : Nat) : Int) - (1 : Int)) = (n : Int) := by rw [wI64z _ (by omega) (by omega)]; omega
  have t0 : Int.toNat ((digN k n : Nat) : Int) = digN k n := rfl
  rw [e0]
  refine guard_step (decide_eq_true (by omega)) (bind_step a1 (bind_step a2 (bind_step a3 (bind_step a4 (bind_step (curveIDigit_val (by omega)) (guard_step (by simp) (guard_step (blt_of (by rw [t0]; exact hd)) (guard_step (blt_of (by rw [t0]; exact hd)) ?_))))))))
  rw [t0]
  exact bind_step a5 rfl
theorem curveJacobianMultiple_val {j : J3} {P : Pt} (hP : PtOk P) (h : JN j P) {k : Nat} (hk : k < M256) : ∃ r, curveJacobianMultiple j k = some r ∧ JN r (smul k P) := by
 obtain ⟨l, g1, g2⟩ := curveJacobianRow_val hP h
 obtain ⟨m, h1, h2, h3⟩ := u256Len_val hk
 rw [curveJacobianMultiple_eq]
 unfold curveJacobianMultipleB
 have e : IntKind.wrap .i64 (Int.tdiv (IntKind.wrap .i64 ((m : Int) + (3 : Int))) (4 : Int)) = (((m + 3) / 4 : Nat) : Int) := by
  have w3 : IntKind.wrap .i64 ((m : Int) + (3 : Int)) = ((m + 3 : Nat) : Int) := by rw [wI64z _ (by omega) (by omega)]; rfl
  have : Int.tdiv ((m + 3 : Nat) : Int) 4 = (((m + 3) / 4 : Nat) : Int) := rfl
  rw [w3, this, wI64 _ (by omega)]
 have hz : k / 2 ^ (4 * ((m + 3) / 4)) = 0 := Nat.div_eq_of_lt (Nat.lt_of_lt_of_le h3 (Nat.pow_le_pow_right (by decide) (by omega)))
 obtain ⟨r, k1, k2⟩ := multLoop hP (k := k) (0, 0, 0) g2 ((m + 3) / 4) 1000 (0, 0, 0) (by omega) (by omega) (by rw [hz]; exact JN_zero)
 refine ⟨r, bind_step g1 (bind_step h1 ?_), k2⟩
 rw [e]
 exact bind_step ((curveJacobianMultipleL0_eq _ _ _ _ _).trans k1) rfl
theorem curveIMultipleG_val {k : Nat} (hk : k < M256) : ∃ r, curveIMultipleG k = some r ∧ JN r (smul k gP) := by
 obtain ⟨j, a1, j1⟩ := curveIOf_val gN_on
 obtain ⟨r, a2, j2⟩ := curveJacobianMultiple_val gN_on.ok j1 hk
 rw [curveIMultipleG_eq]
 exact ⟨r, bind_step curveG_val (bind_step a1 (bind_step a2 rfl)), j2⟩
theorem curveMulG_val {k : Nat} (hk : k < M256) : curveMulG k = some (ofPt (smul k gP)) := by
 obtain ⟨r, a1, j1⟩ := curveIMultipleG_val hk
 rw [curveMulG_eq]
 exact bind_step a1 (bind_step (curveJacobianPoint_val j1) rfl)
theorem ref05IThree_val {p : P3} (h : OnN p) : ∃ j, ref05IThree p = some j ∧ JN j (ptF p) := by
 obtain ⟨j, h1, h2⟩ := curveIOf_val h
 obtain ⟨x, y, b⟩ := p
 rw [ref05IThree_eq]
 unfold ref05IThreeB
 cases b with
 | true => exact ⟨_, guard_step rfl rfl, JN_zero⟩
 | false =>
  rcases h with ⟨h0, _⟩ | ⟨_, h1, h2, h3⟩
  ·cases h0
  refine ⟨_, guard_else rfl (bind_step (ref01From_val (c := 1) (by omega)) rfl), h1, h2, show 1 < prP by decide, ?_⟩
  show JF (toF x) (toF y) (toF 1) (some (toF x, toF y))
  have e1 : toF 1 = (1 : FP) := rfl
  rw [e1]
  exact ⟨one_ne, by grind, by grind⟩
theorem ref05ITwice_val {j : J3} {p : FP × FP} (hP : PtOk (some p)) (h : JN j (some p)) : ∃ r, ref05ITwice j = some r ∧ JN r (padd (some p) (some p)) := by
 rw [ref05ITwice_eq]
 unfold ref05ITwiceB
 obtain ⟨g1, g2, g3, g4, g5, g6⟩ := h
 obtain ⟨X, Y, Z⟩ := j
 simp only at *
 have l1 := lt256 g1
 have l2 := lt256 g2
 have l3 := lt256 g3
 have L := mod_p_lt
 refine ⟨_, bind_step (ref05IMul_val l2 l2) (bind_step (ref05IMul_val l1 (L _)) (bind_step (ref05ITimes_val (n := 4) (by omega) (L _)) (bind_step (ref05IMul_val l1 l1) (bind_step (ref05ITimes_val (n := 3) (by omega) (L _)) (bind_step (ref05IMul_val (L _) (L _)) (bind_step (ref05ITimes_val (n := 2) (by omega) (L _)) (bind_step (ref05ISub_val (L _) (L _))
  (bind_step (ref05ISub_val (L _) (L _)) (bind_step (ref05IMul_val (L _) (L _)) (bind_step (ref05IMul_val (L _) (L _)) (bind_step (ref05ITimes_val (n := 8) (by omega) (L _)) (bind_step (ref05ISub_val (L _) (L _)) (bind_step (ref05IMul_val l2 l3) (bind_step (ref05ITimes_val (n := 2) (by omega) (L _)) rfl)))))))))))))), lt_p _, lt_p _, lt_p _, ?_⟩
 have n2 : toF 2 = 2 := rfl
 have n3 : toF 3 = 3 := rfl
 have n4 : toF 4 = 4 := rfl
 have n8 : toF 8 = 8 := rfl
 refine JF_dbl hP g4 g5 g6 ?_ ?_ ?_ <;> simp only [toF_mulm, toF_addm, toF_neg, n2, n3, n4, n8] <;> generalize toF X = a <;> generalize toF Y = b <;> generalize toF Z = c <;> grind
theorem ref05IBoth_val {j k : J3} {P Q : Pt} (hP : PtOk P) (hQ : PtOk Q) (h : JN j P) (g : JN k Q) : ∃ r, ref05IBoth j k = some r ∧ JN r (padd P Q) := by
 rw [ref05IBoth_eq]
 unfold ref05IBothB
 cases P with
 | none =>
  refine ⟨k, guard_step ?_ rfl, g⟩
  rw [JN_none h]; rfl
 | some p =>
  have hz := JN_some h
  cases Q with
  | none =>
   refine ⟨j, guard_else (by rw [u256eq0 (lt256 h.2.2.1)]; exact decide_eq_false hz) (guard_step ?_ rfl), h⟩
   rw [JN_none g]; rfl
  | some q =>
   have hz2 := JN_some g
   have h0 := h
   obtain ⟨g1, g2, g3, g4, g5, g6⟩ := h
   obtain ⟨k1, k2, k3, k4, k5, k6⟩ := g
   obtain ⟨X, Y, Z⟩ := j
   obtain ⟨X2, Y2, Z2⟩ := k
   simp only at *
   have l1 := lt256 g1
   have l2 := lt256 g2
   have l3 := lt256 g3
   have m1 := lt256 k1
   have m2 := lt256 k2
   have m3 := lt256 k3
   have L := mod_p_lt
   have hsame := JF_same g4 g5 g6 k4 k5 k6
   have ex : (X2 * (Z * Z % prP) % prP + (prP - X * (Z2 * Z2 % prP) % prP % prP) % prP) % prP = 0 ↔ p.1 = q.1 := by
    rw [← hsame.1, ← toF_zero (lt_p _)]
    simp only [toF_mulm, toF_addm, toF_neg]
    grind
   have ey : (Y2 * (Z * Z % prP * Z % prP) % prP + (prP - Y * (Z2 * Z2 % prP * Z2 % prP) % prP % prP) % prP) % prP = 0 ↔ p.2 = q.2 := by
    rw [← hsame.2, ← toF_zero (lt_p _)]
    simp only [toF_mulm, toF_addm, toF_neg]
    grind
   have n2 : toF 2 = 2 := rfl
   by_cases hx : p.1 = q.1
   ·have hx' := ex.2 hx
    by_cases hy : p.2 = q.2
    ·have hy' := ey.2 hy
     obtain ⟨r, hr1, hr2⟩ := ref05ITwice_val hP h0
     have hpq : p = q := Prod.ext hx hy
     subst hpq
     exact ⟨r, guard_else (by rw [u256eq0 l3]; exact decide_eq_false hz) (guard_else (by rw [u256eq0 m3]; exact decide_eq_false hz2) (bind_step (ref05IMul_val l3 l3) (bind_step (ref05IMul_val m3 m3) (bind_step (ref05IMul_val l1 (L _)) (bind_step (ref05IMul_val (L _) m3) (bind_step (ref05IMul_val l2 (L _)) (bind_step (ref05IMul_val m1 (L _)) (bind_step (ref05ISub_val (L _) (L _)) (bind_step (ref05IMul_val (L _) l3) (bind_step (ref05IMul_val m2 (L _)) (bind_step (ref05ISub_val (L _) (L _))
      (guard_step (by rw [hx']; rfl) (guard_step (by rw [hy']; rfl) (bind_step hr1 rfl)))))))))))))), hr2⟩
    ·refine ⟨(0, 0, 0), guard_else (by rw [u256eq0 l3]; exact decide_eq_false hz) (guard_else (by rw [u256eq0 m3]; exact decide_eq_false hz2) (bind_step (ref05IMul_val l3 l3) (bind_step (ref05IMul_val m3 m3) (bind_step (ref05IMul_val l1 (L _)) (bind_step (ref05IMul_val (L _) m3) (bind_step (ref05IMul_val l2 (L _)) (bind_step (ref05IMul_val m1 (L _)) (bind_step (ref05ISub_val (L _) (L _)) (bind_step (ref05IMul_val (L _) l3) (bind_step (ref05IMul_val m2 (L _)) (bind_step (ref05ISub_val (L _) (L _))
      (guard_step (by rw [hx']; rfl) (guard_else (by rw [u256eq0 (L _)]; exact decide_eq_false (fun e => hy (ey.1 e))) (guard_step (by rw [hx']; rfl) rfl)))))))))))))), ?_⟩
     have : padd (some p) (some q) = none := by
      by_cases hn : p.1 = q.1 ∧ q.2 = -p.2
      ·exact padd_opp hn
      ·exfalso
       obtain ⟨d, k1, k2, k3⟩ := add_data hP hQ hn
       have hd : d = 0 := by grind
       subst hd
       exact hy (by grind)
     rw [this]
     exact JN_zero
   ·have hx0 : u256eq ((X2 * (Z * Z % prP) % prP + (prP - X * (Z2 * Z2 % prP) % prP % prP) % prP) % prP) 0 = false := by rw [u256eq0 (L _)]; exact decide_eq_false (fun e => hx (ex.1 e))
    refine ⟨_, guard_else (by rw [u256eq0 l3]; exact decide_eq_false hz) (guard_else (by rw [u256eq0 m3]; exact decide_eq_false hz2) (bind_step (ref05IMul_val l3 l3) (bind_step (ref05IMul_val m3 m3) (bind_step (ref05IMul_val l1 (L _)) (bind_step (ref05IMul_val (L _) m3) (bind_step (ref05IMul_val l2 (L _)) (bind_step (ref05IMul_val m1 (L _)) (bind_step (ref05ISub_val (L _) (L _)) (bind_step (ref05IMul_val (L _) l3) (bind_step (ref05IMul_val m2 (L _)) (bind_step (ref05ISub_val (L _) (L _))
      (guard_else hx0 (guard_else hx0 (bind_step (ref05IMul_val (L _) (L _)) (bind_step (ref05IMul_val (L _) (L _)) (bind_step (ref05IMul_val (L _) (L _)) (bind_step (ref05IMul_val (L _) (L _)) (bind_step (ref05ISub_val (L _) (L _)) (bind_step (ref05ITimes_val (n := 2) (by omega) (L _)) (bind_step (ref05ISub_val (L _) (L _)) (bind_step (ref05ISub_val (L _) (L _)) (bind_step (ref05IMul_val (L _) (L _)) (bind_step (ref05IMul_val (L _) (L _)) (bind_step (ref05ISub_val (L _) (L _)) (bind_step (ref05IMul_val l3 m3) (bind_step (ref05IMul_val (L _) (L _)) rfl)))))))))))))))))))))))))), lt_p _, lt_p _, lt_p _, ?_⟩
    refine JF_add hP hQ g4 g5 g6 k4 k5 k6 hx rfl rfl rfl rfl ?_ ?_ ?_
    all_goals (simp only [toF_mulm, toF_addm, toF_neg, n2]; generalize toF X = a; generalize toF Y = b; generalize toF Z = c; generalize toF X2 = d; generalize toF Y2 = e; generalize toF Z2 = f; grind)
theorem refMultLoop {P : Pt} (hP : PtOk P) {k : Nat} {t : J3} (b4 : J3) (ht : JN t P) : ∀ (n fuel : Nat) (s : J3), n ≤ 256 → n < fuel → JN s (smul (k / 2 ^ n) P) →
  ∃ r, iter (fun p : Int × Nat × (Nat × Nat × Nat) × (Nat × Nat × Nat) × (Nat × Nat × Nat) => ref05IMultipleL0R p.1 p.2.1 p.2.2.1 p.2.2.2.1 p.2.2.2.2) fuel ((n : Int) - 1, k, b4, t, s) = some (b4, r) ∧ JN r (smul k P)
 | 0, fuel, s, _, hf, h => by
  obtain ⟨fuel, rfl⟩ : ∃ q, fuel = q + 1 := ⟨fuel - 1, by omega⟩
  refine ⟨s, iter_end ?_, by simpa using h⟩
  show ref05IMultipleL0R (((0 : Nat) : Int) - 1) k b4 t s = _
  unfold ref05IMultipleL0R
  exact guard_else (by decide) rfl
 | n + 1, fuel, s, hn, hf, h => by
  obtain ⟨fuel, rfl⟩ : ∃ q, fuel = q + 1 := ⟨fuel - 1, by omega⟩
  have ok := smul_ok hP
  have e1 : (((n + 1 : Nat) : Int) - 1) = (n : Int) := by omega
  have e0 : IntKind.wrap .i64 ((n : Int) - (1 : Int)) = (n : Int) - 1 := wI64z _ (by omega) (by omega)
  have step1 : ∃ r1, JN r1 (smul (2 * (k / 2 ^ (n + 1))) P) ∧ ∀ (f : Option (J3 → Option (((Int × Nat × J3 × J3 × J3)) ⊕ (J3 × J3)))) (x : Option (((Int × Nat × J3 × J3 × J3)) ⊕ (J3 × J3))),
    ((bitN k n = 1 → ∀ r2, ref05IBoth r1 t = some r2 → x = some (.inl ((n : Int) - 1, k, b4, t, r2))) ∧ (bitN k n = 0 → x = some (.inl ((n : Int) - 1, k, b4, t, r1))) → ref05IMultipleL0R (n : Int) k b4 t s = x) := by
   cases hQ : smul (k / 2 ^ (n + 1)) P with
   | none =>
    rw [hQ] at h
    have hs0 := JN_none h
    have e2 : smul (2 * (k / 2 ^ (n + 1))) P = none := by rw [← smul_dbl hP, hQ]; rfl
    refine ⟨s, by rw [e2]; exact h, fun f x hx => ?_⟩
    have hbt : ∃ r2, ref05IBoth s t = some r2 := by
     obtain ⟨r2, g1, _⟩ := ref05IBoth_val (P := none) trivial hP h ht
     exact ⟨r2, g1⟩
    unfold ref05IMultipleL0R
    rw [e0]
    refine guard_step (by simp) (guard_else (by rw [hs0]; rfl) (bind_step (ref01Bit_val (by omega)) ?_))
    rcases bit01 k n with hb | hb
    ·rw [hb]
     exact guard_else rfl (hx.2 hb).symm
    ·rw [hb]
     obtain ⟨r2, g1⟩ := hbt
     exact guard_step rfl (bind_step g1 (hx.1 hb r2 g1).symm)
   | some q =>
    rw [hQ] at h
    have hq : PtOk (some q) := by rw [← hQ]; exact ok _
    obtain ⟨r1, a1, j1⟩ := ref05ITwice_val hq h
    have e2 : smul (2 * (k / 2 ^ (n + 1))) P = padd (some q) (some q) := by rw [← smul_dbl hP, hQ]
    refine ⟨r1, by rw [e2]; exact j1, fun f x hx => ?_⟩
    have hbt : ∃ r2, ref05IBoth r1 t = some r2 := by
     obtain ⟨r2, g1, _⟩ := ref05IBoth_val (padd_ok hq hq) hP j1 ht
     exact ⟨r2, g1⟩
    unfold ref05IMultipleL0R
    rw [e0]
    refine guard_step (by simp) (guard_step (by rw [u256eq0 (lt256 h.2.2.1), decide_eq_false (JN_some h)]; rfl) (bind_step a1 (bind_step (ref01Bit_val (by omega)) ?_)))
    rcases bit01 k n with hb | hb
    ·rw [hb]
     exact guard_else rfl (hx.2 hb).symm
    ·rw [hb]
     obtain ⟨r2, g1⟩ := hbt
     exact guard_step rfl (bind_step g1 (hx.1 hb r2 g1).symm)
  obtain ⟨r1, j1, hr1⟩ := step1
  rcases bit01 k n with hb | hb
  ·obtain ⟨r, g1, g2⟩ := refMultLoop hP b4 ht n fuel r1 (by omega) (by omega) (by rw [bit_split k n, hb, Nat.add_zero]; exact j1)
   refine ⟨r, iter_more (b := ((n : Int) - 1, k, b4, t, r1)) ?_ g1, g2⟩
   rw [e1]
   exact hr1 none _ ⟨fun h => (by rw [hb] at h; cases h), fun _ => rfl⟩
  ·obtain ⟨r2, a2, j2⟩ := ref05IBoth_val (ok _) hP j1 ht
   obtain ⟨r, g1, g2⟩ := refMultLoop hP b4 ht n fuel r2 (by omega) (by omega) (by rw [bit_split k n, hb]; exact j2)
   refine ⟨r, iter_more (b := ((n : Int) - 1, k, b4, t, r2)) ?_ g1, g2⟩
   rw [e1]
   exact hr1 none _ ⟨fun _ r3 h3 => (by rw [a2] at h3; cases h3; rfl), fun h => (by rw [hb] at h; cases h)⟩
theorem ref05IMultiple_val {k : Nat} (hk : k < M256) {p : P3} (h : OnN p) : ∃ r, ref05IMultiple k p = some r ∧ JN r (smul k (ptF p)) := by
 obtain ⟨j, a1, j1⟩ := ref05IThree_val h
 rw [ref05IMultiple_eq]
 unfold ref05IMultipleB
 have hz : k / 2 ^ 256 = 0 := Nat.div_eq_of_lt hk
 obtain ⟨r, g1, g2⟩ := refMultLoop h.ok (k := k) (0, 0, 0) j1 256 1000 (0, 0, 0) (by omega) (by omega) (by rw [hz]; exact JN_zero)
 exact ⟨r, bind_step a1 (bind_step ((ref05IMultipleL0_eq _ _ _ _ _).trans g1) rfl), g2⟩
theorem ref05IPoint_val {j : J3} {P : Pt} (h : JN j P) : ref05IPoint j = some (ofPt P) := by
 rw [ref05IPoint_eq]
 unfold ref05IPointB
 cases P with
 | none => exact guard_step (by rw [JN_none h]; rfl) (bind_step ref05IIdentity_val rfl)
 | some p =>
  have hz := JN_some h
  obtain ⟨g1, g2, g3, g4, g5, g6⟩ := h
  obtain ⟨X, Y, Z⟩ := j
  simp only at *
  have l1 := lt256 g1
  have l2 := lt256 g2
  have l3 := lt256 g3
  have L := mod_p_lt
  have hZp : Z % prP ≠ 0 := by rw [Nat.mod_eq_of_lt g3]; exact hz
  refine guard_else (by rw [u256eq0 l3]; exact decide_eq_false hz) (bind_step ((ref04Inverse_val 0 l3).trans (congrArg some (invK_0 hZp))) (bind_step (ref05IMul_val (L _) (L _)) (bind_step (ref05IMul_val l1 (L _)) (bind_step (ref05IMul_val (L _) (L _)) (bind_step (ref05IMul_val l2 (L _)) ?_)))))
  have hi := f_mul_inv g4
  have e := toF_inv g3
  congr 1
  refine Prod.ext ?_ (Prod.ext ?_ rfl)
  ·refine val_of (lt_p _) ?_
   simp only [toF_mulm, e]
   rw [g5]
   generalize invF (toF Z) = i at *
   grind
  ·refine val_of (lt_p _) ?_
   simp only [toF_mulm, e]
   rw [g6]
   generalize invF (toF Z) = i at *
   grind
theorem ref05MulG_val {k : Nat} (hk : k < M256) : ref05MulG k = some (ofPt (smul k gP)) := by
 obtain ⟨r, a1, j1⟩ := ref05IMultiple_val hk gN_on
 rw [ref05MulG_eq]
 exact bind_step ref05G_val (bind_step a1 (bind_step (ref05IPoint_val j1) rfl))
end Go.Sy
