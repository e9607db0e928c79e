/- What the curve's functions compute: points, sums. -/
import Derived.Test.YtfappeeggccicaaGreatDoorSyVC1
import Derived.Test.YtfappeeggccicaaGreatDoorSyGb
import Derived.Test.YtfappeeggccicaaGreatDoorSyMa3
set_option linter.unusedVariables false
set_option linter.unusedSimpArgs false
namespace Go.Sy
open Go
theorem toF_mulm (a b : Nat) : toF (a * b % prP) = toF a * toF b := (toF_mod (a * b)).trans (toF_mul a b)
theorem toF_addm (a b : Nat) : toF ((a + b) % prP) = toF a + toF b := (toF_mod (a + b)).trans (toF_add a b)
theorem toF_modm (a : Nat) : toF (a % prP) = toF a := toF_mod a
theorem toF_prP : toF prP = 0 := by decide
theorem toF_neg (y : Nat) : toF ((prP - y % prP) % prP) = -toF y := by
 have h1 : toF ((prP - y % prP) + y % prP) = 0 := by
  rw [Nat.sub_add_cancel (Nat.le_of_lt (Nat.mod_lt y p_pos))]; exact toF_prP
 rw [toF_add, toF_modm] at h1
 rw [toF_modm]
 grind
theorem lt_p (a : Nat) : a % prP < prP := Nat.mod_lt _ p_pos
theorem lt256 {a : Nat} (h : a < prP) : a < M256 := Nat.lt_trans h prP_lt
theorem toF_zero {a : Nat} (h : a < prP) : toF a = 0 ↔ a = 0 := by
 constructor
 ·intro e; exact toF_inj h p_pos (e.trans rfl)
 ·intro e; rw [e]; rfl
theorem val_of {n : Nat} {x : FP} (h : n < prP) (e : toF n = x) : n = x.val := by
 rw [← e]; exact (Nat.mod_eq_of_lt h).symm
theorem val_lt (x : FP) : x.val < prP := x.isLt
theorem toF_inv {y : Nat} (h : y < prP) : toF (y ^ (prP - 2) % prP) = invF (toF y) := by
 unfold invF
 rw [toF_modm]
 have : (toF y).val = y := Nat.mod_eq_of_lt h
 rw [this]; rfl
theorem curveIZero_val : curveIZero = some 0 := curveIZero_eq.trans rfl
theorem curveIOne_val : curveIOne = some 1 := curveIOne_eq.trans rfl
theorem ansK_0 (v : Nat) : ansK 0 v = (v, 0) := ansK_good (.inl rfl) v
theorem curveISquare_val {x : Nat} (hx : x < M256) : curveISquare x = some (x * x % prP) := by
 rw [curveISquare_eq]; exact bind_step ((fieldSquare_val 0 hx).trans (congrArg some (ansK_0 _))) rfl
theorem curveITimes_val {x y : Nat} (hx : x < M256) (hy : y < M256) : curveITimes x y = some (x * y % prP) := by
 rw [curveITimes_eq]; exact bind_step ((fieldMul_val 0 hx hy).trans (congrArg some (ansK_0 _))) rfl
theorem curveIPlus_val {x y : Nat} (hx : x < M256) (hy : y < M256) : curveIPlus x y = some ((x + y) % prP) := by
 rw [curveIPlus_eq]; exact bind_step ((fieldAdd_val 0 hx hy).trans (congrArg some (ansK_0 _))) rfl
theorem curveIMinus_val {x y : Nat} (hx : x < M256) (hy : y < M256) : curveIMinus x y = some ((x + (prP - y % prP) % prP) % prP) := by
 rw [curveIMinus_eq]; exact bind_step ((fieldSub_val 0 hx hy).trans (congrArg some (ansK_0 _))) rfl
def rhsN (x : Nat) : Nat := (x * (x * x % prP) % prP + 7) % prP
theorem toF_rhs (x : Nat) : toF (rhsN x) = toF x * toF x * toF x + toF 7 := by
 unfold rhsN; rw [toF_addm, toF_mulm, toF_mulm]; grind
theorem ref05IMul_val {x y : Nat} (hx : x < M256) (hy : y < M256) : ref05IMul x y = some (x * y % prP) := by
 rw [ref05IMul_eq]; exact bind_step ((ref04Mul_val 0 hx hy).trans (congrArg some (ansK_0 _))) rfl
theorem ref05ISub_val {x y : Nat} (hx : x < M256) (hy : y < M256) : ref05ISub x y = some ((x + (prP - y % prP) % prP) % prP) := by
 rw [ref05ISub_eq]; exact bind_step ((ref04Sub_val 0 hx hy).trans (congrArg some (ansK_0 _))) rfl
theorem cmp_neg {a b : Nat} : decide (cmpI a b < 0) = decide (a < b) := by
 unfold cmpI
 by_cases h : a < b
 ·simp [h]
 ·rw [if_neg h]; split <;> simp [h]
theorem cmp_nneg {a b : Nat} : decide (cmpI a b ≥ 0) = !decide (a < b) := by
 unfold cmpI
 by_cases h : a < b
 ·simp [h]
 ·rw [if_neg h]; split <;> simp [h]
abbrev P3 := Nat × Nat × Bool
def OnN (p : P3) : Prop := (p.2.2 = true ∧ p.1 = 0 ∧ p.2.1 = 0) ∨ (p.2.2 = false ∧ p.1 < prP ∧ p.2.1 < prP ∧ p.2.1 * p.2.1 % prP = rhsN p.1)
instance (p : P3) : Decidable (OnN p) := by unfold OnN; infer_instance
def ptF (p : P3) : Pt := if p.2.2 = true then none else some (toF p.1, toF p.2.1)
def ofPt : Pt → P3
 | none => (0, 0, true)
 | some p => (p.1.val, p.2.val, false)
def In256 (p : P3) : Prop := p.1 < M256 ∧ p.2.1 < M256
theorem OnN.ok {p : P3} (h : OnN p) : PtOk (ptF p) := by
 rcases h with ⟨h0, h1, h2⟩ | ⟨h0, h1, h2, h3⟩
 ·unfold ptF; rw [if_pos h0]; trivial
 ·unfold ptF; rw [if_neg (by rw [h0]; decide)]
  show toF p.2.1 * toF p.2.1 = toF p.1 * toF p.1 * toF p.1 + toF 7
  rw [← toF_mulm, h3, toF_rhs]
theorem eqP_step {x1 x2 : Nat} {b1 : Bool} {p q : P3} (hp : In256 p) (hq : In256 q) : ((u256eq p.1 q.1) && ((u256eq p.2.1 q.2.1) && (p.2.2 == q.2.2))) = decide (p = q) := by
 obtain ⟨a, b, c⟩ := p
 obtain ⟨d, e, f⟩ := q
 simp only [u256eq_val hp.1 hq.1, u256eq_val hp.2 hq.2]
 by_cases h1 : a = d <;> by_cases h2 : b = e <;> by_cases h3 : c = f <;> simp [h1, h2, h3]
def JN (j : Nat × Nat × Nat) (P : Pt) : Prop := j.1 < prP ∧ j.2.1 < prP ∧ j.2.2 < prP ∧ JF (toF j.1) (toF j.2.1) (toF j.2.2) P
theorem JN_zero : JN (0, 0, 0) none := ⟨p_pos, p_pos, p_pos, rfl⟩
theorem JN_none {j : Nat × Nat × Nat} (h : JN j none) : j.2.2 = 0 := (toF_zero h.2.2.1).1 h.2.2.2
theorem JN_some {j : Nat × Nat × Nat} {p : FP × FP} (h : JN j (some p)) : j.2.2 ≠ 0 := fun e => h.2.2.2.1 (by rw [e]; rfl)
theorem curveIOf_val {p : P3} (h : OnN p) : ∃ j, curveIOf p = some j ∧ JN j (ptF p) := by
 obtain ⟨x, y, b⟩ := p
 rw [curveIOf_eq]
 unfold curveIOfB
 cases b with
 | true => exact ⟨_, guard_step rfl rfl, JN_zero⟩
 | false =>
  rcases h with ⟨h0, _⟩ | ⟨_, h1, h2, h3⟩
  ·cases h0
  refine ⟨_, guard_else rfl (bind_step curveIOne_val rfl), h1, h2, show 1 < prP by decide, ?_⟩
  show JF (toF x) (toF y) (toF 1) (some (toF x, toF y))
  have e1 : toF 1 = (1 : FP) := rfl
  rw [e1]
  exact ⟨one_ne, by grind, by grind⟩
theorem curveJacobianDouble_val {j : Nat × Nat × Nat} {P : Pt} (hP : PtOk P) (h : JN j P) : ∃ r, curveJacobianDouble j = some r ∧ JN r (padd P P) := by
 rw [curveJacobianDouble_eq]
 unfold curveJacobianDoubleB
 cases P with
 | none =>
  refine ⟨j, bind_step curveIZero_val (guard_step ?_ rfl), h⟩
  rw [JN_none h]; rfl
 | some p =>
  have hz := JN_some h
  obtain ⟨g1, g2, g3, g4, g5, g6⟩ := h
  obtain ⟨X, Y, Z⟩ := j
  simp only at *
  have l1 := lt256 g1
  have l2 := lt256 g2
  have l3 := lt256 g3
  have L := mod_p_lt
  refine ⟨_, bind_step curveIZero_val (guard_else (by rw [u256eq0 l3]; exact decide_eq_false hz) (bind_step (curveISquare_val l2) (bind_step (curveITimes_val l1 (L _)) (bind_step (curveIPlus_val (L _) (L _)) (bind_step (curveIPlus_val (L _) (L _)) (bind_step (curveISquare_val l1) (bind_step (curveIPlus_val (L _) (L _)) (bind_step (curveIPlus_val (L _) (L _))
   (bind_step (curveISquare_val (L _)) (bind_step (curveIMinus_val (L _) (L _)) (bind_step (curveIMinus_val (L _) (L _)) (bind_step (curveISquare_val (L _)) (bind_step (curveIPlus_val (L _) (L _)) (bind_step (curveIPlus_val (L _) (L _)) (bind_step (curveIPlus_val (L _) (L _)) (bind_step (curveITimes_val l2 l3) (bind_step (curveIMinus_val (L _) (L _)) (bind_step (curveITimes_val (L _) (L _)) (bind_step (curveIMinus_val (L _) (L _)) (bind_step (curveIPlus_val (L _) (L _)) rfl)))))))))))))))))))), lt_p _, lt_p _, lt_p _, ?_⟩
  refine JF_dbl hP g4 g5 g6 ?_ ?_ ?_ <;> simp only [toF_mulm, toF_addm, toF_neg] <;> generalize toF X = a <;> generalize toF Y = b <;> generalize toF Z = c <;> grind
theorem curveJacobianAdd_val {j k : Nat × Nat × Nat} {P Q : Pt} (hP : PtOk P) (hQ : PtOk Q) (h : JN j P) (g : JN k Q) : ∃ r, curveJacobianAdd j k = some r ∧ JN r (padd P Q) := by
 rw [curveJacobianAdd_eq]
 unfold curveJacobianAddB
 cases P with
 | none =>
  refine ⟨k, bind_step curveIZero_val (guard_step ?_ rfl), g⟩
  rw [JN_none h]; rfl
 | some p =>
  have hz := JN_some h
  cases Q with
  | none =>
   refine ⟨j, bind_step curveIZero_val (guard_else (by rw [u256eq0 (lt256 h.2.2.1)]; exact decide_eq_false hz) (bind_step curveIZero_val (guard_step ?_ rfl))), h⟩
   rw [JN_none g]; rfl
  | some q =>
   have hz2 := JN_some g
   have h0 := h
   obtain ⟨g1, g2, g3, g4, g5, g6⟩ := h
   obtain ⟨k1, k2, k3, k4, k5, k6⟩ := g
   obtain ⟨X, Y, Z⟩ := j
   obtain ⟨X2, Y2, Z2⟩ := k
   simp only at *
   have l1 := lt256 g1
   have l2 := lt256 g2
   have l3 := lt256 g3
   have m1 := lt256 k1
   have m2 := lt256 k2
   have m3 := lt256 k3
   have L := mod_p_lt
   have hsame := JF_same g4 g5 g6 k4 k5 k6
   have ex : (X2 * (Z * Z % prP) % prP + (prP - X * (Z2 * Z2 % prP) % prP % prP) % prP) % prP = 0 ↔ p.1 = q.1 := by
    rw [← hsame.1, ← toF_zero (lt_p _)]
    simp only [toF_mulm, toF_addm, toF_neg]
    grind
   have ey : (Y2 * (Z * (Z * Z % prP) % prP) % prP + (prP - Y * (Z2 * (Z2 * Z2 % prP) % prP) % prP % prP) % prP) % prP = 0 ↔ p.2 = q.2 := by
    rw [← hsame.2, ← toF_zero (lt_p _)]
    simp only [toF_mulm, toF_addm, toF_neg]
    grind
   have pre : ∀ {r : Option (Nat × Nat × Nat)} {f : Nat → Nat → Nat → Nat → Nat → Nat → Nat → Nat → Nat → Nat → Option (Nat × Nat × Nat)}, True := trivial
   by_cases hx : p.1 = q.1
   ·have hx' := ex.2 hx
    by_cases hy : p.2 = q.2
    ·have hy' := ey.2 hy
     obtain ⟨r, hr1, hr2⟩ := curveJacobianDouble_val hP h0
     have hpq : p = q := Prod.ext hx hy
     subst hpq
     exact ⟨r, bind_step curveIZero_val (guard_else (by rw [u256eq0 l3]; exact decide_eq_false hz) (bind_step curveIZero_val (guard_else (by rw [u256eq0 m3]; exact decide_eq_false hz2) (bind_step (curveISquare_val l3) (bind_step (curveISquare_val m3) (bind_step (curveITimes_val l1 (L _)) (bind_step (curveITimes_val m1 (L _)) (bind_step (curveITimes_val m3 (L _)) (bind_step (curveITimes_val l2 (L _)) (bind_step (curveITimes_val l3 (L _)) (bind_step (curveITimes_val m2 (L _)) (bind_step (curveIMinus_val (L _) (L _)) (bind_step (curveIMinus_val (L _) (L _))
      (bind_step curveIZero_val (guard_step (by rw [hx']; rfl) (bind_step curveIZero_val (guard_step (by rw [hy']; rfl) (bind_step hr1 rfl)))))))))))))))))), hr2⟩
    ·refine ⟨(0, 0, 0), bind_step curveIZero_val (guard_else (by rw [u256eq0 l3]; exact decide_eq_false hz) (bind_step curveIZero_val (guard_else (by rw [u256eq0 m3]; exact decide_eq_false hz2) (bind_step (curveISquare_val l3) (bind_step (curveISquare_val m3) (bind_step (curveITimes_val l1 (L _)) (bind_step (curveITimes_val m1 (L _)) (bind_step (curveITimes_val m3 (L _)) (bind_step (curveITimes_val l2 (L _)) (bind_step (curveITimes_val l3 (L _)) (bind_step (curveITimes_val m2 (L _)) (bind_step (curveIMinus_val (L _) (L _)) (bind_step (curveIMinus_val (L _) (L _))
      (bind_step curveIZero_val (guard_step (by rw [hx']; rfl) (bind_step curveIZero_val (guard_else (by rw [u256eq0 (L _)]; exact decide_eq_false (fun e => hy (ey.1 e))) rfl))))))))))))))))), ?_⟩
     have : padd (some p) (some q) = none := by
      by_cases hn : p.1 = q.1 ∧ q.2 = -p.2
      ·exact padd_opp hn
      ·exfalso
       obtain ⟨d, k1, k2, k3⟩ := add_data hP hQ hn
       have hd : d = 0 := by grind
       subst hd
       exact hy (by grind)
     rw [this]
     exact JN_zero
   ·refine ⟨_, bind_step curveIZero_val (guard_else (by rw [u256eq0 l3]; exact decide_eq_false hz) (bind_step curveIZero_val (guard_else (by rw [u256eq0 m3]; exact decide_eq_false hz2) (bind_step (curveISquare_val l3) (bind_step (curveISquare_val m3) (bind_step (curveITimes_val l1 (L _)) (bind_step (curveITimes_val m1 (L _)) (bind_step (curveITimes_val m3 (L _)) (bind_step (curveITimes_val l2 (L _)) (bind_step (curveITimes_val l3 (L _)) (bind_step (curveITimes_val m2 (L _)) (bind_step (curveIMinus_val (L _) (L _)) (bind_step (curveIMinus_val (L _) (L _))
      (bind_step curveIZero_val (guard_else (by rw [u256eq0 (L _)]; exact decide_eq_false (fun e => hx (ex.1 e))) (bind_step (curveISquare_val (L _)) (bind_step (curveITimes_val (L _) (L _)) (bind_step (curveITimes_val (L _) (L _)) (bind_step (curveISquare_val (L _)) (bind_step (curveIMinus_val (L _) (L _)) (bind_step (curveIMinus_val (L _) (L _)) (bind_step (curveIMinus_val (L _) (L _)) (bind_step (curveIMinus_val (L _) (L _)) (bind_step (curveITimes_val (L _) (L _)) (bind_step (curveITimes_val (L _) (L _)) (bind_step (curveIMinus_val (L _) (L _)) (bind_step (curveITimes_val l3 m3) (bind_step (curveITimes_val (L _) (L _)) rfl)))))))))))))))))))))))))))), lt_p _, lt_p _, lt_p _, ?_⟩
    refine JF_add hP hQ g4 g5 g6 k4 k5 k6 hx rfl rfl rfl rfl ?_ ?_ ?_
    all_goals (simp only [toF_mulm, toF_addm, toF_neg]; generalize toF X = a; generalize toF Y = b; generalize toF Z = c; generalize toF X2 = d; generalize toF Y2 = e; generalize toF Z2 = f; grind)
theorem invK_0 {z : Nat} (h : z % prP ≠ 0) : invK 0 z = (z ^ (prP - 2) % prP, 0) := invK_good (k := 0) (.inl rfl) h
theorem curveJacobianPoint_val {j : Nat × Nat × Nat} {P : Pt} (h : JN j P) : curveJacobianPoint j = some (ofPt P) := by
 rw [curveJacobianPoint_eq]
 unfold curveJacobianPointB
 cases P with
 | none => exact bind_step curveIZero_val (guard_step (by rw [JN_none h]; rfl) rfl)
 | some p =>
  have hz := JN_some h
  obtain ⟨g1, g2, g3, g4, g5, g6⟩ := h
  obtain ⟨X, Y, Z⟩ := j
  simp only at *
  have l1 := lt256 g1
  have l2 := lt256 g2
  have l3 := lt256 g3
  have L := mod_p_lt
  have hZp : Z % prP ≠ 0 := by rw [Nat.mod_eq_of_lt g3]; exact hz
  refine bind_step curveIZero_val (guard_else (by rw [u256eq0 l3]; exact decide_eq_false hz) (bind_step ((fieldInverse_val 0 l3).trans (congrArg some (invK_0 hZp))) (bind_step (curveISquare_val (L _)) (bind_step (curveITimes_val l1 (L _)) (bind_step (curveITimes_val (L _) (L _)) (bind_step (curveITimes_val l2 (L _)) ?_))))))
  have hi := f_mul_inv g4
  have e := toF_inv g3
  congr 1
  refine Prod.ext ?_ (Prod.ext ?_ rfl)
  ·refine val_of (lt_p _) ?_
   simp only [toF_mulm, e]
   rw [g5]
   generalize invF (toF Z) = i at *
   grind
  ·refine val_of (lt_p _) ?_
   simp only [toF_mulm, e]
   rw [g6]
   generalize invF (toF Z) = i at *
   grind
end Go.Sy
set_option linter.unusedVariables false
set_option linter.unusedSimpArgs false
namespace Go.Sy
open Go
abbrev getP (l : List P3) (i : Nat) : P3 := l.getD i ((0, 0, false) : Nat × Nat × Bool)
theorem ref05IIdentity_val : ref05IIdentity = some (0, 0, true) := ref05IIdentity_eq.trans rfl
theorem ref05ITimes_val {n x : Nat} (hn : n < 18446744073709551616) (hx : x < M256) : ref05ITimes (n : Int) x = some (n * x % prP) := by
 rw [ref05ITimes_eq]
 exact bind_step (ref01From_val hn) (bind_step (ref05IMul_val (by simp only [M256]; omega) hx) rfl)
theorem ofPt_lt (P : Pt) : In256 (ofPt P) := by
 cases P with
 | none => exact ⟨by decide, by decide⟩
 | some p => exact ⟨lt256 (val_lt _), lt256 (val_lt _)⟩
def gN : P3 := (55066263022277343669578718895168534326250603453777594175500187360389116729240, 32670510020758816978083085130507043184471273380659243275938904335757337482424, false)
theorem curveG_val : curveG = some gN := by rw [curveG_eq]; kernel_rfl
theorem ref05G_val : ref05G = some gN := ref05G_eq.trans rfl
theorem gN_on : OnN gN := by decide
def gP : Pt := ptF gN
theorem sameP {p : P3} (h : In256 p) : ((u256eq p.1 p.1) && ((u256eq p.2.1 p.2.1) && (p.2.2 == p.2.2))) = true := by
 rw [eqP_step (x1 := 0) (x2 := 0) (b1 := true) h h]; simp
end Go.Sy
set_option linter.unusedVariables false
set_option linter.unusedSimpArgs false
namespace Go.Sy
open Go
end Go.Sy
