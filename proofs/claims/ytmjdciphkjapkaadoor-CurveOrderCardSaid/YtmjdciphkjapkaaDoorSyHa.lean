/- What the curve's functions compute: points, sums. -/
import Derived.Test.YtmjdciphkjapkaaDoorSyVC1
import Derived.Test.YtmjdciphkjapkaaDoorSyGb
import Derived.Test.YtmjdciphkjapkaaDoorSyMa3
set_option linter.unusedVariables false
set_option linter.unusedSimpArgs false
namespace Go.Sy
open Go

/-! ### Numbers and the field -/

theorem toF_mulm (a b : Nat) : toF (a * b % prP) = toF a * toF b := (toF_mod (a * b)).trans (toF_mul a b)
theorem toF_addm (a b : Nat) : toF ((a + b) % prP) = toF a + toF b := (toF_mod (a + b)).trans (toF_add a b)
theorem toF_modm (a : Nat) : toF (a % prP) = toF a := toF_mod a
theorem toF_prP : toF prP = 0 := by decide
theorem toF_neg (y : Nat) : toF ((prP - y % prP) % prP) = -toF y := by
  have h1 : toF ((prP - y % prP) + y % prP) = 0 := by
    rw [Nat.sub_add_cancel (Nat.le_of_lt (Nat.mod_lt y p_pos))]; exact toF_prP
  rw [toF_add, toF_modm] at h1
  rw [toF_modm]
  grind
theorem toF_subm (x y : Nat) : toF ((x + (prP - y % prP) % prP) % prP) = toF x - toF y := by
  rw [toF_addm, toF_neg]
  grind
theorem lt_p (a : Nat) : a % prP < prP := Nat.mod_lt _ p_pos
theorem lt256 {a : Nat} (h : a < prP) : a < M256 := Nat.lt_trans h prP_lt
theorem toF_zero {a : Nat} (h : a < prP) : toF a = 0 ↔ a = 0 := by
  constructor
  · intro e; exact toF_inj h p_pos (e.trans rfl)
  · intro e; rw [e]; rfl
theorem val_of {n : Nat} {x : FP} (h : n < prP) (e : toF n = x) : n = x.val := by
  rw [← e]; exact (Nat.mod_eq_of_lt h).symm
theorem val_lt (x : FP) : x.val < prP := x.isLt
theorem toF_inv {y : Nat} (h : y < prP) : toF (y ^ (prP - 2) % prP) = invF (toF y) := by
  unfold invF
  rw [toF_modm]
  have : (toF y).val = y := Nat.mod_eq_of_lt h
  rw [this]; rfl

theorem u256eq_p {a b : Nat} (ha : a < prP) (hb : b < prP) : u256eq a b = decide (a = b) := u256eq_val (lt256 ha) (lt256 hb)

/-! ### The program's small functions -/

theorem curveIZero_val : curveIZero = some 0 := curveIZero_eq.trans rfl
theorem curveIOne_val : curveIOne = some 1 := curveIOne_eq.trans rfl
theorem fieldModulus_0 : fieldModulus 0 = some (prP, 0) := by rw [fieldModulus_val, ansK_good (.inl rfl)]; rfl
theorem curveIPrime_val : curveIPrime = some prP := by rw [curveIPrime_eq]; exact bind_step fieldModulus_0 rfl
theorem ansK_0 (v : Nat) : ansK 0 v = (v, 0) := ansK_good (.inl rfl) v
theorem curveISquare_val {x : Nat} (hx : x < M256) : curveISquare x = some (x * x % prP) := by
  rw [curveISquare_eq]; exact bind_step ((fieldSquare_val 0 hx).trans (congrArg some (ansK_0 _))) rfl
theorem curveITimes_val {x y : Nat} (hx : x < M256) (hy : y < M256) : curveITimes x y = some (x * y % prP) := by
  rw [curveITimes_eq]; exact bind_step ((fieldMul_val 0 hx hy).trans (congrArg some (ansK_0 _))) rfl
theorem curveIPlus_val {x y : Nat} (hx : x < M256) (hy : y < M256) : curveIPlus x y = some ((x + y) % prP) := by
  rw [curveIPlus_eq]; exact bind_step ((fieldAdd_val 0 hx hy).trans (congrArg some (ansK_0 _))) rfl
theorem curveIMinus_val {x y : Nat} (hx : x < M256) (hy : y < M256) : curveIMinus x y = some ((x + (prP - y % prP) % prP) % prP) := by
  rw [curveIMinus_eq]; exact bind_step ((fieldSub_val 0 hx hy).trans (congrArg some (ansK_0 _))) rfl
/-- x * x * x + 7, a number. -/
def rhsN (x : Nat) : Nat := (x * (x * x % prP) % prP + 7) % prP
theorem toF_rhs (x : Nat) : toF (rhsN x) = toF x * toF x * toF x + toF 7 := by
  unfold rhsN; rw [toF_addm, toF_mulm, toF_mulm]; grind
theorem curveIRight_val {x : Nat} (hx : x < M256) : curveIRight x = some (rhsN x) := by
  rw [curveIRight_eq]
  unfold curveIRightB
  exact bind_step (curveISquare_val hx) (bind_step (curveITimes_val hx (mod_p_lt _)) (bind_step (curveIPlus_val (mod_p_lt _) (by decide)) rfl))

theorem ref05IMul_val {x y : Nat} (hx : x < M256) (hy : y < M256) : ref05IMul x y = some (x * y % prP) := by
  rw [ref05IMul_eq]; exact bind_step ((ref04Mul_val 0 hx hy).trans (congrArg some (ansK_0 _))) rfl
theorem ref05IAdd_val {x y : Nat} (hx : x < M256) (hy : y < M256) : ref05IAdd x y = some ((x + y) % prP) := by
  rw [ref05IAdd_eq]; exact bind_step ((ref04Add_val 0 hx hy).trans (congrArg some (ansK_0 _))) rfl
theorem ref05ISub_val {x y : Nat} (hx : x < M256) (hy : y < M256) : ref05ISub x y = some ((x + (prP - y % prP) % prP) % prP) := by
  rw [ref05ISub_eq]; exact bind_step ((ref04Sub_val 0 hx hy).trans (congrArg some (ansK_0 _))) rfl
theorem ref05ICubic_val {x : Nat} (hx : x < M256) : ref05ICubic x = some (rhsN x) := by
  rw [ref05ICubic_eq]
  unfold ref05ICubicB
  refine bind_step (ref05IMul_val hx hx) (bind_step (ref05IMul_val (mod_p_lt _) hx) (bind_step (ref01From_val (c := 7) (by omega)) (bind_step (ref05IAdd_val (mod_p_lt _) (by decide)) ?_)))
  unfold rhsN
  rw [Nat.mul_comm x (x * x % prP)]

theorem cmp_neg {a b : Nat} : decide (cmpI a b < 0) = decide (a < b) := by
  unfold cmpI
  by_cases h : a < b
  · simp [h]
  · rw [if_neg h]; split <;> simp [h]
theorem ref04Modulus_0 : ref04Modulus 0 = some (prP, 0) := by rw [ref04Modulus_val, ansK_0]; rfl
theorem ref05ILow_val {x : Nat} (hx : x < M256) : ref05ILow x = some (decide (x < prP)) := by
  rw [ref05ILow_eq]
  unfold ref05ILowB
  refine bind_step ref04Modulus_0 (bind_step (ref01Cmp_val hx prP_lt) ?_)
  rw [cmp_neg]

theorem cmp_nneg {a b : Nat} : decide (cmpI a b ≥ 0) = !decide (a < b) := by
  unfold cmpI
  by_cases h : a < b
  · simp [h]
  · rw [if_neg h]; split <;> simp [h]

/-! ### Which values are points -/

abbrev P3 := Nat × Nat × Bool
def OnN (p : P3) : Prop := (p.2.2 = true ∧ p.1 = 0 ∧ p.2.1 = 0) ∨ (p.2.2 = false ∧ p.1 < prP ∧ p.2.1 < prP ∧ p.2.1 * p.2.1 % prP = rhsN p.1)
instance (p : P3) : Decidable (OnN p) := by unfold OnN; infer_instance

def ptF (p : P3) : Pt := if p.2.2 = true then none else some (toF p.1, toF p.2.1)
def ofPt : Pt → P3
  | none => (0, 0, true)
  | some p => (p.1.val, p.2.val, false)
def In256 (p : P3) : Prop := p.1 < M256 ∧ p.2.1 < M256

theorem OnN.in256 {p : P3} (h : OnN p) : In256 p := by
  rcases h with ⟨_, h1, h2⟩ | ⟨_, h1, h2, _⟩
  · rw [In256, h1, h2]; exact ⟨by decide, by decide⟩
  · exact ⟨lt256 h1, lt256 h2⟩
theorem OnN.ok {p : P3} (h : OnN p) : PtOk (ptF p) := by
  rcases h with ⟨h0, h1, h2⟩ | ⟨h0, h1, h2, h3⟩
  · unfold ptF; rw [if_pos h0]; trivial
  · unfold ptF; rw [if_neg (by rw [h0]; decide)]
    show toF p.2.1 * toF p.2.1 = toF p.1 * toF p.1 * toF p.1 + toF 7
    rw [← toF_mulm, h3, toF_rhs]
theorem ofPt_ptF {p : P3} (h : OnN p) : ofPt (ptF p) = p := by
  obtain ⟨x, y, b⟩ := p
  rcases h with ⟨h0, h1, h2⟩ | ⟨h0, h1, h2, h3⟩
  · simp only at h0 h1 h2; subst h0 h1 h2; rfl
  · simp only at h0 h1 h2; subst h0
    show ((toF x).val, (toF y).val, false) = (x, y, false)
    rw [← val_of h1 rfl, ← val_of h2 rfl]
theorem ptF_ofPt (P : Pt) : ptF (ofPt P) = P := by
  cases P with
  | none => rfl
  | some p =>
    show some (toF p.1.val, toF p.2.val) = some p
    rw [toF_val, toF_val]
theorem OnN_ofPt {P : Pt} (h : PtOk P) : OnN (ofPt P) := by
  cases P with
  | none => exact .inl ⟨rfl, rfl, rfl⟩
  | some p =>
    refine .inr ⟨rfl, val_lt _, val_lt _, ?_⟩
    refine toF_inj (lt_p _) (lt_p _) ?_
    rw [toF_mulm]
    show toF p.2.val * toF p.2.val = toF (rhsN p.1.val)
    rw [toF_rhs, toF_val, toF_val]
    exact h
theorem ofPt_inj {P Q : Pt} (h : ofPt P = ofPt Q) : P = Q := by rw [← ptF_ofPt P, h, ptF_ofPt]

theorem curveOn_val {p : P3} (h : In256 p) : curveOn p = some (decide (OnN p)) := by
  obtain ⟨x, y, b⟩ := p
  obtain ⟨hx, hy⟩ := h
  rw [curveOn_eq]
  unfold curveOnB
  simp only at hx hy
  cases b with
  | true =>
    refine guard_step rfl (bind_step curveIZero_val ?_)
    by_cases h1 : x = 0
    · subst h1
      refine guard_step rfl (bind_step curveIZero_val ?_)
      show some (u256eq y 0) = _
      rw [u256eq0 hy]
      congr 1
      rw [decide_eq_decide]
      simp [OnN]
    · refine guard_else ?_ ?_
      · show u256eq x 0 = false
        rw [u256eq0 hx]; exact decide_eq_false h1
      · rw [decide_eq_false]; simp [OnN, h1]
  | false =>
    refine guard_else rfl (bind_step curveIPrime_val (bind_step (u256Cmp_val hx prP_lt) ?_))
    rw [cmp_neg]
    by_cases h1 : x < prP
    · refine guard_step (decide_eq_true h1) (bind_step curveIPrime_val (bind_step (u256Cmp_val hy prP_lt) ?_))
      rw [cmp_neg]
      by_cases h2 : y < prP
      · refine guard_step (decide_eq_true h2) (bind_step (curveISquare_val hy) (bind_step (curveIRight_val hx) ?_))
        have : rhsN x < prP := lt_p _
        rw [u256eq_p (lt_p _) this]
        congr 1
        rw [decide_eq_decide]
        simp [OnN, h1, h2]
      · refine guard_else (decide_eq_false h2) ?_
        rw [decide_eq_false]; simp [OnN, h2]
    · refine guard_else (decide_eq_false h1) ?_
      rw [decide_eq_false]; simp [OnN, h1]

theorem eqP_step {x1 x2 : Nat} {b1 : Bool} {p q : P3} (hp : In256 p) (hq : In256 q) : ((u256eq p.1 q.1) && ((u256eq p.2.1 q.2.1) && (p.2.2 == q.2.2))) = decide (p = q) := by
  obtain ⟨a, b, c⟩ := p
  obtain ⟨d, e, f⟩ := q
  simp only [u256eq_val hp.1 hq.1, u256eq_val hp.2 hq.2]
  by_cases h1 : a = d <;> by_cases h2 : b = e <;> by_cases h3 : c = f <;> simp [h1, h2, h3]

theorem ref05On_val {p : P3} (h : In256 p) : ref05On p = some (decide (OnN p)) := by
  obtain ⟨x, y, b⟩ := p
  obtain ⟨hx, hy⟩ := h
  rw [ref05On_eq]
  unfold ref05OnB
  simp only at hx hy
  cases b with
  | true =>
    refine guard_step rfl (bind_step (ref05IIdentity_eq.trans rfl) ?_)
    congr 1
    show (u256eq x 0 && (u256eq y 0 && true)) = _
    rw [u256eq0 hx, u256eq0 hy]
    by_cases h1 : x = 0 <;> by_cases h2 : y = 0 <;> simp [OnN, h1, h2]
  | false =>
    refine guard_else rfl (bind_step (ref05ILow_val hx) ?_)
    by_cases h1 : x < prP
    · refine guard_else (by simp [h1]) (bind_step (ref05ILow_val hy) ?_)
      by_cases h2 : y < prP
      · refine guard_else (by simp [h2]) (bind_step (ref05IMul_val hy hy) (bind_step (ref05ICubic_val hx) ?_))
        have : rhsN x < prP := lt_p _
        rw [u256eq_p (lt_p _) this]
        congr 1
        rw [decide_eq_decide]
        simp [OnN, h1, h2]
      · refine guard_step (by simp [h2]) ?_
        rw [decide_eq_false]; simp [OnN, h2]
    · refine guard_step (by simp [h1]) ?_
      rw [decide_eq_false]; simp [OnN, h1]

/-! ### Three numbers -/

/-- Three numbers that are a point's. -/
def JN (j : Nat × Nat × Nat) (P : Pt) : Prop := j.1 < prP ∧ j.2.1 < prP ∧ j.2.2 < prP ∧ JF (toF j.1) (toF j.2.1) (toF j.2.2) P

theorem JN_zero : JN (0, 0, 0) none := ⟨p_pos, p_pos, p_pos, rfl⟩
theorem JN_none {j : Nat × Nat × Nat} (h : JN j none) : j.2.2 = 0 := (toF_zero h.2.2.1).1 h.2.2.2
theorem JN_some {j : Nat × Nat × Nat} {p : FP × FP} (h : JN j (some p)) : j.2.2 ≠ 0 := fun e => h.2.2.2.1 (by rw [e]; rfl)

theorem curveIOf_val {p : P3} (h : OnN p) : ∃ j, curveIOf p = some j ∧ JN j (ptF p) := by
  obtain ⟨x, y, b⟩ := p
  rw [curveIOf_eq]
  unfold curveIOfB
  cases b with
  | true => exact ⟨_, guard_step rfl rfl, JN_zero⟩
  | false =>
    rcases h with ⟨h0, _⟩ | ⟨_, h1, h2, h3⟩
    · cases h0
    refine ⟨_, guard_else rfl (bind_step curveIOne_val rfl), h1, h2, show 1 < prP by decide, ?_⟩
    show JF (toF x) (toF y) (toF 1) (some (toF x, toF y))
    have e1 : toF 1 = (1 : FP) := rfl
    rw [e1]
    exact ⟨one_ne, by grind, by grind⟩

theorem curveJacobianDouble_val {j : Nat × Nat × Nat} {P : Pt} (hP : PtOk P) (h : JN j P) : ∃ r, curveJacobianDouble j = some r ∧ JN r (padd P P) := by
  rw [curveJacobianDouble_eq]
  unfold curveJacobianDoubleB
  cases P with
  | none =>
    refine ⟨j, bind_step curveIZero_val (guard_step ?_ rfl), h⟩
    rw [JN_none h]; rfl
  | some p =>
    have hz := JN_some h
    obtain ⟨g1, g2, g3, g4, g5, g6⟩ := h
    obtain ⟨X, Y, Z⟩ := j
    simp only at *
    have l1 := lt256 g1
    have l2 := lt256 g2
    have l3 := lt256 g3
    have L := mod_p_lt
    refine ⟨_, bind_step curveIZero_val (guard_else (by rw [u256eq0 l3]; exact decide_eq_false hz) (bind_step (curveISquare_val l2) (bind_step (curveITimes_val l1 (L _)) (bind_step (curveIPlus_val (L _) (L _)) (bind_step (curveIPlus_val (L _) (L _)) (bind_step (curveISquare_val l1) (bind_step (curveIPlus_val (L _) (L _)) (bind_step (curveIPlus_val (L _) (L _))
      (bind_step (curveISquare_val (L _)) (bind_step (curveIMinus_val (L _) (L _)) (bind_step (curveIMinus_val (L _) (L _)) (bind_step (curveISquare_val (L _)) (bind_step (curveIPlus_val (L _) (L _)) (bind_step (curveIPlus_val (L _) (L _)) (bind_step (curveIPlus_val (L _) (L _)) (bind_step (curveITimes_val l2 l3) (bind_step (curveIMinus_val (L _) (L _)) (bind_step (curveITimes_val (L _) (L _)) (bind_step (curveIMinus_val (L _) (L _)) (bind_step (curveIPlus_val (L _) (L _)) rfl)))))))))))))))))))), lt_p _, lt_p _, lt_p _, ?_⟩
    refine JF_dbl hP g4 g5 g6 ?_ ?_ ?_ <;> simp only [toF_mulm, toF_addm, toF_neg] <;> generalize toF X = a <;> generalize toF Y = b <;> generalize toF Z = c <;> grind

theorem curveJacobianAdd_val {j k : Nat × Nat × Nat} {P Q : Pt} (hP : PtOk P) (hQ : PtOk Q) (h : JN j P) (g : JN k Q) : ∃ r, curveJacobianAdd j k = some r ∧ JN r (padd P Q) := by
  rw [curveJacobianAdd_eq]
  unfold curveJacobianAddB
  cases P with
  | none =>
    refine ⟨k, bind_step curveIZero_val (guard_step ?_ rfl), g⟩
    rw [JN_none h]; rfl
  | some p =>
    have hz := JN_some h
    cases Q with
    | none =>
      refine ⟨j, bind_step curveIZero_val (guard_else (by rw [u256eq0 (lt256 h.2.2.1)]; exact decide_eq_false hz) (bind_step curveIZero_val (guard_step ?_ rfl))), h⟩
      rw [JN_none g]; rfl
    | some q =>
      have hz2 := JN_some g
      have h0 := h
      obtain ⟨g1, g2, g3, g4, g5, g6⟩ := h
      obtain ⟨k1, k2, k3, k4, k5, k6⟩ := g
      obtain ⟨X, Y, Z⟩ := j
      obtain ⟨X2, Y2, Z2⟩ := k
      simp only at *
      have l1 := lt256 g1
      have l2 := lt256 g2
      have l3 := lt256 g3
      have m1 := lt256 k1
      have m2 := lt256 k2
      have m3 := lt256 k3
      have L := mod_p_lt
      have hsame := JF_same g4 g5 g6 k4 k5 k6
      have ex : (X2 * (Z * Z % prP) % prP + (prP - X * (Z2 * Z2 % prP) % prP % prP) % prP) % prP = 0 ↔ p.1 = q.1 := by
        rw [← hsame.1, ← toF_zero (lt_p _)]
        simp only [toF_mulm, toF_addm, toF_neg]
        grind
      have ey : (Y2 * (Z * (Z * Z % prP) % prP) % prP + (prP - Y * (Z2 * (Z2 * Z2 % prP) % prP) % prP % prP) % prP) % prP = 0 ↔ p.2 = q.2 := by
        rw [← hsame.2, ← toF_zero (lt_p _)]
        simp only [toF_mulm, toF_addm, toF_neg]
        grind
      have pre : ∀ {r : Option (Nat × Nat × Nat)} {f : Nat → Nat → Nat → Nat → Nat → Nat → Nat → Nat → Nat → Nat → Option (Nat × Nat × Nat)}, True := trivial
      by_cases hx : p.1 = q.1
      · have hx' := ex.2 hx
        by_cases hy : p.2 = q.2
        · have hy' := ey.2 hy
          obtain ⟨r, hr1, hr2⟩ := curveJacobianDouble_val hP h0
          have hpq : p = q := Prod.ext hx hy
          subst hpq
          exact ⟨r, bind_step curveIZero_val (guard_else (by rw [u256eq0 l3]; exact decide_eq_false hz) (bind_step curveIZero_val (guard_else (by rw [u256eq0 m3]; exact decide_eq_false hz2) (bind_step (curveISquare_val l3) (bind_step (curveISquare_val m3) (bind_step (curveITimes_val l1 (L _)) (bind_step (curveITimes_val m1 (L _)) (bind_step (curveITimes_val m3 (L _)) (bind_step (curveITimes_val l2 (L _)) (bind_step (curveITimes_val l3 (L _)) (bind_step (curveITimes_val m2 (L _)) (bind_step (curveIMinus_val (L _) (L _)) (bind_step (curveIMinus_val (L _) (L _))
            (bind_step curveIZero_val (guard_step (by rw [hx']; rfl) (bind_step curveIZero_val (guard_step (by rw [hy']; rfl) (bind_step hr1 rfl)))))))))))))))))), hr2⟩
        · refine ⟨(0, 0, 0), bind_step curveIZero_val (guard_else (by rw [u256eq0 l3]; exact decide_eq_false hz) (bind_step curveIZero_val (guard_else (by rw [u256eq0 m3]; exact decide_eq_false hz2) (bind_step (curveISquare_val l3) (bind_step (curveISquare_val m3) (bind_step (curveITimes_val l1 (L _)) (bind_step (curveITimes_val m1 (L _)) (bind_step (curveITimes_val m3 (L _)) (bind_step (curveITimes_val l2 (L _)) (bind_step (curveITimes_val l3 (L _)) (bind_step (curveITimes_val m2 (L _)) (bind_step (curveIMinus_val (L _) (L _)) (bind_step (curveIMinus_val (L _) (L _))
            (bind_step curveIZero_val (guard_step (by rw [hx']; rfl) (bind_step curveIZero_val (guard_else (by rw [u256eq0 (L _)]; exact decide_eq_false (fun e => hy (ey.1 e))) rfl))))))))))))))))), ?_⟩
          have : padd (some p) (some q) = none := by
            by_cases hn : p.1 = q.1 ∧ q.2 = -p.2
            · exact padd_opp hn
            · exfalso
              obtain ⟨d, k1, k2, k3⟩ := add_data hP hQ hn
              have hd : d = 0 := by grind
              subst hd
              exact hy (by grind)
          rw [this]
          exact JN_zero
      · refine ⟨_, bind_step curveIZero_val (guard_else (by rw [u256eq0 l3]; exact decide_eq_false hz) (bind_step curveIZero_val (guard_else (by rw [u256eq0 m3]; exact decide_eq_false hz2) (bind_step (curveISquare_val l3) (bind_step (curveISquare_val m3) (bind_step (curveITimes_val l1 (L _)) (bind_step (curveITimes_val m1 (L _)) (bind_step (curveITimes_val m3 (L _)) (bind_step (curveITimes_val l2 (L _)) (bind_step (curveITimes_val l3 (L _)) (bind_step (curveITimes_val m2 (L _)) (bind_step (curveIMinus_val (L _) (L _)) (bind_step (curveIMinus_val (L _) (L _))
            (bind_step curveIZero_val (guard_else (by rw [u256eq0 (L _)]; exact decide_eq_false (fun e => hx (ex.1 e))) (bind_step (curveISquare_val (L _)) (bind_step (curveITimes_val (L _) (L _)) (bind_step (curveITimes_val (L _) (L _)) (bind_step (curveISquare_val (L _)) (bind_step (curveIMinus_val (L _) (L _)) (bind_step (curveIMinus_val (L _) (L _)) (bind_step (curveIMinus_val (L _) (L _)) (bind_step (curveIMinus_val (L _) (L _)) (bind_step (curveITimes_val (L _) (L _)) (bind_step (curveITimes_val (L _) (L _)) (bind_step (curveIMinus_val (L _) (L _)) (bind_step (curveITimes_val l3 m3) (bind_step (curveITimes_val (L _) (L _)) rfl)))))))))))))))))))))))))))), lt_p _, lt_p _, lt_p _, ?_⟩
        refine JF_add hP hQ g4 g5 g6 k4 k5 k6 hx rfl rfl rfl rfl ?_ ?_ ?_
        all_goals (simp only [toF_mulm, toF_addm, toF_neg]; generalize toF X = a; generalize toF Y = b; generalize toF Z = c; generalize toF X2 = d; generalize toF Y2 = e; generalize toF Z2 = f; grind)

theorem invK_0 {z : Nat} (h : z % prP ≠ 0) : invK 0 z = (z ^ (prP - 2) % prP, 0) := invK_good (k := 0) (.inl rfl) h

theorem curveJacobianPoint_val {j : Nat × Nat × Nat} {P : Pt} (h : JN j P) : curveJacobianPoint j = some (ofPt P) := by
  rw [curveJacobianPoint_eq]
  unfold curveJacobianPointB
  cases P with
  | none => exact bind_step curveIZero_val (guard_step (by rw [JN_none h]; rfl) rfl)
  | some p =>
    have hz := JN_some h
    obtain ⟨g1, g2, g3, g4, g5, g6⟩ := h
    obtain ⟨X, Y, Z⟩ := j
    simp only at *
    have l1 := lt256 g1
    have l2 := lt256 g2
    have l3 := lt256 g3
    have L := mod_p_lt
    have hZp : Z % prP ≠ 0 := by rw [Nat.mod_eq_of_lt g3]; exact hz
    refine bind_step curveIZero_val (guard_else (by rw [u256eq0 l3]; exact decide_eq_false hz) (bind_step ((fieldInverse_val 0 l3).trans (congrArg some (invK_0 hZp))) (bind_step (curveISquare_val (L _)) (bind_step (curveITimes_val l1 (L _)) (bind_step (curveITimes_val (L _) (L _)) (bind_step (curveITimes_val l2 (L _)) ?_))))))
    have hi := f_mul_inv g4
    have e := toF_inv g3
    congr 1
    refine Prod.ext ?_ (Prod.ext ?_ rfl)
    · refine val_of (lt_p _) ?_
      simp only [toF_mulm, e]
      rw [g5]
      generalize invF (toF Z) = i at *
      grind
    · refine val_of (lt_p _) ?_
      simp only [toF_mulm, e]
      rw [g6]
      generalize invF (toF Z) = i at *
      grind
end Go.Sy

set_option linter.unusedVariables false
set_option linter.unusedSimpArgs false
namespace Go.Sy
open Go

/-! ### Sums -/

def sumP (l : List P3) : Pt := l.foldl (fun s p => padd s (ptF p)) none
abbrev getP (l : List P3) (i : Nat) : P3 := l.getD i ((0, 0, false) : Nat × Nat × Bool)

theorem takeP {l : List P3} {i : Nat} (h : i < l.length) : l.take (i + 1) = l.take i ++ [getP l i] := by
  rw [List.take_add_one]
  simp [getP, List.getD_eq_getElem?_getD, h]
theorem sumP_snoc (l : List P3) (p : P3) : sumP (l ++ [p]) = padd (sumP l) (ptF p) := by
  unfold sumP; rw [List.foldl_append]; rfl

theorem sumLoop {l : List P3} (hn : l.length < 1152921504606846976) (hl : ∀ i, i < l.length → In256 (getP l i)) (b2 : P3) : ∀ (r i fuel : Nat) (sum : Nat × Nat × Nat), i + r = l.length → r < fuel → (∀ j, j < i → OnN (getP l j)) → PtOk (sumP (l.take i)) → JN sum (sumP (l.take i)) →
    ∃ q, iter (fun p : (List (Nat × Nat × Bool)) × Int × Int × (Nat × Nat × Bool) × (Nat × Nat × Nat) => curveSumL0R p.1 p.2.1 p.2.2.1 p.2.2.2.1 p.2.2.2.2) fuel (l, (l.length : Int), (i : Int), b2, sum) = some q ∧
      ((q = .inl (0, 0, false) ∧ ∃ j, j < l.length ∧ ¬ OnN (getP l j)) ∨ ∃ s, q = .inr (b2, s) ∧ JN s (sumP l) ∧ PtOk (sumP l) ∧ ∀ j, j < l.length → OnN (getP l j))
  | 0, i, fuel, sum, hi, hf, h1, h2, h3 => by
    obtain ⟨fuel, rfl⟩ : ∃ n, fuel = n + 1 := ⟨fuel - 1, by omega⟩
    have : i = l.length := by omega
    subst this
    rw [List.take_length] at h2 h3
    refine ⟨_, iter_end ?_, .inr ⟨sum, rfl, h3, h2, h1⟩⟩
    show curveSumL0R l (l.length : Int) (l.length : Int) b2 sum = _
    unfold curveSumL0R
    exact guard_else (decide_eq_false (by omega)) rfl
  | r + 1, i, fuel, sum, hi, hf, h1, h2, h3 => by
    obtain ⟨fuel, rfl⟩ : ∃ n, fuel = n + 1 := ⟨fuel - 1, by omega⟩
    have hil : i < l.length := by omega
    have e : Int.toNat (i : Int) = i := rfl
    by_cases hon : OnN (getP l i)
    · obtain ⟨j, k1, k2⟩ := curveIOf_val hon
      obtain ⟨s', k3, k4⟩ := curveJacobianAdd_val h2 hon.ok h3 k2
      have e2 : sumP (l.take (i + 1)) = padd (sumP (l.take i)) (ptF (getP l i)) := by rw [takeP hil, sumP_snoc]
      obtain ⟨q, g1, g2⟩ := sumLoop hn hl b2 r (i + 1) fuel s' (by omega) (by omega) (fun j hj => by
        by_cases ej : j = i
        · subst ej; exact hon
        · exact h1 j (by omega)) (by rw [e2]; exact padd_ok h2 hon.ok) (by rw [e2]; exact k4)
      refine ⟨q, iter_more ?_ g1, g2⟩
      show curveSumL0R l (l.length : Int) (i : Int) b2 sum = _
      unfold curveSumL0R
      rw [e]
      refine guard_step (decide_eq_true (by omega)) (guard_step (by simp) (guard_step (blt_of hil) (bind_step (curveOn_val (hl i hil)) (guard_else ?_ (bind_step k1 (bind_step k3 ?_))))))
      · rw [decide_eq_true hon]; rfl
      · rw [wI64z _ (by omega) (by omega)]; rfl
    · refine ⟨_, iter_end (r := .inl (0, 0, false)) ?_, .inl ⟨rfl, i, hil, hon⟩⟩
      show curveSumL0R l (l.length : Int) (i : Int) b2 sum = _
      unfold curveSumL0R
      rw [e]
      refine guard_step (decide_eq_true (by omega)) (guard_step (by simp) (guard_step (blt_of hil) (bind_step (curveOn_val (hl i hil)) (guard_step ?_ rfl))))
      rw [decide_eq_false hon]; rfl

def sumV (l : List P3) : P3 × Int := if ∀ j, j < l.length → OnN (getP l j) then (ofPt (sumP l), 0) else ((0, 0, false), 50)

theorem curveSum_val {l : List P3} (hn : l.length < 1152921504606846976) (hl : ∀ i, i < l.length → In256 (getP l i)) : curveSum l = some (sumV l) := by
  have hbig := bigFuel_eq
  rw [curveSum_eq]
  unfold curveSumB sumV
  obtain ⟨q, g1, g2⟩ := sumLoop hn hl (0, 0, false) l.length 0 bigFuel (0, 0, 0) (by omega) (by omega) (fun j hj => absurd hj (Nat.not_lt_zero j)) trivial JN_zero
  refine bind_step ((curveSumL0_eq _ _ _ _ _).trans g1) ?_
  rcases g2 with ⟨rfl, j, hj, hj0⟩ | ⟨s, rfl, h1, h2, h3⟩
  · rw [if_neg (fun h => hj0 (h j hj))]; rfl
  · rw [if_pos h3]
    exact sum_right (bind_step (curveJacobianPoint_val h1) rfl)

/-- What a sum of two answers. -/
def addV (p q : P3) : P3 × Int := if OnN p ∧ OnN q then (ofPt (padd (ptF p) (ptF q)), 0) else ((0, 0, false), 50)

theorem curveAdd_val {p q : P3} (hp : In256 p) (hq : In256 q) : curveAdd p q = some (addV p q) := by
  rw [curveAdd_eq]
  unfold curveAddB
  have e : sumV [p, q] = addV p q := by
    unfold sumV addV
    by_cases h : OnN p ∧ OnN q
    · rw [if_pos h, if_pos]
      · rfl
      · intro j hj
        match j, hj with
        | 0, _ => exact h.1
        | 1, _ => exact h.2
    · rw [if_neg h, if_neg]
      exact fun g => h ⟨g 0 (by simp), g 1 (by simp)⟩
  rw [← e]
  refine bind_step (curveSum_val (by simp) fun i hi => ?_) rfl
  match i, hi with
  | 0, _ => exact hp
  | 1, _ => exact hq

def dblV (p : P3) : P3 × Int := if OnN p then (ofPt (padd (ptF p) (ptF p)), 0) else ((0, 0, false), 50)
theorem curveDouble_val {p : P3} (hp : In256 p) : curveDouble p = some (dblV p) := by
  rw [curveDouble_eq]
  unfold curveDoubleB dblV
  refine bind_step (curveOn_val hp) ?_
  by_cases h : OnN p
  · rw [if_pos h]
    obtain ⟨j, k1, k2⟩ := curveIOf_val h
    obtain ⟨r, k3, k4⟩ := curveJacobianDouble_val h.ok k2
    exact guard_else (by rw [decide_eq_true h]; rfl) (bind_step k1 (bind_step k3 (bind_step (curveJacobianPoint_val k4) rfl)))
  · rw [if_neg h]; exact guard_step (by rw [decide_eq_false h]; rfl) rfl

def negV (p : P3) : P3 × Int := if OnN p then (ofPt (pneg (ptF p)), 0) else ((0, 0, false), 50)
theorem neg_pt {x y : Nat} (h : OnN (x, y, false)) : ((x, (0 + (prP - y % prP) % prP) % prP, false) : P3) = ofPt (pneg (ptF (x, y, false))) := by
  rcases h with ⟨h0, _⟩ | ⟨_, h1, h2, h3⟩
  · cases h0
  show _ = ((toF x).val, (-toF y).val, false)
  rw [← val_of h1 rfl]
  have : (0 + (prP - y % prP) % prP) % prP = (-toF y).val := val_of (lt_p _) (by rw [toF_subm]; show 0 - toF y = -toF y; grind)
  rw [this]
theorem curveNeg_val {p : P3} (hp : In256 p) : curveNeg p = some (negV p) := by
  rw [curveNeg_eq]
  unfold curveNegB negV
  refine bind_step (curveOn_val hp) ?_
  by_cases h : OnN p
  · rw [if_pos h]
    refine guard_else (by rw [decide_eq_true h]; rfl) ?_
    obtain ⟨x, y, b⟩ := p
    cases b with
    | true =>
      have e := ofPt_ptF h
      refine guard_else rfl ?_
      have e2 : pneg (ptF (x, y, true)) = ptF (x, y, true) := rfl
      rw [e2, e]
    | false =>
      refine guard_step rfl (bind_step curveIZero_val (bind_step (curveIMinus_val (by decide) hp.2) ?_))
      rw [← neg_pt h]
  · rw [if_neg h]; exact guard_step (by rw [decide_eq_false h]; rfl) rfl

/-! ### The document's sum -/

theorem ref05IIdentity_val : ref05IIdentity = some (0, 0, true) := ref05IIdentity_eq.trans rfl
theorem ref05INeg_val {x y : Nat} (hy : y < M256) : ref05INeg (x, y, false) = some (x, (0 + (prP - y % prP) % prP) % prP, false) := by
  rw [ref05INeg_eq]
  exact guard_else rfl (bind_step (ref05ISub_val (by decide) hy) rfl)
theorem ref05ITimes_val {n x : Nat} (hn : n < 18446744073709551616) (hx : x < M256) : ref05ITimes (n : Int) x = some (n * x % prP) := by
  rw [ref05ITimes_eq]
  exact bind_step (ref01From_val hn) (bind_step (ref05IMul_val (by simp only [M256]; omega) hx) rfl)
theorem ref05IOver_val {x y : Nat} (hx : x < M256) (hy : y < M256) (h : y % prP ≠ 0) : ref05IOver x y = some (x * (y ^ (prP - 2) % prP) % prP) := by
  rw [ref05IOver_eq]
  exact bind_step ((ref04Inverse_val 0 hy).trans (congrArg some (invK_0 h))) (bind_step (ref05IMul_val hx (mod_p_lt _)) rfl)

theorem ofPt_lt (P : Pt) : In256 (ofPt P) := by
  cases P with
  | none => exact ⟨by decide, by decide⟩
  | some p => exact ⟨lt256 (val_lt _), lt256 (val_lt _)⟩

theorem ref05IPlus_val {p q : P3} (hp : OnN p) (hq : OnN q) : ref05IPlus p q = some (ofPt (padd (ptF p) (ptF q))) := by
  rw [ref05IPlus_eq]
  unfold ref05IPlusB
  have ip := hp.in256
  have iq := hq.in256
  have okp := hp.ok
  have okq := hq.ok
  have L := mod_p_lt
  by_cases hb : p.2.2 = true
  · refine guard_step hb ?_
    have e : ptF p = none := by unfold ptF; rw [if_pos hb]
    rw [e, none_padd, ofPt_ptF hq]
  · refine guard_else (by simpa using hb) ?_
    by_cases hc : q.2.2 = true
    · refine guard_step hc ?_
      have e : ptF q = none := by unfold ptF; rw [if_pos hc]
      rw [e, padd_none, ofPt_ptF hp]
    · refine guard_else (by simpa using hc) ?_
      have ep : ptF p = some (toF p.1, toF p.2.1) := by unfold ptF; rw [if_neg hb]
      have eq : ptF q = some (toF q.1, toF q.2.1) := by unfold ptF; rw [if_neg hc]
      rw [ep] at okp
      rw [eq] at okq
      rw [ep, eq]
      obtain ⟨x1, y1, b1⟩ := p
      obtain ⟨x2, y2, b2⟩ := q
      have hb' : b1 = false := by simpa using hb
      have hc' : b2 = false := by simpa using hc
      subst hb' hc'
      rcases hp with ⟨h0, _⟩ | ⟨_, p1, p2, p3⟩
      · cases h0
      rcases hq with ⟨h0, _⟩ | ⟨_, q1, q2, q3⟩
      · cases h0
      clear hb hc ep eq
      simp only at *
      have hneg : In256 ((x1, (0 + (prP - y1 % prP) % prP) % prP, false) : P3) := ⟨lt256 p1, L _⟩
      refine bind_step (ref05INeg_val ip.2) ?_
      rw [eqP_step (x1 := 0) (x2 := 0) (b1 := true) (p := (x2, y2, false)) iq hneg]
      have hopp : ((x2, y2, false) : P3) = (x1, (0 + (prP - y1 % prP) % prP) % prP, false) ↔ toF x1 = toF x2 ∧ toF y2 = -toF y1 := by
        constructor
        · intro h
          simp only [Prod.mk.injEq] at h
          refine ⟨by rw [h.1], ?_⟩
          rw [h.2.1, toF_subm]
          show 0 - toF y1 = -toF y1
          grind
        · intro ⟨h1, h2⟩
          have e1 : x1 = x2 := toF_inj p1 q1 h1
          have e2 : y2 = (0 + (prP - y1 % prP) % prP) % prP := toF_inj q2 (lt_p _) (by rw [toF_subm, h2]; show -toF y1 = 0 - toF y1; grind)
          rw [e1, ← e2]
      by_cases ho : toF x1 = toF x2 ∧ toF y2 = -toF y1
      · refine guard_step (decide_eq_true (hopp.2 ho)) (bind_step ref05IIdentity_val ?_)
        rw [padd_opp ho]; rfl
      · refine guard_else (decide_eq_false (fun h => ho (hopp.1 h))) ?_
        rw [eqP_step (x1 := 0) (x2 := 0) (b1 := true) (p := (x1, y1, false)) ip iq]
        rw [padd_some ho]
        by_cases hs : x1 = x2 ∧ y1 = y2
        · obtain ⟨e1, e2⟩ := hs
          subst e1 e2
          have hy0 : toF y1 ≠ 0 := y_ne okp
          have h2y : 2 * y1 % prP % prP ≠ 0 := by
            rw [Nat.mod_mod]
            intro h
            have h3 : toF (2 * y1 % prP) = 0 := by rw [h]; rfl
            rw [toF_mulm] at h3
            rcases f_eq_zero h3 with h4 | h4
            · exact two_ne h4
            · exact hy0 h4
          have ex : slope (toF x1, toF y1) (toF x1, toF y1) = 3 * (toF x1 * toF x1) * invF (2 * toF y1) := by unfold slope; rw [if_pos rfl]
          have ei : toF ((2 * y1 % prP) ^ (prP - 2) % prP) = invF (2 * toF y1) := by
            rw [toF_inv (lt_p _), toF_mulm]; rfl
          refine guard_step (decide_eq_true rfl) (bind_step (ref05IMul_val ip.1 ip.1) (bind_step (ref05ITimes_val (n := 3) (by omega) (L _)) (bind_step (ref05ITimes_val (n := 2) (by omega) ip.2) (bind_step (ref05IOver_val (L _) (L _) h2y) (bind_step (ref05IMul_val (L _) (L _)) (bind_step (ref05ISub_val (L _) ip.1) (bind_step (ref05ISub_val (L _) iq.1) (bind_step (ref05ISub_val ip.1 (L _)) (bind_step (ref05IMul_val (L _) (L _)) (bind_step (ref05ISub_val (L _) ip.2) ?_))))))))))
          congr 1
          refine Prod.ext ?_ (Prod.ext ?_ rfl)
          · refine val_of (lt_p _) ?_
            simp only [toF_subm, toF_mulm, ei, ex, x3F]
            rfl
          · refine val_of (lt_p _) ?_
            simp only [toF_subm, toF_mulm, ei, ex, x3F, y3F]
            rfl
        · have hne : ¬ ((x1, y1, false) : P3) = (x2, y2, false) := fun h => hs (by simpa using h)
          have hx : toF x1 ≠ toF x2 := fun hx => by
            obtain ⟨d, k1, k2, k3⟩ := add_data okp okq ho
            simp only at k1 k2
            have hd : d = 0 := by rw [hx] at k1; grind
            subst hd
            have : toF y2 = toF y1 := by rw [k2]; grind
            exact hs ⟨toF_inj p1 q1 hx, (toF_inj q2 p2 this).symm⟩
          have hdx : (x2 + (prP - x1 % prP) % prP) % prP % prP ≠ 0 := by
            rw [Nat.mod_mod]
            intro h
            have h3 : toF ((x2 + (prP - x1 % prP) % prP) % prP) = 0 := by rw [h]; rfl
            rw [toF_subm] at h3
            exact hx (by grind)
          have ex : slope (toF x1, toF y1) (toF x2, toF y2) = (toF y2 - toF y1) * invF (toF x2 - toF x1) := by unfold slope; rw [if_neg hx]
          have ei : toF (((x2 + (prP - x1 % prP) % prP) % prP) ^ (prP - 2) % prP) = invF (toF x2 - toF x1) := by
            rw [toF_inv (lt_p _), toF_subm]
          refine guard_else (decide_eq_false hne) (bind_step (ref05ISub_val iq.2 ip.2) (bind_step (ref05ISub_val iq.1 ip.1) (bind_step (ref05IOver_val (L _) (L _) hdx) (bind_step (ref05IMul_val (L _) (L _)) (bind_step (ref05ISub_val (L _) ip.1) (bind_step (ref05ISub_val (L _) iq.1) (bind_step (ref05ISub_val ip.1 (L _)) (bind_step (ref05IMul_val (L _) (L _)) (bind_step (ref05ISub_val (L _) ip.2) ?_)))))))))
          congr 1
          refine Prod.ext ?_ (Prod.ext ?_ rfl)
          · refine val_of (lt_p _) ?_
            simp only [toF_subm, toF_mulm, ei, ex, x3F]
          · refine val_of (lt_p _) ?_
            simp only [toF_subm, toF_mulm, ei, ex, x3F, y3F]

theorem ref05Add_val {p q : P3} (hp : In256 p) (hq : In256 q) : ref05Add p q = some (addV p q) := by
  rw [ref05Add_eq]
  unfold ref05AddB addV
  refine bind_step (ref05On_val hp) ?_
  by_cases h1 : OnN p
  · refine guard_else (by rw [decide_eq_true h1]; rfl) (bind_step (ref05On_val hq) ?_)
    by_cases h2 : OnN q
    · rw [if_pos ⟨h1, h2⟩]
      exact guard_else (by rw [decide_eq_true h2]; rfl) (bind_step (ref05IPlus_val h1 h2) rfl)
    · rw [if_neg (fun h => h2 h.2)]; exact guard_step (by rw [decide_eq_false h2]; rfl) rfl
  · rw [if_neg (fun h => h1 h.1)]; exact guard_step (by rw [decide_eq_false h1]; rfl) rfl

theorem ref05Double_val {p : P3} (hp : In256 p) : ref05Double p = some (dblV p) := by
  rw [ref05Double_eq]
  refine bind_step (ref05Add_val hp hp) ?_
  unfold addV dblV
  by_cases h : OnN p
  · rw [if_pos ⟨h, h⟩, if_pos h]
  · rw [if_neg (fun g => h g.1), if_neg h]

theorem ref05Neg_val {p : P3} (hp : In256 p) : ref05Neg p = some (negV p) := by
  rw [ref05Neg_eq]
  unfold ref05NegB negV
  refine bind_step (ref05On_val hp) ?_
  by_cases h : OnN p
  · rw [if_pos h]
    refine guard_else (by rw [decide_eq_true h]; rfl) ?_
    obtain ⟨x, y, b⟩ := p
    cases b with
    | true =>
      have e := ofPt_ptF h
      have e2 : pneg (ptF (x, y, true)) = ptF (x, y, true) := rfl
      rw [e2, e]
      exact bind_step (a := (x, y, true)) (by rw [ref05INeg_eq]; exact guard_step rfl rfl) rfl
    | false =>
      refine bind_step (ref05INeg_val hp.2) ?_
      rw [← neg_pt h]
  · rw [if_neg h]; exact guard_step (by rw [decide_eq_false h]; rfl) rfl

/-! ### The base point -/

def gN : P3 := (55066263022277343669578718895168534326250603453777594175500187360389116729240, 32670510020758816978083085130507043184471273380659243275938904335757337482424, false)
theorem curveG_val : curveG = some gN := by rw [curveG_eq]; kernel_rfl
theorem ref05G_val : ref05G = some gN := ref05G_eq.trans rfl
theorem gN_on : OnN gN := by decide
def gP : Pt := ptF gN
theorem gP_ok : PtOk gP := gN_on.ok

theorem addV_lt (p q : P3) : In256 (addV p q).1 := by
  unfold addV
  split
  · exact ofPt_lt _
  · exact ⟨by decide, by decide⟩
theorem dblV_lt (p : P3) : In256 (dblV p).1 := by
  unfold dblV
  split
  · exact ofPt_lt _
  · exact ⟨by decide, by decide⟩
theorem negV_lt (p : P3) : In256 (negV p).1 := by
  unfold negV
  split
  · exact ofPt_lt _
  · exact ⟨by decide, by decide⟩

theorem sameP {p : P3} (h : In256 p) : ((u256eq p.1 p.1) && ((u256eq p.2.1 p.2.1) && (p.2.2 == p.2.2))) = true := by
  rw [eqP_step (x1 := 0) (x2 := 0) (b1 := true) h h]; simp
theorem nsameP {p : P3} (h : In256 p) : (!((u256eq p.1 p.1) && ((u256eq p.2.1 p.2.1) && (p.2.2 == p.2.2)))) = false := by rw [sameP h]; rfl
theorem law05INum_val (e : Int) : law05INum e = some e := by rw [law05INum_eq]; rfl

theorem law05CurveAdds_true {p q : P3} (hp : In256 p) (hq : In256 q) : law05CurveAdds p q = some true := by
  rw [law05CurveAdds_eq]
  unfold law05CurveAddsB
  refine bind_step (curveAdd_val hp hq) (bind_step (ref05Add_val hp hq) (bind_step (curveDouble_val hp) (bind_step (ref05Double_val hp) (bind_step (curveNeg_val hp) (bind_step (ref05Neg_val hp) ?_)))))
  refine guard_else (nsameP (addV_lt _ _)) (bind_step (law05INum_val _) (guard_else (by simp) (guard_else (nsameP (dblV_lt _)) (bind_step (law05INum_val _) (guard_else (by simp) (guard_else (nsameP (negV_lt _)) (bind_step (law05INum_val _) (guard_else (by simp) ?_))))))))
  refine bind_step (curveOn_val hp) (bind_step (ref05On_val hp) (guard_step (by simp) (bind_step (curveOn_val hq) (bind_step (ref05On_val hq) (guard_step (by simp) (bind_step curveG_val (bind_step ref05G_val ?_)))))))
  rw [sameP gN_on.in256]
end Go.Sy

set_option linter.unusedVariables false
set_option linter.unusedSimpArgs false
namespace Go.Sy
open Go

/-! ### Sums of lists -/

theorem refOnLoop {l : List P3} (hn : l.length < 1152921504606846976) (hl : ∀ i, i < l.length → In256 (getP l i)) (b2 : P3) : ∀ (r i fuel : Nat), i + r = l.length → r < fuel → (∀ j, j < i → OnN (getP l j)) →
    ∃ q, iter (fun p : (List (Nat × Nat × Bool)) × Int × (Nat × Nat × Bool) => ref05SumL0R p.1 p.2.1 p.2.2) fuel (l, (i : Int), b2) = some q ∧
      ((q = .inl (0, 0, false) ∧ ∃ j, j < l.length ∧ ¬ OnN (getP l j)) ∨ (q = .inr (l, b2) ∧ ∀ j, j < l.length → OnN (getP l j)))
  | 0, i, fuel, hi, hf, h1 => by
    obtain ⟨fuel, rfl⟩ : ∃ n, fuel = n + 1 := ⟨fuel - 1, by omega⟩
    have : i = l.length := by omega
    subst this
    refine ⟨_, iter_end ?_, .inr ⟨rfl, h1⟩⟩
    show ref05SumL0R l (l.length : Int) b2 = _
    unfold ref05SumL0R
    exact guard_else (decide_eq_false (by omega)) rfl
  | r + 1, i, fuel, hi, hf, h1 => by
    obtain ⟨fuel, rfl⟩ : ∃ n, fuel = n + 1 := ⟨fuel - 1, by omega⟩
    have hil : i < l.length := by omega
    have e : Int.toNat (i : Int) = i := rfl
    by_cases hon : OnN (getP l i)
    · obtain ⟨q, g1, g2⟩ := refOnLoop hn hl b2 r (i + 1) fuel (by omega) (by omega) (fun j hj => by
        by_cases ej : j = i
        · subst ej; exact hon
        · exact h1 j (by omega))
      refine ⟨q, iter_more ?_ g1, g2⟩
      show ref05SumL0R l (i : Int) b2 = _
      unfold ref05SumL0R
      rw [e]
      refine guard_step (decide_eq_true (by omega)) (guard_step (by simp) (guard_step (blt_of hil) (bind_step (ref05On_val (hl i hil)) (guard_else ?_ ?_))))
      · rw [decide_eq_true hon]; rfl
      · rw [wI64z _ (by omega) (by omega)]; rfl
    · refine ⟨_, iter_end (r := .inl (0, 0, false)) ?_, .inl ⟨rfl, i, hil, hon⟩⟩
      show ref05SumL0R l (i : Int) b2 = _
      unfold ref05SumL0R
      rw [e]
      refine guard_step (decide_eq_true (by omega)) (guard_step (by simp) (guard_step (blt_of hil) (bind_step (ref05On_val (hl i hil)) (guard_step ?_ rfl))))
      rw [decide_eq_false hon]; rfl

theorem refSumLoop {l : List P3} (hn : l.length < 1152921504606846976) (hon : ∀ i, i < l.length → OnN (getP l i)) (b2 : P3) : ∀ (r i fuel : Nat), i + r = l.length → r < fuel → PtOk (sumP (l.take i)) →
    iter (fun p : (List (Nat × Nat × Bool)) × Int × (Nat × Nat × Bool) × (Nat × Nat × Bool) => ref05SumL1R p.1 p.2.1 p.2.2.1 p.2.2.2) fuel (l, (i : Int), b2, ofPt (sumP (l.take i))) = some (b2, ofPt (sumP l))
  | 0, i, fuel, hi, hf, h1 => by
    obtain ⟨fuel, rfl⟩ : ∃ n, fuel = n + 1 := ⟨fuel - 1, by omega⟩
    have : i = l.length := by omega
    subst this
    rw [List.take_length]
    refine iter_end ?_
    show ref05SumL1R l (l.length : Int) b2 (ofPt (sumP l)) = _
    unfold ref05SumL1R
    exact guard_else (decide_eq_false (by omega)) rfl
  | r + 1, i, fuel, hi, hf, h1 => by
    obtain ⟨fuel, rfl⟩ : ∃ n, fuel = n + 1 := ⟨fuel - 1, by omega⟩
    have hil : i < l.length := by omega
    have e : Int.toNat (i : Int) = i := rfl
    have e2 : sumP (l.take (i + 1)) = padd (sumP (l.take i)) (ptF (getP l i)) := by rw [takeP hil, sumP_snoc]
    refine iter_more ?_ (refSumLoop hn hon b2 r (i + 1) fuel (by omega) (by omega) (by rw [e2]; exact padd_ok h1 (hon i hil).ok))
    show ref05SumL1R l (i : Int) b2 (ofPt (sumP (l.take i))) = _
    unfold ref05SumL1R
    rw [e, e2]
    refine guard_step (decide_eq_true (by omega)) (guard_step (by simp) (guard_step (blt_of hil) (bind_step (ref05IPlus_val (OnN_ofPt h1) (hon i hil)) ?_)))
    rw [wI64z _ (by omega) (by omega), ptF_ofPt]; rfl

theorem ref05Sum_val {l : List P3} (hn : l.length < 1152921504606846976) (hl : ∀ i, i < l.length → In256 (getP l i)) : ref05Sum l = some (sumV l) := by
  have hbig := bigFuel_eq
  rw [ref05Sum_eq]
  unfold ref05SumB sumV
  obtain ⟨q, g1, g2⟩ := refOnLoop hn hl (0, 0, false) l.length 0 bigFuel (by omega) (by omega) (fun j hj => absurd hj (Nat.not_lt_zero j))
  refine bind_step ((ref05SumL0_eq _ _ _).trans g1) ?_
  rcases g2 with ⟨rfl, j, hj, hj0⟩ | ⟨rfl, h3⟩
  · rw [if_neg (fun h => hj0 (h j hj))]; rfl
  · rw [if_pos h3]
    exact sum_right (bind_step ref05IIdentity_val (bind_step ((ref05SumL1_eq _ _ _ _).trans (refSumLoop hn h3 (0, 0, false) l.length 0 bigFuel (by omega) (by omega) trivial)) rfl))

theorem sumV_lt (l : List P3) : In256 (sumV l).1 := by
  unfold sumV
  split
  · exact ofPt_lt _
  · exact ⟨by decide, by decide⟩

/-! ### The law of sums -/

def markP : P3 := (7, 0, true)

theorem in_list (l : List P3) : ((spliceL (List.replicate (l.length + 2) ((0, 0, false) : Nat × Nat × Bool)) 0 (List.take ((List.replicate (l.length + 2) ((0, 0, false) : Nat × Nat × Bool)).length) l)).set l.length (7, 0, true)).set (l.length + 1) (7, 0, true) = l ++ [markP, markP] := by
  have h1 : List.take ((List.replicate (l.length + 2) ((0, 0, false) : Nat × Nat × Bool)).length) l = l := List.take_of_length_le (by simp)
  have h2 : spliceL (List.replicate (l.length + 2) ((0, 0, false) : Nat × Nat × Bool)) 0 l = l ++ [(0, 0, false), (0, 0, false)] := by
    unfold spliceL
    simp
  rw [h1, h2]
  simp [markP]

theorem getP_append {l : List P3} {i : Nat} (h : i < l.length) (m : List P3) : getP (l ++ m) i = getP l i := by
  simp [getP, List.getD_eq_getElem?_getD, List.getElem?_append_left h]

theorem sumsLoop {l : List P3} {e f : Int} {a b : P3} (hn : l.length < 1152921504606846976) (hl : ∀ i, i < l.length → In256 (getP l i)) : ∀ (r i fuel : Nat), i + r = l.length → r < fuel →
    iter (fun p : (List (Nat × Nat × Bool)) × Int × Int × Int × (Nat × Nat × Bool) × (Nat × Nat × Bool) × (Nat × Nat × Bool) × (List (Nat × Nat × Bool)) => law05CurveSumsL0R p.1 p.2.1 p.2.2.1 p.2.2.2.1 p.2.2.2.2.1 p.2.2.2.2.2.1 p.2.2.2.2.2.2.1 p.2.2.2.2.2.2.2) fuel (l, e, f, (i : Int), markP, a, b, l ++ [markP, markP]) = some (.inr (l, e, f, markP, a, b, l ++ [markP, markP]))
  | 0, i, fuel, hi, hf => by
    obtain ⟨fuel, rfl⟩ : ∃ n, fuel = n + 1 := ⟨fuel - 1, by omega⟩
    refine iter_end ?_
    show law05CurveSumsL0R l e f (i : Int) markP a b (l ++ [markP, markP]) = _
    unfold law05CurveSumsL0R
    exact guard_else (decide_eq_false (by omega)) rfl
  | r + 1, i, fuel, hi, hf => by
    obtain ⟨fuel, rfl⟩ : ∃ n, fuel = n + 1 := ⟨fuel - 1, by omega⟩
    have hil : i < l.length := by omega
    have en : Int.toNat (i : Int) = i := rfl
    refine iter_more ?_ (sumsLoop hn hl r (i + 1) fuel (by omega) (by omega))
    show law05CurveSumsL0R l e f (i : Int) markP a b (l ++ [markP, markP]) = _
    unfold law05CurveSumsL0R
    rw [en, show (l ++ [markP, markP]).getD i ((0, 0, false) : Nat × Nat × Bool) = getP l i from getP_append hil _]
    have hlen : Nat.blt i (l ++ [markP, markP]).length = true := blt_of (by simp; omega)
    refine guard_step (decide_eq_true (by omega)) (guard_step (by simp) (guard_step hlen (guard_step hlen (guard_step (by simp) (guard_step (blt_of hil) (guard_else (nsameP (hl i hil)) ?_))))))
    rw [wI64z _ (by omega) (by omega)]; rfl

theorem law05CurveSums_true {l : List P3} (hn : l.length * 72 ≤ 140737488351232) (hl : ∀ i, i < l.length → In256 (getP l i)) : law05CurveSums l = some true := by
  have hbig := bigFuel_eq
  rw [law05CurveSums_eq]
  unfold law05CurveSumsB
  have w2 : IntKind.wrap .i64 (((l.length : Nat) : Int) + (2 : Int)) = ((l.length + 2 : Nat) : Int) := by rw [wI64z _ (by omega) (by omega)]; rfl
  have w1 : IntKind.wrap .i64 (((l.length : Nat) : Int) + (1 : Int)) = ((l.length + 1 : Nat) : Int) := by rw [wI64z _ (by omega) (by omega)]; rfl
  have t2 : Int.toNat ((l.length + 2 : Nat) : Int) = l.length + 2 := rfl
  have t1 : Int.toNat ((l.length + 1 : Nat) : Int) = l.length + 1 := rfl
  have t0 : Int.toNat ((l.length : Nat) : Int) = l.length := rfl
  rw [w2, w1, t2, t1, t0, in_list]
  have hs : (spliceL (List.replicate (l.length + 2) ((0, 0, false) : Nat × Nat × Bool)) 0 (List.take ((List.replicate (l.length + 2) ((0, 0, false) : Nat × Nat × Bool)).length) l)).length = l.length + 2 := by
    rw [List.take_of_length_le (by simp)]
    unfold spliceL
    simp
  have hd : List.take (l.length - 0) (List.drop 0 (l ++ [markP, markP])) = l := by simp
  have hlen : (l ++ [markP, markP]).length = l.length + 2 := by simp
  rw [hd]
  refine guard_step (by simp; omega) (guard_step (by simp) (guard_step ?_ (guard_step (by simp) (guard_step (blt_of (by rw [hs]; omega)) (guard_step (blt_of (by rw [hs]; omega)) (guard_step (by simp; omega) (guard_step (blt_of (by rw [List.length_set, hs]; omega)) (guard_step (blt_of (by rw [List.length_set, hs]; omega)) (guard_step (by simp) (guard_step ?_ (guard_step ?_ ?_)))))))))))
  · simp only [roomB, Bool.and_eq_true]
    exact ⟨Nat.ble_eq_true_of_le (by omega), Nat.ble_eq_true_of_le (by omega)⟩
  · exact Nat.ble_eq_true_of_le (by rw [hlen]; omega)
  · exact Nat.ble_eq_true_of_le (by rw [hlen]; omega)
  refine bind_step (curveSum_val (by omega) hl) (bind_step (ref05Sum_val (by omega) hl) (bind_step ((law05CurveSumsL0_eq _ _ _ _ _ _ _ _).trans (sumsLoop (by omega) hl l.length 0 bigFuel (by omega) (by omega))) (sum_right ?_)))
  have m0 : (l ++ [markP, markP]).getD l.length ((0, 0, false) : Nat × Nat × Bool) = markP := by simp [List.getD_eq_getElem?_getD]
  have m1 : (l ++ [markP, markP]).getD (l.length + 1) ((0, 0, false) : Nat × Nat × Bool) = markP := by simp [List.getD_eq_getElem?_getD]
  have hm : In256 markP := ⟨by decide, by decide⟩
  refine guard_step (sameP (sumV_lt l)) (bind_step (law05INum_val _) (guard_step (by simp) (guard_step (by simp) (guard_step (blt_of (by show Int.toNat ((l.length : Nat) : Int) < _; rw [t0, hlen]; omega)) (guard_step (blt_of (by show Int.toNat ((l.length : Nat) : Int) < _; rw [t0, hlen]; omega)) ?_)))))
  show (bif ((u256eq ((l ++ [markP, markP]).getD (Int.toNat ((l.length : Nat) : Int)) ((0, 0, false) : Nat × Nat × Bool)).1 markP.1) && ((u256eq ((l ++ [markP, markP]).getD (Int.toNat ((l.length : Nat) : Int)) ((0, 0, false) : Nat × Nat × Bool)).2.1 markP.2.1) && (((l ++ [markP, markP]).getD (Int.toNat ((l.length : Nat) : Int)) ((0, 0, false) : Nat × Nat × Bool)).2.2 == markP.2.2))) then _ else _) = _
  rw [t0, m0]
  refine guard_step (sameP hm) ?_
  show (bif decide (0 ≤ (IntKind.wrap .i64 (((l.length : Nat) : Int) + (1 : Int)))) then _ else _) = _
  rw [w1]
  refine guard_step (by simp; omega) (guard_step (blt_of (by rw [t1, hlen]; omega)) (guard_step (blt_of (by rw [t1, hlen]; omega)) ?_))
  rw [t1]
  show some ((u256eq ((l ++ [markP, markP]).getD (l.length + 1) ((0, 0, false) : Nat × Nat × Bool)).1 markP.1) && ((u256eq ((l ++ [markP, markP]).getD (l.length + 1) ((0, 0, false) : Nat × Nat × Bool)).2.1 markP.2.1) && (((l ++ [markP, markP]).getD (l.length + 1) ((0, 0, false) : Nat × Nat × Bool)).2.2 == markP.2.2))) = _
  rw [m1]
  exact congrArg some (sameP hm)

/-! ### The points of an x -/

def liftV (x : Nat) (odd : Bool) : P3 × Int :=
  if x < prP then (if (rootV (rhsN x)).2 = 0 then ((x, if odd then (0 + (prP - (rootV (rhsN x)).1 % prP) % prP) % prP else (rootV (rhsN x)).1, false), 0) else ((0, 0, false), 50)) else ((0, 0, false), 50)

theorem rootV_lt (x : Nat) : (rootV x).1 < prP := by
  unfold rootV
  split
  · split <;> exact Nat.mod_lt _ p_pos
  · exact p_pos

theorem rhsN_lt (x : Nat) : rhsN x < prP := lt_p _

theorem curveLift_val {x : Nat} (hx : x < M256) (odd : Bool) : curveLift x odd = some (liftV x odd) := by
  rw [curveLift_eq]
  unfold curveLiftB liftV
  have hroot := fieldRoot_val (lt256 (rhsN_lt x))
  have hrl := rootV_lt (rhsN x)
  generalize rootV (rhsN x) = rv at *
  refine bind_step curveIPrime_val (bind_step (u256Cmp_val hx prP_lt) ?_)
  rw [cmp_nneg]
  by_cases h : x < prP
  · rw [if_pos h]
    refine guard_else (by simp [h]) (bind_step (curveIRight_val hx) (bind_step hroot ?_))
    by_cases h2 : rv.2 = 0
    · rw [if_pos h2]
      refine guard_else (by simp [h2]) ?_
      cases odd with
      | true => rw [if_pos (rfl : true = true)]; exact guard_step rfl (bind_step curveIZero_val (bind_step (curveIMinus_val (by decide) (lt256 hrl)) rfl))
      | false => rw [if_neg (by decide : ¬ (false = true))]; exact guard_else rfl rfl
    · rw [if_neg h2]; exact guard_step (by simp [h2]) rfl
  · rw [if_neg h]; exact guard_step (by simp [h]) rfl

theorem ref05Lift_val {x : Nat} (hx : x < M256) (odd : Bool) : ref05Lift x odd = some (liftV x odd) := by
  rw [ref05Lift_eq]
  unfold ref05LiftB liftV
  have hroot := ref04Root_val (lt256 (rhsN_lt x))
  have hrl := rootV_lt (rhsN x)
  generalize rootV (rhsN x) = rv at *
  refine bind_step (ref05ILow_val hx) ?_
  by_cases h : x < prP
  · rw [if_pos h]
    refine guard_else (by simp [h]) (bind_step (ref05ICubic_val hx) (bind_step hroot ?_))
    by_cases h2 : rv.2 = 0
    · rw [if_pos h2]
      refine guard_else (by simp [h2]) ?_
      cases odd with
      | true => rw [if_pos (rfl : true = true)]; exact guard_step rfl (bind_step (ref05INeg_val (lt256 hrl)) rfl)
      | false => rw [if_neg (by decide : ¬ (false = true))]; exact guard_else rfl rfl
    · rw [if_neg h2]; exact guard_step (by simp [h2]) rfl
  · rw [if_neg h]; exact guard_step (by simp [h]) rfl

theorem liftV_lt {x : Nat} (hx : x < M256) (odd : Bool) : In256 (liftV x odd).1 := by
  unfold liftV
  split
  · split
    · refine ⟨hx, ?_⟩
      show (if odd then (0 + (prP - (rootV (rhsN x)).1 % prP) % prP) % prP else (rootV (rhsN x)).1) < M256
      split
      · exact mod_p_lt _
      · exact lt256 (rootV_lt _)
    · exact ⟨by decide, by decide⟩
  · exact ⟨by decide, by decide⟩

theorem law05CurveLifts_true {x : Nat} (hx : x < M256) : law05CurveLifts x = some true := by
  rw [law05CurveLifts_eq]
  unfold law05CurveLiftsB
  refine bind_step (curveLift_val hx _) (bind_step (ref05Lift_val hx _) (bind_step (curveLift_val hx _) (bind_step (ref05Lift_val hx _) ?_)))
  refine guard_step (sameP (liftV_lt hx _)) (bind_step (law05INum_val _) (guard_step (by simp) (guard_step (sameP (liftV_lt hx _)) (bind_step (law05INum_val _) ?_))))
  simp

/-! ### The group -/

def g2N : P3 := (89565891926547004231252920425935692360644145829622209833684329913297188986597, 12158399299693830322967808612713398636155367887041628176798871954788371653930, false)

theorem dblG : padd gP gP = ptF g2N := by
  have e : gP = some (toF gN.1, toF gN.2.1) := rfl
  have hok : PtOk (some (toF gN.1, toF gN.2.1)) := gP_ok
  rw [e, padd_some (not_self_opp hok)]
  have hs : slope (toF gN.1, toF gN.2.1) (toF gN.1, toF gN.2.1) = toF 91914383230618135761690975197207778399550061809281766160147273830617914855857 := by
    have hy : (2 : FP) * toF gN.2.1 ≠ 0 := by decide
    refine f_cancel hy ?_
    have h1 : slope (toF gN.1, toF gN.2.1) (toF gN.1, toF gN.2.1) = 3 * (toF gN.1 * toF gN.1) * invF (2 * toF gN.2.1) := by unfold slope; rw [if_pos rfl]
    have h2 := f_mul_inv hy
    rw [h1]
    have h3 : (2 : FP) * toF gN.2.1 * toF 91914383230618135761690975197207778399550061809281766160147273830617914855857 = 3 * (toF gN.1 * toF gN.1) := by decide
    rw [h3]
    generalize invF (2 * toF gN.2.1) = i at *
    generalize toF gN.1 = a at *
    generalize toF gN.2.1 = b at *
    clear hy h1 h3 hok e
    grind
  rw [hs]
  decide

theorem dblV_g : dblV gN = (g2N, 0) := by
  unfold dblV
  rw [if_pos gN_on, show padd (ptF gN) (ptF gN) = ptF g2N from dblG, ofPt_ptF (by decide)]

theorem law05IZero_val : law05IZero = some (0, 0, true) := law05IZero_eq.trans rfl
theorem zero_on : OnN (0, 0, true) := .inl ⟨rfl, rfl, rfl⟩

theorem law05IBase_val : law05IBase = some true := by
  rw [law05IBase_eq]
  unfold law05IBaseB
  have i0 : In256 ((0, 0, false) : P3) := ⟨by decide, by decide⟩
  have i1 : In256 ((0, 0, true) : P3) := ⟨by decide, by decide⟩
  have hg2 : OnN g2N := by decide
  refine bind_step curveG_val (bind_step ((curveDouble_val gN_on.in256).trans (congrArg some dblV_g)) (bind_step (curveOn_val gN_on.in256) (guard_step (decide_eq_true gN_on) (bind_step (curveOn_val hg2.in256) (guard_step (decide_eq_true hg2) (bind_step (law05INum_val _) (guard_step rfl ?_)))))))
  refine guard_step (u256eq_self _) (guard_step ?_ (bind_step (curveOn_val i0) (guard_step ?_ (bind_step law05IZero_val (bind_step (curveOn_val i1) ?_)))))
  · rw [eqP_step (x1 := 0) (x2 := 0) (b1 := true) hg2.in256 gN_on.in256]
    decide
  · rw [decide_eq_false (by decide)]; rfl
  · rw [decide_eq_true zero_on]

def plusV (p q : P3) : P3 × Bool := if OnN p ∧ OnN q then (ofPt (padd (ptF p) (ptF q)), true) else ((0, 0, false), false)
theorem law05IPlus_val {p q : P3} (hp : In256 p) (hq : In256 q) : law05IPlus p q = some (plusV p q) := by
  rw [law05IPlus_eq]
  unfold law05IPlusB plusV
  refine bind_step (curveAdd_val hp hq) (bind_step (law05INum_val _) ?_)
  unfold addV
  by_cases h : OnN p ∧ OnN q
  · rw [if_pos h, if_pos h]
    refine guard_step rfl (bind_step (curveOn_val (ofPt_lt _)) ?_)
    rw [decide_eq_true (OnN_ofPt (padd_ok h.1.ok h.2.ok))]
  · rw [if_neg h, if_neg h]; exact guard_else rfl rfl
theorem plusV_on {p q : P3} (hp : OnN p) (hq : OnN q) : plusV p q = (ofPt (padd (ptF p) (ptF q)), true) := by unfold plusV; rw [if_pos ⟨hp, hq⟩]

theorem law05CurveGroup_true {p q r : P3} (ip : In256 p) (iq : In256 q) (ir : In256 r) : law05CurveGroup p q r = some true := by
  rw [law05CurveGroup_eq]
  unfold law05CurveGroupB
  refine bind_step law05IBase_val (guard_else rfl (bind_step (curveOn_val ip) ?_))
  by_cases hp : OnN p
  · refine guard_else (by simp [hp]) (bind_step (curveOn_val iq) ?_)
    by_cases hq : OnN q
    · refine guard_else (by simp [hq]) (bind_step (curveOn_val ir) ?_)
      by_cases hr : OnN r
      · have okp := hp.ok
        have okq := hq.ok
        have okr := hr.ok
        have okpq := padd_ok okp okq
        have okqr := padd_ok okq okr
        have L := ofPt_lt
        have plus : ∀ {P Q : Pt}, PtOk P → PtOk Q → law05IPlus (ofPt P) (ofPt Q) = some (ofPt (padd P Q), true) := fun hP hQ => by
          rw [law05IPlus_val (L _) (L _), plusV_on (OnN_ofPt hP) (OnN_ofPt hQ), ptF_ofPt, ptF_ofPt]
        have ep := ofPt_ptF hp
        have eq := ofPt_ptF hq
        have er := ofPt_ptF hr
        generalize ptF p = P at *
        generalize ptF q = Q at *
        generalize ptF r = R at *
        subst ep eq er
        have hneg : curveNeg (ofPt P) = some (ofPt (pneg P), 0) := by
          rw [curveNeg_val (L _)]; unfold negV; rw [if_pos hp, ptF_ofPt]
        have hdbl : curveDouble (ofPt P) = some (ofPt (padd P P), 0) := by
          rw [curveDouble_val (L _)]; unfold dblV; rw [if_pos hp, ptF_ofPt]
        have hsum : curveSum [ofPt P, ofPt Q, ofPt R] = some (ofPt (padd (padd P Q) R), 0) := by
          rw [curveSum_val (by simp) fun i hi => by
            match i, hi with
            | 0, _ => exact L _
            | 1, _ => exact L _
            | 2, _ => exact L _]
          unfold sumV
          rw [if_pos fun j hj => by
            match j, hj with
            | 0, _ => exact hp
            | 1, _ => exact hq
            | 2, _ => exact hr]
          simp only [sumP, List.foldl_cons, List.foldl_nil, ptF_ofPt, none_padd]
        have hz : ((0, 0, true) : P3) = ofPt none := rfl
        have hzero : law05IPlus (0, 0, true) (ofPt P) = some (ofPt P, true) := plus (P := none) trivial okp
        refine guard_else (by simp [hr]) (bind_step (plus okp okq) (bind_step (plus okq okp) (bind_step (plus okpq okr) (bind_step (plus okq okr) (bind_step (plus okp okqr) (guard_else rfl (guard_else rfl (guard_else rfl (guard_else rfl (guard_else rfl (guard_else ?_ (guard_else ?_ ?_))))))))))))
        · rw [padd_comm okq okp]; exact nsameP (L _)
        · rw [padd_assoc okp okq okr]; exact nsameP (L _)
        refine bind_step hneg (bind_step (plus okp (pneg_ok okp)) (bind_step law05IZero_val (bind_step hzero (bind_step hsum (bind_step hdbl (bind_step (plus okp okp) (bind_step (law05INum_val _) (guard_else rfl (bind_step (law05INum_val _) (guard_else rfl (bind_step (law05INum_val _) (guard_else rfl (guard_else rfl (guard_else rfl (guard_else rfl (bind_step law05IZero_val ?_))))))))))))))))
        rw [padd_neg, hz]
        refine guard_step (sameP (L _)) (guard_step (sameP (L _)) (guard_step (sameP (L _)) ?_))
        exact congrArg some (sameP (L _))
      · exact guard_step (by simp [hr]) rfl
    · exact guard_step (by simp [hq]) rfl
  · exact guard_step (by simp [hp]) rfl

theorem all_getP {l : List P3} (h : (l.all fun p => Nat.blt p.1 M256 && Nat.blt p.2.1 M256) = true) (i : Nat) (hi : i < l.length) : In256 (getP l i) := by
  have hm : getP l i ∈ l := by
    simp only [getP, List.getD_eq_getElem?_getD, List.getElem?_eq_getElem hi]
    exact List.getElem_mem hi
  have := List.all_eq_true.1 h _ hm
  simp only [Bool.and_eq_true] at this
  exact ⟨by simpa using this.1, by simpa using this.2⟩
end Go.Sy
