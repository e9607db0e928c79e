/- The curve's points: their sum, its laws. -/
import Derived.Test.YtfappeeggccicaaGreatDoorSyGa
set_option linter.unusedVariables false
set_option linter.unusedSimpArgs false
namespace Go.Sy
open Go
abbrev Pt := Option (FP × FP)
def PtOk : Pt → Prop
 | none => True
 | some p => p.2 * p.2 = p.1 * p.1 * p.1 + toF 7
def slope (p q : FP × FP) : FP := if p.1 = q.1 then 3 * (p.1 * p.1) * invF (2 * p.2) else (q.2 - p.2) * invF (q.1 - p.1)
def x3F (m x1 x2 : FP) : FP := m * m - x1 - x2
def y3F (m x1 y1 x3 : FP) : FP := m * (x1 - x3) - y1
def padd : Pt → Pt → Pt
 | none, q => q
 | some p, none => some p
 | some p, some q => if p.1 = q.1 ∧ q.2 = -p.2 then none else some (x3F (slope p q) p.1 q.1, y3F (slope p q) p.1 p.2 (x3F (slope p q) p.1 q.1))
theorem f_cancel {a b c : FP} (h : a ≠ 0) (e : a * b = a * c) : b = c := by
 have h1 : a * (b - c) = 0 := by grind
 rcases f_eq_zero h1 with h2 | h2
 ·exact absurd h2 h
 ·grind
theorem two_ne : (2 : FP) ≠ 0 := by decide
def thirdP : Nat := (qP - 1) / 3
theorem seven_pow : Nat.beq (powM qP 256 (qP - 7) thirdP) 1 = false := by kernel_rfl
theorem no2 (x : FP) : x * x * x + toF 7 ≠ 0 := by
 intro h
 have h1 : (x.val * x.val % qP * x.val % qP + 7 % qP) % qP = 0 := congrArg Fin.val h
 have h2 : x.val ^ 3 % qP = qP - 7 := by
  have e : x.val ^ 3 = x.val * x.val * x.val := by rw [Nat.pow_succ, Nat.pow_succ, Nat.pow_one]
  rw [Nat.mod_mul_mod, ← e] at h1
  have h7 : (7 : Nat) % qP = 7 := by decide
  rw [h7] at h1
  have hlt : x.val ^ 3 % qP < qP := Nat.mod_lt _ qP_pos
  generalize x.val ^ 3 % qP = w at *
  have hq : (7 : Nat) < qP := by decide
  rcases Nat.lt_or_ge (w + 7) qP with h3 | h3
  ·rw [Nat.mod_eq_of_lt h3] at h1; omega
  ·rw [Nat.mod_eq_sub_mod h3, Nat.mod_eq_of_lt (by omega)] at h1; omega
 have hx : ¬ qP ∣ x.val := fun hd => by
  have h3 : qP ∣ x.val ^ 3 := Nat.dvd_trans hd ⟨x.val ^ 2, by rw [Nat.pow_succ, Nat.mul_comm]⟩
  rw [Nat.mod_eq_zero_of_dvd h3] at h2
  have hq : (7 : Nat) < qP := by decide
  omega
 have h4 := qP_prime.fermat hx
 have h5 : qP - 1 = 3 * thirdP := by decide
 rw [h5, Nat.pow_mul, Nat.pow_mod, h2] at h4
 have h6 := powM_eq qP 256 (qP - 7) thirdP (by decide)
 rw [← h6] at h4
 have := seven_pow
 rw [h4] at this
 cases this
theorem y_ne {x y : FP} (h : y * y = x * x * x + toF 7) : y ≠ 0 := by
 intro e
 rw [e, f_zero_mul] at h
 exact no2 x h.symm
theorem add_data {p q : FP × FP} (h1 : p.2 * p.2 = p.1 * p.1 * p.1 + toF 7) (h2 : q.2 * q.2 = q.1 * q.1 * q.1 + toF 7) (hn : ¬ (p.1 = q.1 ∧ q.2 = -p.2)) :
  ∃ d : FP, q.1 = p.1 + d ∧ q.2 = p.2 + slope p q * d ∧ 2 * p.2 * slope p q + slope p q * slope p q * d = 3 * (p.1 * p.1) + 3 * p.1 * d + d * d := by
 obtain ⟨x1, y1⟩ := p
 obtain ⟨x2, y2⟩ := q
 simp only at *
 unfold slope
 simp only
 by_cases hx : x1 = x2
 ·subst hx
  have hy : y2 = y1 := by
   have h3 : (y2 - y1) * (y2 + y1) = 0 := by grind
   rcases f_eq_zero h3 with h4 | h4
   ·grind
   ·exact absurd ⟨rfl, by grind⟩ hn
  subst hy
  have hy0 : (2 : FP) * y2 ≠ 0 := fun h => by
   rcases f_eq_zero h with h4 | h4
   ·exact two_ne h4
   ·exact y_ne h1 h4
  have hi := f_mul_inv hy0
  refine ⟨0, by grind, by grind, ?_⟩
  rw [if_pos rfl]
  generalize invF (2 * y2) = i at *
  grind
 ·have hd : x2 - x1 ≠ 0 := fun h => hx (by grind)
  have hi := f_mul_inv hd
  rw [if_neg hx]
  generalize invF (x2 - x1) = i at *
  refine ⟨x2 - x1, by grind, by grind, ?_⟩
  refine f_cancel hd ?_
  grind
end Go.Sy
set_option linter.unusedVariables false
set_option linter.unusedSimpArgs false
namespace Go.Sy
open Go
def compF (P Q : FP × FP × FP) : FP × FP × FP :=
 ((P.1 * Q.2.1 + Q.1 * P.2.1) * (P.2.1 * Q.2.1 - 21 * (P.2.2 * Q.2.2)) - 21 * ((P.2.1 * Q.2.2 + Q.2.1 * P.2.2) * (P.1 * Q.2.2 + Q.1 * P.2.2)),
  (P.2.1 * Q.2.1 + 21 * (P.2.2 * Q.2.2)) * (P.2.1 * Q.2.1 - 21 * (P.2.2 * Q.2.2)) + 63 * (P.1 * Q.1 * (P.1 * Q.2.2 + Q.1 * P.2.2)),
  (P.2.1 * Q.2.2 + Q.2.1 * P.2.2) * (P.2.1 * Q.2.1 + 21 * (P.2.2 * Q.2.2)) + 3 * (P.1 * Q.1 * (P.1 * Q.2.1 + Q.1 * P.2.1)))
theorem nm21_eq : toF nm21 = -21 := by decide
theorem n21_eq : toF 21 = 21 := by decide
theorem n63_eq : toF 63 = 63 := by decide
theorem n3_eq : toF 3 = 3 := by decide
theorem n7_eq : toF 7 = 7 := by decide
theorem comp_eq (P Q : FP × FP × FP) : comp rgF P Q = compF P Q := by
 simp only [comp, rgF, compF, nm21_eq, n21_eq, n63_eq, n3_eq]
 refine Prod.ext ?_ (Prod.ext ?_ ?_) <;> simp only <;> grind
theorem line_x {x y m d : FP} (h : y * y = x * x * x + toF 7) (hR : 2 * y * m + m * m * d = 3 * (x * x) + 3 * x * d + d * d) :
  (compF (x, y, 1) (x + d, y + m * d, 1)).1 = x3F m x (x + d) * (compF (x, y, 1) (x + d, y + m * d, 1)).2.2 := by
 rw [n7_eq] at h
 simp only [compF, x3F]
 grind
theorem line_y {x y m d : FP} (h : y * y = x * x * x + toF 7) (hR : 2 * y * m + m * m * d = 3 * (x * x) + 3 * x * d + d * d) :
  (compF (x, y, 1) (x + d, y + m * d, 1)).2.1 = y3F m x y (x3F m x (x + d)) * (compF (x, y, 1) (x + d, y + m * d, 1)).2.2 := by
 rw [n7_eq] at h
 simp only [compF, x3F, y3F]
 grind
theorem line_on {x y m d : FP} (h : y * y = x * x * x + toF 7) (hR : 2 * y * m + m * m * d = 3 * (x * x) + 3 * x * d + d * d) :
  y3F m x y (x3F m x (x + d)) * y3F m x y (x3F m x (x + d)) = x3F m x (x + d) * x3F m x (x + d) * x3F m x (x + d) + toF 7 := by
 rw [n7_eq] at h ⊢
 simp only [x3F, y3F]
 grind
theorem line_z {x y m d : FP} (h : y * y = x * x * x + toF 7) (hR : 2 * y * m + m * m * d = 3 * (x * x) + 3 * x * d + d * d) :
  (compF (x, y, 1) (x + d, -(y + m * d), 1)).2.2 = d * d * d * y3F m x y (x3F m x (x + d)) := by
 rw [n7_eq] at h
 simp only [compF, x3F, y3F]
 grind
theorem padd_some {p q : FP × FP} (hn : ¬ (p.1 = q.1 ∧ q.2 = -p.2)) : padd (some p) (some q) = some (x3F (slope p q) p.1 q.1, y3F (slope p q) p.1 p.2 (x3F (slope p q) p.1 q.1)) := by
 simp only [padd]; rw [if_neg hn]
theorem padd_opp {p q : FP × FP} (hn : p.1 = q.1 ∧ q.2 = -p.2) : padd (some p) (some q) = none := by
 simp only [padd]; rw [if_pos hn]
theorem padd_none (P : Pt) : padd P none = P := by cases P <;> rfl
theorem padd_ok {P Q : Pt} (hP : PtOk P) (hQ : PtOk Q) : PtOk (padd P Q) := by
 cases P with
 | none => exact hQ
 | some p =>
  cases Q with
  | none => exact hP
  | some q =>
   by_cases hn : p.1 = q.1 ∧ q.2 = -p.2
   ·rw [padd_opp hn]; trivial
   ·rw [padd_some hn]
    obtain ⟨d, h1, h2, h3⟩ := add_data hP hQ hn
    have := line_on hP h3
    simp only [PtOk]
    rw [h1]
    exact this
def rep : Pt → FP × FP × FP
 | none => (0, 1, 0)
 | some p => (p.1, p.2, 1)
def sc (c : FP) (A : FP × FP × FP) : FP × FP × FP := (c * A.1, c * A.2.1, c * A.2.2)
theorem comp_scl (c : FP) (A B : FP × FP × FP) : compF (sc c A) B = sc (c * c) (compF A B) := by
 simp only [compF, sc]
 refine Prod.ext ?_ (Prod.ext ?_ ?_) <;> simp only <;> grind
theorem comp_scr (c : FP) (A B : FP × FP × FP) : compF A (sc c B) = sc (c * c) (compF A B) := by
 simp only [compF, sc]
 refine Prod.ext ?_ (Prod.ext ?_ ?_) <;> simp only <;> grind
theorem f_mul_ne {a b : FP} (ha : a ≠ 0) (hb : b ≠ 0) : a * b ≠ 0 := fun h => by
 rcases f_eq_zero h with h | h
 ·exact ha h
 ·exact hb h
theorem eight_ne : (8 : FP) ≠ 0 := by decide
theorem one_ne : (1 : FP) ≠ 0 := by decide
theorem opp_y {x y : FP} (h : y * y = x * x * x + toF 7) : (compF (x, y, 1) (x, -y, 1)).2.1 ≠ 0 := by
 have hy := y_ne h
 have hn : ¬ ((x, y).1 = (x, y).1 ∧ (x, y).2 = -(x, y).2) := fun hh => by
  have : (2 : FP) * y = 0 := by have := hh.2; simp only at this; grind
  rcases f_eq_zero this with h | h
  ·exact two_ne h
  ·exact hy h
 obtain ⟨d, h1, h2, h3⟩ := add_data (p := (x, y)) (q := (x, y)) h h hn
 have hd : d = 0 := by simp only at h1; grind
 subst hd
 have h4 := line_y h h3
 have h5 := line_on h h3
 have e1 : x + 0 = x := f_add_zero x
 have e2 : y + slope (x, y) (x, y) * 0 = y := by rw [f_mul_zero, f_add_zero]
 simp only [e1, e2] at h4 h5
 have hz : (compF (x, y, 1) (x, y, 1)).2.2 = 8 * (y * (y * y)) := by
  rw [n7_eq] at h
  simp only [compF]; grind
 have h6 : (compF (x, y, 1) (x, -y, 1)).2.1 = (compF (x, y, 1) (x, y, 1)).2.1 := by
  simp only [compF]; grind
 rw [h6, h4, hz]
 exact f_mul_ne (y_ne h5) (f_mul_ne eight_ne (f_mul_ne hy (f_mul_ne hy hy)))
theorem rep_add {P Q : Pt} (hP : PtOk P) (hQ : PtOk Q) : ∃ c : FP, c ≠ 0 ∧ compF (rep P) (rep Q) = sc c (rep (padd P Q)) := by
 cases P with
 | none =>
  cases Q with
  | none => exact ⟨1, one_ne, by decide⟩
  | some q => exact ⟨q.2, y_ne hQ, by simp only [rep, padd, compF, sc]; refine Prod.ext ?_ (Prod.ext ?_ ?_) <;> simp only <;> grind⟩
 | some p =>
  cases Q with
  | none => exact ⟨p.2, y_ne hP, by simp only [rep, padd, compF, sc]; refine Prod.ext ?_ (Prod.ext ?_ ?_) <;> simp only <;> grind⟩
  | some q =>
   obtain ⟨x1, y1⟩ := p
   obtain ⟨x2, y2⟩ := q
   by_cases hn : x1 = x2 ∧ y2 = -y1
   ·rw [padd_opp hn]
    obtain ⟨e1, e2⟩ := hn
    subst e1
    subst e2
    refine ⟨_, opp_y hP, ?_⟩
    simp only [rep, compF, sc]
    refine Prod.ext ?_ (Prod.ext ?_ ?_) <;> simp only <;> grind
   ·rw [padd_some hn]
    obtain ⟨d, h1, h2, h3⟩ := add_data (p := (x1, y1)) (q := (x2, y2)) hP hQ hn
    simp only at h1 h2 h3
    have hx := line_x hP h3
    have hy := line_y hP h3
    rw [← h1, ← h2] at hx hy
    refine ⟨(compF (x1, y1, 1) (x2, y2, 1)).2.2, ?_, ?_⟩
    ·by_cases hd : d = 0
     ·subst hd
      have e1 : x2 = x1 := by grind
      have e2 : y2 = y1 := by grind
      subst e1
      subst e2
      have hz : (compF (x2, y2, 1) (x2, y2, 1)).2.2 = 8 * (y2 * (y2 * y2)) := by
       simp only [compF, PtOk] at hP ⊢
       rw [n7_eq] at hP
       grind
      have hy0 := y_ne hP
      rw [hz]
      exact f_mul_ne eight_ne (f_mul_ne hy0 (f_mul_ne hy0 hy0))
     ·have hQ' : (-y2) * (-y2) = x2 * x2 * x2 + toF 7 := by simp only [PtOk] at hQ; grind
      have hn' : ¬ ((x1, y1).1 = (x2, -y2).1 ∧ (x2, -y2).2 = -(x1, y1).2) := fun hh => hd (by have := hh.1; simp only at this; grind)
      obtain ⟨d', k1, k2, k3⟩ := add_data (p := (x1, y1)) (q := (x2, -y2)) hP hQ' hn'
      simp only at k1 k2 k3
      have hz := line_z hP k3
      have hon := line_on hP k3
      rw [← k2, ← k1] at hz
      have e : -(-y2) = y2 := by grind
      rw [e] at hz
      rw [hz]
      have hd' : d' ≠ 0 := fun e => hd (by grind)
      rw [← k1] at hon
      exact f_mul_ne (f_mul_ne (f_mul_ne hd' hd') hd') (y_ne hon)
    ·simp only [rep, sc]
     refine Prod.ext ?_ (Prod.ext ?_ ?_)
     ·rw [hx, f_mul_comm]
     ·rw [hy, f_mul_comm]
     ·rw [f_mul_one]
theorem cross_rep {P Q : Pt} {a b : FP} (ha : a ≠ 0) (hb : b ≠ 0) (h : Cross (sc a (rep P)) (sc b (rep Q))) : P = Q := by
 have hab := f_mul_ne ha hb
 obtain ⟨h1, h2, h3⟩ := h
 cases P with
 | none =>
  cases Q with
  | none => rfl
  | some q =>
   simp only [sc, rep] at h1 h2 h3
   exact absurd (show a * b = 0 by grind) hab
 | some p =>
  cases Q with
  | none =>
   simp only [sc, rep] at h1 h2 h3
   exact absurd (show a * b = 0 by grind) hab
  | some q =>
   simp only [sc, rep] at h1 h2 h3
   have e1 : p.1 = q.1 := f_cancel hab (by grind)
   have e2 : p.2 = q.2 := f_cancel hab (by grind)
   rw [Prod.ext e1 e2]
theorem sc_sc (a b : FP) (A : FP × FP × FP) : sc a (sc b A) = sc (a * b) A := by
 simp only [sc, f_mul_assoc]
theorem padd_assoc {P Q R : Pt} (hP : PtOk P) (hQ : PtOk Q) (hR : PtOk R) : padd (padd P Q) R = padd P (padd Q R) := by
 cases P with
 | none => rfl
 | some p =>
  cases Q with
  | none => rfl
  | some q =>
   cases R with
   | none => rw [padd_none, padd_none]
   | some r =>
    have key := assoc_cross (x1 := p.1) (y1 := p.2) (x2 := q.1) (y2 := q.2) (x3 := r.1) (y3 := r.2) hP hQ hR
    simp only [comp_eq] at key
    obtain ⟨a, ha, h1⟩ := rep_add hP hQ
    obtain ⟨b, hb, h2⟩ := rep_add (padd_ok hP hQ) hR
    obtain ⟨c, hc, h3⟩ := rep_add hQ hR
    obtain ⟨e, he, h4⟩ := rep_add hP (padd_ok hQ hR)
    have k1 : compF (compF (p.1, p.2, 1) (q.1, q.2, 1)) (r.1, r.2, 1) = sc (a * a * b) (rep (padd (padd (some p) (some q)) (some r))) := by
     show compF (compF (rep (some p)) (rep (some q))) (rep (some r)) = _
     rw [h1, comp_scl, h2, sc_sc]
    have k2 : compF (p.1, p.2, 1) (compF (q.1, q.2, 1) (r.1, r.2, 1)) = sc (c * c * e) (rep (padd (some p) (padd (some q) (some r)))) := by
     show compF (rep (some p)) (compF (rep (some q)) (rep (some r))) = _
     rw [h3, comp_scr, h4, sc_sc]
    rw [k1, k2] at key
    exact cross_rep (f_mul_ne (f_mul_ne ha ha) hb) (f_mul_ne (f_mul_ne hc hc) he) key
def smul : Nat → Pt → Pt
 | 0, _ => none
 | k + 1, P => padd (smul k P) P
theorem smul_ok {P : Pt} (hP : PtOk P) : ∀ k, PtOk (smul k P)
 | 0 => trivial
 | k + 1 => padd_ok (smul_ok hP k) hP
theorem smul_add {P : Pt} (hP : PtOk P) (a : Nat) : ∀ b, smul (a + b) P = padd (smul a P) (smul b P)
 | 0 => by rw [show smul 0 P = none from rfl, padd_none]; rfl
 | b + 1 => by
  show padd (smul (a + b) P) P = padd (smul a P) (padd (smul b P) P)
  rw [smul_add hP a b, padd_assoc (smul_ok hP a) (smul_ok hP b) hP]
end Go.Sy
set_option linter.unusedVariables false
set_option linter.unusedSimpArgs false
namespace Go.Sy
open Go
def JF (X Y Z : FP) : Pt → Prop
 | none => Z = 0
 | some p => Z ≠ 0 ∧ X = p.1 * (Z * Z) ∧ Y = p.2 * (Z * Z * Z)
theorem not_self_opp {p : FP × FP} (hp : PtOk (some p)) : ¬ (p.1 = p.1 ∧ p.2 = -p.2) := fun hh => by
 have : (2 : FP) * p.2 = 0 := by have := hh.2; grind
 rcases f_eq_zero this with h | h
 ·exact two_ne h
 ·exact y_ne hp h
theorem JF_dbl {X Y Z : FP} {p : FP × FP} (hp : PtOk (some p)) (hZ : Z ≠ 0) (hX : X = p.1 * (Z * Z)) (hY : Y = p.2 * (Z * Z * Z)) {X3 Y3 Z3 : FP}
  (e1 : X3 = 9 * (X * X * (X * X)) - 8 * (X * (Y * Y))) (e2 : Y3 = 3 * (X * X) * (4 * (X * (Y * Y)) - X3) - 8 * (Y * Y * (Y * Y))) (e3 : Z3 = 2 * (Y * Z)) :
  JF X3 Y3 Z3 (padd (some p) (some p)) := by
 have hn := not_self_opp hp
 obtain ⟨d, h1, h2, h3⟩ := add_data hp hp hn
 have hd : d = 0 := by grind
 subst hd
 rw [padd_some hn]
 generalize slope p p = m at *
 have hm : 2 * p.2 * m = 3 * (p.1 * p.1) := by grind
 have hy := y_ne hp
 clear h1 h2 h3 hn hp
 obtain ⟨x, y⟩ := p
 simp only at *
 refine ⟨?_, ?_, ?_⟩
 ·rw [e3, hY]
  exact f_mul_ne two_ne (f_mul_ne (f_mul_ne hy (f_mul_ne (f_mul_ne hZ hZ) hZ)) hZ)
 ·simp only [x3F]
  subst e1 e2 e3 hX hY
  have : 9 * (x * x * (x * x)) = (2 * y * m) * (2 * y * m) := by rw [hm]; grind
  grind
 ·simp only [x3F, y3F]
  have k1 : X3 = (m * m - x - x) * (Z3 * Z3) := by
   subst e1 e2 e3 hX hY
   have : 9 * (x * x * (x * x)) = (2 * y * m) * (2 * y * m) := by rw [hm]; grind
   grind
  rw [e2, k1, e3, hX, hY]
  have : 3 * (x * (Z * Z) * (x * (Z * Z))) = 2 * y * m * (Z * Z * Z * Z) := by rw [hm]; grind
  rw [this]
  grind
theorem JF_same {X1 Y1 Z1 X2 Y2 Z2 : FP} {p q : FP × FP} (h1 : Z1 ≠ 0) (hX1 : X1 = p.1 * (Z1 * Z1)) (hY1 : Y1 = p.2 * (Z1 * Z1 * Z1)) (h2 : Z2 ≠ 0) (hX2 : X2 = q.1 * (Z2 * Z2)) (hY2 : Y2 = q.2 * (Z2 * Z2 * Z2)) :
  (X2 * (Z1 * Z1) - X1 * (Z2 * Z2) = 0 ↔ p.1 = q.1) ∧ (Y2 * (Z1 * (Z1 * Z1)) - Y1 * (Z2 * (Z2 * Z2)) = 0 ↔ p.2 = q.2) := by
 have hz := f_mul_ne h1 h2
 have hz2 := f_mul_ne hz hz
 have hz3 := f_mul_ne hz2 hz
 refine ⟨⟨fun h => ?_, fun h => ?_⟩, ⟨fun h => ?_, fun h => ?_⟩⟩
 ·refine f_cancel hz2 ?_; subst hX1 hX2; grind
 ·subst hX1 hX2; rw [h]; grind
 ·refine f_cancel hz3 ?_; subst hY1 hY2; grind
 ·subst hY1 hY2; rw [h]; grind
theorem JF_add {X1 Y1 Z1 X2 Y2 Z2 : FP} {p q : FP × FP} (hp : PtOk (some p)) (hq : PtOk (some q)) (h1 : Z1 ≠ 0) (hX1 : X1 = p.1 * (Z1 * Z1)) (hY1 : Y1 = p.2 * (Z1 * Z1 * Z1)) (h2 : Z2 ≠ 0) (hX2 : X2 = q.1 * (Z2 * Z2)) (hY2 : Y2 = q.2 * (Z2 * Z2 * Z2))
  (hne : p.1 ≠ q.1) {u s h r X3 Y3 Z3 : FP} (eu : u = X1 * (Z2 * Z2)) (es : s = Y1 * (Z2 * (Z2 * Z2))) (eh : h = X2 * (Z1 * Z1) - u) (er : r = Y2 * (Z1 * (Z1 * Z1)) - s)
  (e1 : X3 = r * r - h * (h * h) - 2 * (u * (h * h))) (e2 : Y3 = r * (u * (h * h) - X3) - s * (h * (h * h))) (e3 : Z3 = h * (Z1 * Z2)) :
  JF X3 Y3 Z3 (padd (some p) (some q)) := by
 have hn : ¬ (p.1 = q.1 ∧ q.2 = -p.2) := fun hh => hne hh.1
 obtain ⟨d, k1, k2, k3⟩ := add_data hp hq hn
 rw [padd_some hn]
 generalize slope p q = m at *
 have hd : d ≠ 0 := fun e => hne (by grind)
 clear k3 hn hp hq hne
 obtain ⟨x, y⟩ := p
 obtain ⟨x2, y2⟩ := q
 simp only at *
 subst k1 k2
 have hh : h = d * (Z1 * Z2 * (Z1 * Z2)) := by subst eh eu hX1 hX2; grind
 have hr : r = m * d * (Z1 * Z2 * (Z1 * Z2) * (Z1 * Z2)) := by subst er es hY1 hY2; grind
 have hu : u = x * (Z1 * Z2 * (Z1 * Z2)) := by subst eu hX1; grind
 have hs : s = y * (Z1 * Z2 * (Z1 * Z2) * (Z1 * Z2)) := by subst es hY1; grind
 clear eu es eh er hX1 hY1 hX2 hY2
 have hz := f_mul_ne h1 h2
 generalize Z1 * Z2 = z at *
 have kx : X3 = (m * m - x - (x + d)) * (Z3 * Z3) := by
  subst e1 e3 hh hr hu; grind
 refine ⟨?_, ?_, ?_⟩
 ·rw [e3, hh]
  exact f_mul_ne (f_mul_ne hd (f_mul_ne hz hz)) hz
 ·simp only [x3F]; exact kx
 ·simp only [x3F, y3F]
  rw [e2, kx, e3, hh, hr, hu, hs]
  grind
end Go.Sy
