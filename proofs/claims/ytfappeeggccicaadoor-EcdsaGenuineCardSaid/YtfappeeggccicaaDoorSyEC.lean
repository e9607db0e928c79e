/- Plain law: what Recover answers, by the group alone. -/

import Derived.Test.YtfappeeggccicaaDoorSyEB

set_option linter.unusedVariables false

set_option linter.unusedSimpArgs false

namespace Go.Sy

open Go

theorem smul_N {P : Pt} (hP : PtOk P) {a b : Nat} (h : toN a = toN b) : smul a P = smul b P := by
  have h1 : a % ordN = b % ordN := congrArg Fin.val h
  rw [← smul_modn hP (order_all hP) a, ← smul_modn hP (order_all hP) b, h1]

theorem smul_back {P : Pt} (hP : PtOk P) {s : Nat} (h0 : s ≠ 0) (h : s < ordN) : smul (wN s) (smul s P) = P := by
  rw [← smul_mul hP, smul_N hP (b := 1) (by rw [toN_mul, toN_wN h0 h, toN_one]), smul_one]

theorem smul_zero_of {P : Pt} (hP : PtOk P) {a : Nat} (h : toN a = 0) : smul a P = none := smul_N hP (b := 0) (h.trans toN_zero.symm)

/-- The key that Recover makes of R. -/
def keyP (e r s : Nat) (R : Pt) : Pt := padd (smul ((ordN - e % ordN) % ordN * wN r % ordN) gP) (smul (s * wN r % ordN) R)

theorem keyP_ok {e r s : Nat} {R : Pt} (hR : PtOk R) : PtOk (keyP e r s R) := padd_ok (smul_ok gP_ok _) (smul_ok hR _)

theorem rec_left {e r s : Nat} {R : Pt} (hR : PtOk R) (h0 : r ≠ 0) (h : r < ordN) : padd (smul e gP) (smul r (keyP e r s R)) = smul s R := by
  have hw := toN_wN h0 h
  unfold keyP
  rw [smul_padd (smul_ok gP_ok _) (smul_ok hR _), ← smul_mul gP_ok, ← smul_mul hR,
    ← padd_assoc (smul_ok gP_ok _) (smul_ok gP_ok _) (smul_ok hR _), ← smul_add gP_ok,
    smul_zero_of gP_ok (by rw [toN_add, toN_mul, toN_mulm, toN_neg]; grind), none_padd]
  exact smul_N hR (by rw [toN_mul, toN_mulm]; grind)

theorem ofPt_id {Q : Pt} : (ofPt Q).2.2 = true ↔ Q = none := by
  cases Q with
  | none => exact ⟨fun _ => rfl, fun _ => rfl⟩
  | some q => exact ⟨fun h => (by cases h), fun h => (by cases h)⟩

theorem mulAddV_pt {a b : Nat} {Q : Pt} (hQ : PtOk Q) : mulAddV a b (ofPt Q) = (ofPt (padd (smul a gP) (smul b Q)), 0) := by
  unfold mulAddV
  rw [if_pos (OnN_ofPt hQ), ptF_ofPt]

/-- What Recover answers, where the point is there. -/
theorem recV_pt {d : List Int} {s : P3} {R : Pt} (hR : PtOk R) (hc : checkV s = 0) (hl : liftV s.1 s.2.2 = (ofPt R, 0)) :
    recV d s = if keyP (numV d) s.1 s.2.1 R = none then ((0, 0, false), 65) else (ofPt (keyP (numV d) s.1 s.2.1 R), 0) := by
  unfold recV
  rw [if_pos hc, hl, if_pos rfl, mulAddV_pt hR]
  show (if (ofPt (keyP (numV d) s.1 s.2.1 R)).2.2 = true then _ else (ofPt (keyP (numV d) s.1 s.2.1 R), 0)) = _
  by_cases h : keyP (numV d) s.1 s.2.1 R = none
  · rw [if_pos h, if_pos (ofPt_id.2 h)]
  · rw [if_neg h, if_neg (fun e => h (ofPt_id.1 e))]

end Go.Sy
