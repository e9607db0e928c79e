/- Plain law: what Recover answers, by the group alone. -/
import Derived.Test.YthhijclndgipaaaDoorSyEB
set_option linter.unusedVariables false
set_option linter.unusedSimpArgs false
namespace Go.Sy
open Go

/-! ### Multiples, modulo the order -/

theorem smul_N {P : Pt} (hP : PtOk P) {a b : Nat} (h : toN a = toN b) : smul a P = smul b P := by
  have h1 : a % ordN = b % ordN := congrArg Fin.val h
  rw [← smul_modn hP (order_all hP) a, ← smul_modn hP (order_all hP) b, h1]
theorem smul_back {P : Pt} (hP : PtOk P) {s : Nat} (h0 : s ≠ 0) (h : s < ordN) : smul (wN s) (smul s P) = P := by
  rw [← smul_mul hP, smul_N hP (b := 1) (by rw [toN_mul, toN_wN h0 h, toN_one]), smul_one]
theorem smul_none_of {P : Pt} (hP : PtOk P) {s : Nat} (h0 : s ≠ 0) (h : s < ordN) (e : smul s P = none) : P = none := by
  have := smul_back hP h0 h
  rw [e, smul_none] at this
  exact this.symm
theorem smul_zero_of {P : Pt} (hP : PtOk P) {a : Nat} (h : toN a = 0) : smul a P = none := smul_N hP (b := 0) (h.trans toN_zero.symm)

/-- The key that Recover makes of R. -/
def keyP (e r s : Nat) (R : Pt) : Pt := padd (smul ((ordN - e % ordN) % ordN * wN r % ordN) gP) (smul (s * wN r % ordN) R)
theorem keyP_ok {e r s : Nat} {R : Pt} (hR : PtOk R) : PtOk (keyP e r s R) := padd_ok (smul_ok gP_ok _) (smul_ok hR _)
theorem rec_left {e r s : Nat} {R : Pt} (hR : PtOk R) (h0 : r ≠ 0) (h : r < ordN) : padd (smul e gP) (smul r (keyP e r s R)) = smul s R := by
  have hw := toN_wN h0 h
  unfold keyP
  rw [smul_padd (smul_ok gP_ok _) (smul_ok hR _), ← smul_mul gP_ok, ← smul_mul hR,
    ← padd_assoc (smul_ok gP_ok _) (smul_ok gP_ok _) (smul_ok hR _), ← smul_add gP_ok,
    smul_zero_of gP_ok (by rw [toN_add, toN_mul, toN_mulm, toN_neg]; grind), none_padd]
  exact smul_N hR (by rw [toN_mul, toN_mulm]; grind)
theorem ver_core {e r s : Nat} {Q R : Pt} (hQ : PtOk Q) (hR : PtOk R) (h0 : s ≠ 0) (h : s < ordN) (k : padd (smul e gP) (smul r Q) = smul s R) :
    padd (smul (e * wN s % ordN) gP) (smul (r * wN s % ordN) Q) = R := by
  have h1 := smul_back hR h0 h
  rw [← k, smul_padd (smul_ok gP_ok _) (smul_ok hQ _), ← smul_mul gP_ok, ← smul_mul hQ] at h1
  rw [← h1, smul_N gP_ok (toN_mod (e * wN s)), smul_N hQ (toN_mod (r * wN s))]
theorem ofPt_id {Q : Pt} : (ofPt Q).2.2 = true ↔ Q = none := by
  cases Q with
  | none => exact ⟨fun _ => rfl, fun _ => rfl⟩
  | some q => exact ⟨fun h => (by cases h), fun h => (by cases h)⟩
theorem ofPt_nid {Q : Pt} (h : Q ≠ none) : (ofPt Q).2.2 = false := by
  cases hq : (ofPt Q).2.2 with
  | false => rfl
  | true => exact absurd (ofPt_id.1 hq) h

theorem mulAddV_pt {a b : Nat} {Q : Pt} (hQ : PtOk Q) : mulAddV a b (ofPt Q) = (ofPt (padd (smul a gP) (smul b Q)), 0) := by
  unfold mulAddV
  rw [if_pos (OnN_ofPt hQ), ptF_ofPt]
/-- Verify tells yes. -/
theorem verify_yes {d : List Int} {s : P3} {Q R : Pt} (hQ : PtOk Q) (hR : PtOk R) (hn : Q ≠ none) (hRn : R ≠ none) (hx : (ofPt R).1 = s.1) (hc : checkV s = 0)
    (k : padd (smul (numV d) gP) (smul s.1 Q) = smul s.2.1 R) : verifyV (ofPt Q) d s = (true, 0) := by
  obtain ⟨f1, f2, f3⟩ := of_check hc
  obtain ⟨r0, rl⟩ := fit_of f1
  obtain ⟨s0, sl⟩ := fit_of f2
  have h := ver_core hQ hR s0 sl k
  unfold verifyV
  rw [if_pos (OnN_ofPt hQ), if_neg (fun e => hn (ofPt_id.1 e)), if_pos hc, mulAddV_pt hQ, h, if_neg (fun e => hRn (ofPt_id.1 e))]
  show (decide ((ofPt R).1 % ordN = s.1), (0 : Int)) = _
  rw [hx, Nat.mod_eq_of_lt rl, decide_eq_true rfl]

/-- What Recover answers, where the point is there. -/
theorem recV_pt {d : List Int} {s : P3} {R : Pt} (hR : PtOk R) (hc : checkV s = 0) (hl : liftV s.1 s.2.2 = (ofPt R, 0)) :
    recV d s = if keyP (numV d) s.1 s.2.1 R = none then ((0, 0, false), 65) else (ofPt (keyP (numV d) s.1 s.2.1 R), 0) := by
  unfold recV
  rw [if_pos hc, hl, if_pos rfl, mulAddV_pt hR]
  show (if (ofPt (keyP (numV d) s.1 s.2.1 R)).2.2 = true then _ else (ofPt (keyP (numV d) s.1 s.2.1 R), 0)) = _
  by_cases h : keyP (numV d) s.1 s.2.1 R = none
  · rw [if_pos h, if_pos (ofPt_id.2 h)]
  · rw [if_neg h, if_neg (fun e => h (ofPt_id.1 e))]

/-- The point of an x. -/
theorem lift_pt {x : Nat} {o : Bool} (h : (liftV x o).2 = 0) : ∃ R : Pt, PtOk R ∧ R ≠ none ∧ liftV x o = (ofPt R, 0) ∧ (ofPt R).1 = x ∧ liftV x (!o) = (ofPt (pneg R), 0) := by
  obtain ⟨y, h1, h2, h3⟩ := lift_props (x := x) (odd := o) (q := (liftV x o).1) (by rw [← h])
  rw [h1] at h2
  have e1 : ofPt (ptF (x, y, false)) = (x, y, false) := ofPt_ptF h2
  refine ⟨ptF (x, y, false), h2.ok, (fun h => by cases h), ?_, by rw [e1], ?_⟩
  · rw [e1, ← h1, ← h]
  · rw [lift_on h2, ← neg_pt h2, if_neg (by rw [h3]; cases o <;> decide)]

theorem law06EcdsaRecovered_true {d : List Int} {s : P3} (hd : Bytes d) (hs : In256 s) : law06EcdsaRecovered d s = some true := by
  rw [law06EcdsaRecovered_eq]
  unfold law06EcdsaRecoveredB
  refine bind_step (ecdsaRecover_val hd hs) (bind_step (ecdsaCheck_val hs) ?_)
  by_cases hc : checkV s = 0
  · refine guard_else (by simp [hc]) (bind_step (curveLift_val hs.1 s.2.2) ?_)
    by_cases hl : (liftV s.1 s.2.2).2 = 0
    · refine guard_else (by simp [hl]) ?_
      obtain ⟨R, hR, hRn, l1, l2, l3⟩ := lift_pt hl
      obtain ⟨f1, f2, f3⟩ := of_check hc
      obtain ⟨r0, rl⟩ := fit_of f1
      obtain ⟨s0, sl⟩ := fit_of f2
      rw [recV_pt hR hc l1, l1]
      have hleft := rec_left (e := numV d) (s := s.2.1) hR r0 rl
      have hQ : PtOk (keyP (numV d) s.1 s.2.1 R) := keyP_ok hR
      have hmul : curveMul s.2.1 (ofPt R) = some (ofPt (smul s.2.1 R), 0) := by
        rw [curveMul_val hs.2 (ofPt_lt R)]
        unfold mulV
        rw [if_pos (OnN_ofPt hR), ptF_ofPt]
      refine bind_step hmul (bind_step (law06INumber_val hd) ?_)
      by_cases hk : keyP (numV d) s.1 s.2.1 R = none
      · rw [if_pos hk]
        rw [hk, smul_none, padd_none] at hleft
        refine bind_step (curveMulAdd_val (numV_M d) hs.1 (q := (0, 0, false)) ⟨by decide, by decide⟩) (guard_step rfl (guard_step rfl (bind_step (law06INumber_val hd) (bind_step ((curveMulG_val (numV_M d)).trans (congrArg (fun P => some (ofPt P)) hleft)) (guard_step (sameP (ofPt_lt _)) (some_true zz0))))))
      · rw [if_neg hk]
        have hv := verify_yes (d := d) (s := s) hQ hR hk hRn l2 hc hleft
        have hc2 : checkV (s.1, s.2.1, !s.2.2) = 0 := hc
        have hr2 := recV_pt (d := d) (s := (s.1, s.2.1, !s.2.2)) (R := pneg R) (pneg_ok hR) hc2 l3
        refine bind_step ((curveMulAdd_val (numV_M d) hs.1 (ofPt_lt _)).trans (congrArg some ((mulAddV_pt hQ).trans (congrArg (fun P => (ofPt P, (0 : Int))) hleft)))) (guard_else rfl (guard_else rfl (guard_else rfl (guard_else rfl (guard_else (nsameP (ofPt_lt _)) (guard_else (ofPt_nid hk) (bind_step ((ecdsaVerify_val (ofPt_lt _) hd hs).trans (congrArg some hv)) (bind_step ((ecdsaRecover_val (s := (s.1, s.2.1, !s.2.2)) hd hs).trans (congrArg some hr2)) (guard_step rfl (guard_step rfl ?_))))))))))
        by_cases hk2 : keyP (numV d) s.1 s.2.1 (pneg R) = none
        · rw [if_pos hk2]; rfl
        · rw [if_neg hk2]
          refine guard_else rfl (guard_step rfl ?_)
          refine some_true ?_
          have hT : PtOk (smul (s.2.1 * wN s.1 % ordN) R) := smul_ok hR _
          have hne : keyP (numV d) s.1 s.2.1 (pneg R) ≠ keyP (numV d) s.1 s.2.1 R := fun e => by
            unfold keyP at e
            have e1 := padd_cancel (smul_ok gP_ok _) (smul_ok (pneg_ok hR) _) hT e
            rw [smul_pneg hR] at e1
            have e2 : smul (s.2.1 * wN s.1 % ordN) R = none := two_torsion hT (by
              have := padd_neg (smul (s.2.1 * wN s.1 % ordN) R)
              rw [e1] at this
              exact this)
            have hw := toN_wN r0 rl
            have e3 : smul s.1 (smul (s.2.1 * wN s.1 % ordN) R) = smul s.2.1 R := by
              rw [← smul_mul hR]
              exact smul_N hR (by rw [toN_mul, toN_mulm]; grind)
            rw [e2, smul_none] at e3
            exact hRn (smul_none_of hR s0 sl e3.symm)
          have hne2 : ofPt (keyP (numV d) s.1 s.2.1 (pneg R)) ≠ ofPt (keyP (numV d) s.1 s.2.1 R) := fun e => hne (ofPt_inj e)
          rw [eqP_step (x1 := 0) (x2 := 0) (b1 := true) (ofPt_lt _) (ofPt_lt _), decide_eq_false hne2]
          rfl
    · rw [show recV d s = ((0, 0, false), 64) by unfold recV; rw [if_pos hc, if_neg hl]]
      exact guard_step (by simp [hl]) (guard_step rfl (some_true zz0))
  · rw [show recV d s = ((0, 0, false), checkV s) by unfold recV; rw [if_neg hc]]
    exact guard_step (by simp [hc]) (guard_step (by simp) (some_true zz0))
end Go.Sy
