/- Plain laws: what SignWith answers, by the group and the field alone; the nonce and its opposite make one signature. -/
import Derived.Test.YthhijclndgipaaaDoorSyEN
set_option linter.unusedVariables false
set_option linter.unusedSimpArgs false
namespace Go.Sy
open Go

theorem law06IFit_val {x : Nat} (hx : x < M256) : law06IFit x = some (fitV x) := by
  rw [law06IFit_eq]
  unfold law06IFitB fitV
  rw [u256eq_val hx (by decide)]
  refine bind_step fieldModulus_1 (guard_step rfl ?_)
  by_cases h : x = 0
  · exact guard_else (by simp [h]) (by simp [h])
  · refine guard_step (by simp [h]) (bind_step (u256Cmp_val hx ordN_M) ?_)
    rw [cmp_neg]; simp [h]
theorem law06IPlus_val {x y : Nat} (hx : x < M256) (hy : y < M256) : law06IPlus x y = some ((x + y) % ordN) := by
  rw [law06IPlus_eq]
  unfold law06IPlusB
  exact bind_step (fieldAdd_1 hx hy) rfl
theorem law06ITimes_val {x y : Nat} (hx : x < M256) (hy : y < M256) : law06ITimes x y = some (x * y % ordN) := by
  rw [law06ITimes_eq]
  unfold law06ITimesB
  exact bind_step (fieldMul_1 hx hy) rfl
theorem law06INeg_val {x : Nat} (hx : x < M256) : law06INeg x = some ((ordN - x % ordN) % ordN) := by
  rw [law06INeg_eq]
  unfold law06INegB
  exact bind_step (fieldNeg_1 hx) rfl
theorem law06INumber_val {d : List Int} (hd : Bytes d) : law06INumber d = some (numV d) := by
  rw [law06INumber_eq]
  unfold law06INumberB
  exact bind_step (u256Get_val (hd.taken 32)) (bind_step (law06IPlus_val (getV_lt (hd.taken 32)) (by decide)) rfl)
theorem zz0 : ((u256eq 0 0) && ((u256eq 0 0) && (false == false))) = true := by rw [u256eq_self]; rfl
theorem some_true {b : Bool} (h : b = true) : some b = some true := by rw [h]
theorem tmod_odd (x : Nat) : ((Int.tmod (limb x 0) (2 : Int)) == (1 : Int)) = oddV x := by
  have h : (Int.tmod (limb x 0) (2 : Int)) = ((x % 2 : Nat) : Int) := by
    rw [limb_ln, Int.tmod_eq_emod_of_nonneg (by omega), ← ln0_mod2 x]; omega
  rw [h]
  unfold oddV
  rcases (by omega : x % 2 = 0 ∨ x % 2 = 1) with e | e <;> rw [e] <;> rfl

theorem law06EcdsaTextbook_true {key nonce : Nat} {d : List Int} (hk : key < M256) (hn : nonce < M256) (hd : Bytes d) : law06EcdsaTextbook key nonce d = some true := by
  rw [law06EcdsaTextbook_eq]
  unfold law06EcdsaTextbookB
  refine bind_step (ecdsaSignWith_val hk hn hd) (bind_step (law06IFit_val hk) ?_)
  unfold signV
  have hp := ofPt_lt (smul nonce gP)
  have hm := curveMulG_val hn
  generalize ofPt (smul nonce gP) = p at *
  by_cases h1 : fitV key = true
  · rw [if_pos h1]
    refine guard_else (by rw [h1]; rfl) (bind_step (law06IFit_val hn) ?_)
    by_cases h2 : fitV nonce = true
    · rw [if_pos h2]
      obtain ⟨n0, n1⟩ := fit_of h2
      refine guard_else (by rw [h2]; rfl) (bind_step hm (bind_step (law06INumber_val hd) (bind_step (law06ITimes_val hp.1 hk) (bind_step (law06IPlus_val (numV_M d) (lt_nM _)) (bind_step (law06IFit_val hp.1) ?_)))))
      unfold signP sN
      have ht : (numV d + p.1 * key % ordN) % ordN < ordN := lt_n _
      generalize (numV d + p.1 * key % ordN) % ordN = t at *
      by_cases h3 : fitV p.1 = true
      · obtain ⟨h4, h5⟩ := fit_of h3
        refine guard_else (by rw [h3]; rfl) ?_
        rw [if_pos h5, if_neg h4, u256eq_val (Nat.lt_trans ht ordN_M) (by decide)]
        by_cases h6 : t = 0
        · subst h6
          rw [Nat.zero_mul, Nat.zero_mod, if_pos rfl]
          exact guard_step rfl (guard_step rfl (some_true zz0))
        · have hs0 := tw_ne ht h6 n0 n1
          have hsm := tw_mul ht n0 n1
          have hsl : t * wN nonce % ordN < ordN := lt_n _
          generalize t * wN nonce % ordN = s at *
          have hsM := Nat.lt_trans hsl ordN_M
          refine guard_else (by simp [h6]) ?_
          rw [if_neg hs0]
          by_cases h7 : lowV s = true
          · rw [if_pos h7]
            refine guard_else rfl (guard_else (by simp [u256eq_self]) (bind_step ((ecdsaCheck_val (s := (p.1, s, oddV p.2.1)) ⟨hp.1, hsM⟩).trans (congrArg some (check_of h3 (of_fit hs0 hsl) h7))) (guard_else rfl (bind_step ((law06ITimes_val hsM hn).trans (congrArg some hsm)) (guard_step (u256eq_self _) ?_)))))
            rw [tmod_odd]; exact some_true (by simp)
          · rw [if_neg h7]
            have hh := not_low h7
            have h2h := two_half
            rw [negS hs0 hsl]
            have hS0 : ordN - s ≠ 0 := by omega
            have hSl : ordN - s < ordN := by omega
            have hSM := Nat.lt_trans hSl ordN_M
            have hmul : (ordN - s) * nonce % ordN = (ordN - t % ordN) % ordN := by
              refine toN_inj (lt_n _) (lt_n _) ?_
              have a1 : toN ((ordN - s % ordN) % ordN) = -toN s := toN_neg s
              rw [negS hs0 hsl] at a1
              rw [toN_mulm, toN_neg, a1, ← hsm, toN_mulm]
              grind
            have hne : (ordN - t % ordN) % ordN ≠ t := by
              rw [negS h6 ht]; intro e; omega
            refine guard_else rfl (guard_else (by simp [u256eq_self]) (bind_step ((ecdsaCheck_val (s := (p.1, ordN - s, !oddV p.2.1)) ⟨hp.1, hSM⟩).trans (congrArg some (check_of h3 (of_fit hS0 hSl) (of_low (by omega))))) (guard_else rfl (bind_step ((law06ITimes_val hSM hn).trans (congrArg some hmul)) (guard_else ?_ (bind_step ((law06ITimes_val hSM hn).trans (congrArg some hmul)) (bind_step (law06INeg_val (Nat.lt_trans ht ordN_M)) (guard_step (u256eq_self _) ?_))))))))
            · rw [u256eq_val (lt_nM _) (Nat.lt_trans ht ordN_M)]; exact decide_eq_false hne
            · rw [tmod_odd]; exact some_true (by simp)
      · refine guard_step (by simp [h3]) ?_
        by_cases h5 : p.1 < ordN
        · have h4 : p.1 = 0 := by
            by_cases h : p.1 = 0
            · exact h
            · exact absurd (of_fit h h5) h3
          rw [if_pos h5, if_pos h4]
          exact guard_else rfl (guard_step rfl (some_true zz0))
        · rw [if_neg h5]; exact guard_step rfl (some_true zz0)
    · rw [if_neg h2]; exact guard_step (by simp [h2]) (guard_step rfl (some_true zz0))
  · rw [if_neg h1]; exact guard_step (by simp [h1]) (guard_step rfl (some_true zz0))

/-! ### The opposite nonce -/

theorem smul_negn {k : Nat} (hk : k ≤ ordN) : smul (ordN - k) gP = pneg (smul k gP) := by
  have h1 : padd (smul k gP) (smul (ordN - k) gP) = none := by
    rw [← smul_add gP_ok, show k + (ordN - k) = ordN by omega]; exact order_G
  exact padd_cancel (smul_ok gP_ok k) (smul_ok gP_ok _) (pneg_ok (smul_ok gP_ok k)) (h1.trans (padd_neg _).symm)
theorem neg_y {P : Pt} (h : P ≠ none) (hP : PtOk P) : (ofPt (pneg P)).1 = (ofPt P).1 ∧ oddV (ofPt (pneg P)).2.1 = !oddV (ofPt P).2.1 := by
  match P, h with
  | some (x, y), _ =>
    refine ⟨rfl, ?_⟩
    have hy : y ≠ 0 := y_ne hP
    have hy0 : y.val ≠ 0 := fun e => hy (FP.ext e)
    have hl : y.val < prP := y.isLt
    have hv : (-y).val = prP - y.val := by
      have h1 : (-y).val = (prP - y.val) % prP := rfl
      rw [h1, Nat.mod_eq_of_lt (by omega)]
    show oddV (-y).val = !oddV y.val
    rw [hv]
    have ho := prP_odd
    unfold oddV
    rcases (by omega : y.val % 2 = 0 ∨ y.val % 2 = 1) with e | e
    · rw [e, show (prP - y.val) % 2 = 1 by omega]; rfl
    · rw [e, show (prP - y.val) % 2 = 0 by omega]; rfl

theorem sN_neg {t x : Nat} (ht : t < ordN) (ht0 : t ≠ 0) (h0 : x ≠ 0) (h : x < ordN) : t * wN (ordN - x) % ordN = ordN - t * wN x % ordN := by
  have hs := tw_ne ht ht0 h0 h
  have e1 := toN_wN h0 h
  have e2 := toN_wN (x := ordN - x) (by omega) (by omega)
  have a1 : toN ((ordN - x % ordN) % ordN) = -toN x := toN_neg x
  rw [negS h0 h] at a1
  rw [a1] at e2
  rw [← negS hs (lt_n _)]
  refine toN_inj (lt_n _) (lt_n _) ?_
  rw [toN_neg, toN_mulm, toN_mulm]
  grind
theorem signV_neg {key nonce : Nat} {d : List Int} (h2 : fitV nonce = true) : signV key (ordN - nonce) d = signV key nonce d := by
  obtain ⟨n0, n1⟩ := fit_of h2
  unfold signV
  by_cases h1 : fitV key = true
  · rw [if_pos h1, if_pos h1, if_pos h2, if_pos (of_fit (by omega) (by omega))]
    rw [smul_negn (Nat.le_of_lt n1)]
    obtain ⟨x1, y1⟩ := neg_y (smul_ne (Nat.pos_of_ne_zero n0) n1) (smul_ok gP_ok nonce)
    generalize ofPt (smul nonce gP) = p at *
    generalize ofPt (pneg (smul nonce gP)) = q at *
    unfold signP
    rw [x1]
    unfold sN
    have ht : (numV d + p.1 * key % ordN) % ordN < ordN := lt_n _
    generalize (numV d + p.1 * key % ordN) % ordN = t at *
    by_cases h3 : p.1 < ordN
    · rw [if_pos h3, if_pos h3]
      by_cases h4 : p.1 = 0
      · rw [if_pos h4, if_pos h4]
      · rw [if_neg h4, if_neg h4]
        by_cases h6 : t = 0
        · subst h6
          rw [Nat.zero_mul, Nat.zero_mul, Nat.zero_mod, if_pos rfl, if_pos rfl]
        · rw [sN_neg ht h6 n0 n1]
          have hs0 := tw_ne ht h6 n0 n1
          have hsl : t * wN nonce % ordN < ordN := lt_n _
          generalize t * wN nonce % ordN = s at *
          rw [if_neg hs0, if_neg (by omega), y1, negS hs0 hsl, negS (s := ordN - s) (by omega) (by omega)]
          have h2h := two_half
          by_cases h7 : lowV s = true
          · have := low_of h7
            rw [if_pos h7, if_neg (fun h => by have := low_of h; omega), show ordN - (ordN - s) = s by omega, Bool.not_not]
          · have := not_low h7
            rw [if_neg h7, if_pos (of_low (by omega))]
    · rw [if_neg h3, if_neg h3]
  · rw [if_neg h1, if_neg h1]

theorem signV_cases {key nonce : Nat} {d : List Int} (h1 : fitV key = true) (h2 : fitV nonce = true) :
    signV key nonce d = ((0, 0, false), 64) ∨ signV key nonce d = ((0, 0, false), 65) ∨ ∃ r s o, signV key nonce d = ((r, s, o), 0) ∧ fitV r = true ∧ fitV s = true ∧ lowV s = true := by
  unfold signV
  rw [if_pos h1, if_pos h2]
  have hsl : sN (ofPt (smul nonce gP)).1 key nonce d < ordN := lt_n _
  generalize sN (ofPt (smul nonce gP)).1 key nonce d = s at *
  generalize ofPt (smul nonce gP) = p at *
  unfold signP
  by_cases h3 : p.1 < ordN
  · rw [if_pos h3]
    by_cases h4 : p.1 = 0
    · rw [if_pos h4]; exact .inr (.inl rfl)
    · rw [if_neg h4]
      by_cases h5 : s = 0
      · rw [if_pos h5]; exact .inr (.inl rfl)
      · rw [if_neg h5]
        by_cases h7 : lowV s = true
        · rw [if_pos h7]; exact .inr (.inr ⟨_, _, _, rfl, of_fit h4 h3, of_fit h5 hsl, h7⟩)
        · have := not_low h7
          have h2h := two_half
          rw [if_neg h7, negS h5 hsl]
          exact .inr (.inr ⟨_, _, _, rfl, of_fit h4 h3, of_fit (by omega) (by omega), of_low (by omega)⟩)
  · rw [if_neg h3]; exact .inl rfl

theorem law06EcdsaTurned_true {key nonce : Nat} {d : List Int} (hk : key < M256) (hn : nonce < M256) (hd : Bytes d) : law06EcdsaTurned key nonce d = some true := by
  rw [law06EcdsaTurned_eq]
  unfold law06EcdsaTurnedB
  refine bind_step (ecdsaSignWith_val hk hn hd) (bind_step (law06IFit_val hk) ?_)
  by_cases h1 : fitV key = true
  · refine guard_else (by rw [h1]; rfl) (bind_step (law06IFit_val hn) ?_)
    by_cases h2 : fitV nonce = true
    · obtain ⟨n0, n1⟩ := fit_of h2
      have hneg : law06INeg nonce = some (ordN - nonce) := (law06INeg_val hn).trans (congrArg some (negS n0 n1))
      have hlt : ordN - nonce < M256 := Nat.lt_of_le_of_lt (Nat.sub_le _ _) ordN_M
      refine guard_else (by rw [h2]; rfl) (bind_step hneg (bind_step ((ecdsaSignWith_val hk hlt hd).trans (congrArg some (signV_neg h2))) (guard_else (by simp) (guard_else (nsameP (signV_lt _ _ _)) ?_))))
      rcases signV_cases (d := d) h1 h2 with e | e | ⟨r, s, o, e, f1, f2, f3⟩
      · rw [e]; rfl
      · rw [e]; rfl
      · rw [e]
        obtain ⟨r0, rl⟩ := fit_of f1
        obtain ⟨s0, sl⟩ := fit_of f2
        have hl := low_of f3
        have h2h := two_half
        have rM := Nat.lt_trans rl ordN_M
        have sM := Nat.lt_trans sl ordN_M
        have c1 : checkV (r, ordN - s, o) = 63 := by
          unfold checkV
          rw [if_pos f1, if_pos (of_fit (x := ordN - s) (by omega) (by omega)), if_neg (fun h => by have : ordN - s ≤ halfN := low_of h; omega)]
        have c2 : checkV (0, s, o) = 61 := by
          unfold checkV
          rw [if_neg (fun h => (fit_of h).1 rfl)]
        have c3 : checkV (r, ordN, o) = 62 := by
          unfold checkV
          rw [if_pos f1, if_neg (fun h => Nat.lt_irrefl _ (fit_of h).2)]
        refine guard_else rfl (bind_step fieldModulus_1 (bind_step ((law06INeg_val sM).trans (congrArg some (negS s0 sl))) (bind_step ((ecdsaCheck_val (s := (r, ordN - s, o)) ⟨rM, Nat.lt_of_le_of_lt (Nat.sub_le _ _) ordN_M⟩).trans (congrArg some c1)) (guard_step rfl (bind_step ((ecdsaCheck_val (s := (0, s, o)) ⟨by show (0 : Nat) < M256; decide, sM⟩).trans (congrArg some c2)) (guard_step rfl (bind_step ((ecdsaCheck_val (s := (r, ordN, o)) ⟨rM, ordN_M⟩).trans (congrArg some c3)) rfl)))))))
    · refine guard_step (by simp [h2]) ?_
      unfold signV
      rw [if_pos h1, if_neg h2]
      rfl
  · refine guard_step (by simp [h1]) ?_
    unfold signV
    rw [if_neg h1]
    rfl
end Go.Sy
