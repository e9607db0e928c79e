/- Plain law: whatever key, nonce and digest: a signature is its key's, tells the key, and through its bytes it is the same again. -/
import Derived.Test.YthhijclndgipaaaDoorSyEC
import Derived.Test.YthhijclndgipaaaDoorSyVE3
set_option linter.unusedVariables false
set_option linter.unusedSimpArgs false
namespace Go.Sy
open Go

/-! ### Its bytes -/

theorem byte_marks : ∀ n : Fin 128, IntKind.wrap .u8 (BitVec.ofInt 8 (n.val : Int) ||| BitVec.ofInt 8 128).toNat = ((n.val + 128 : Nat) : Int) ∧ andNotI .u8 (((n.val + 128 : Nat) : Int)) 128 = (n.val : Int)
    ∧ andNotI .u8 ((n.val : Int)) 128 = (n.val : Int) ∧ (andI .u8 (((n.val + 128 : Nat) : Int)) 128 != 0) = true ∧ (andI .u8 ((n.val : Int)) 128 != 0) = false := by decide +kernel
theorem or128 {b : Nat} (h : b < 128) : orI .u8 (b : Int) 128 = ((b + 128 : Nat) : Int) := by rw [orI_eq]; exact (byte_marks ⟨b, h⟩).1
theorem set_self {l : List Int} (h : 0 < l.length) : l.set 0 (l.getD 0 (0 : Int)) = l := by
  cases l with
  | nil => exact absurd h (by decide)
  | cons a l => rfl
theorem put32_0 (x : Nat) : (put32 x).getD 0 (0 : Int) = ((byteN x 31 : Nat) : Int) := put32_get x (by decide)
def hiV (x : Nat) (o : Bool) : List Int := if o = true then (put32 x).set 0 ((byteN x 31 + 128 : Nat) : Int) else put32 x
theorem hiV_length (x : Nat) (o : Bool) : (hiV x o).length = 32 := by unfold hiV; split <;> simp [put32_length]
theorem top_low {x : Nat} (h : x ≤ halfN) : byteN x 31 < 128 := by
  have h1 : halfN / 2 ^ 248 < 128 := by decide
  have h2 : x / 2 ^ 248 ≤ halfN / 2 ^ 248 := Nat.div_le_div_right h
  have h3 : byteN x 31 ≤ x / 2 ^ (8 * 31) := Nat.mod_le _ _
  exact Nat.lt_of_le_of_lt (Nat.le_trans h3 h2) h1
theorem whole32 {l : List Int} (h : l.length = 32) : List.take 32 (List.drop 0 l) = l := by
  rw [List.drop_zero, List.take_of_length_le (by omega)]
theorem room32 {l : List Int} (h : l.length = 32) : roomB 1 (32 + l.length) = true := by
  rw [h]; rfl
theorem ecdsaPack_val {r s : Nat} {o : Bool} (hr : r < M256) (hs : s < M256) (hc : checkV (r, s, o) = 0) : ecdsaPack (r, s, o) = some (0, put32 r ++ hiV s o) := by
  rw [ecdsaPack_eq]
  unfold ecdsaPackB
  refine bind_step ((ecdsaCheck_val (s := (r, s, o)) ⟨hr, hs⟩).trans (congrArg some hc)) (guard_else rfl (bind_step (u256Put_val _) (bind_step (u256Put_val _) ?_)))
  have ht := top_low (low_of (of_check hc).2.2)
  unfold hiV
  cases o with
  | true =>
    refine guard_step rfl ?_
    rw [put32_0, or128 ht, whole32 (put32_length _), whole32 (by rw [List.length_set]; exact put32_length _), if_pos rfl]
    exact guard_step (room32 (by rw [List.length_set]; exact put32_length _)) rfl
  | false =>
    refine guard_else rfl ?_
    rw [whole32 (put32_length _), whole32 (put32_length _), if_neg (by decide)]
    exact guard_step (room32 (put32_length _)) rfl
theorem hiV_set {x : Nat} {o : Bool} (h : byteN x 31 < 128) : (hiV x o).set 0 (andNotI .u8 ((hiV x o).getD 0 (0 : Int)) 128) = put32 x ∧ (andI .u8 ((hiV x o).getD 0 (0 : Int)) 128 != 0) = o := by
  obtain ⟨_, m1, m2, m3, m4⟩ := byte_marks ⟨byteN x 31, h⟩
  have hs := set_self (l := put32 x) (by rw [put32_length]; decide)
  rw [put32_0] at hs
  unfold hiV
  cases o with
  | true =>
    rw [if_pos rfl, getD_setI, if_pos rfl, if_pos (by rw [put32_length]; decide), m1, m3, List.set_set, hs]
    exact ⟨rfl, rfl⟩
  | false =>
    rw [if_neg (by decide), put32_0, m2, m4, hs]
    exact ⟨rfl, rfl⟩
theorem ecdsaUnpack_put {r s : Nat} {o : Bool} (hr : r < M256) (hs : s < M256) (hc : checkV (r, s, o) = 0) : ecdsaUnpack (put32 r ++ hiV s o) = some ((r, s, o), 0) := by
  rw [ecdsaUnpack_eq]
  unfold ecdsaUnpackB
  obtain ⟨q1, q2⟩ := hiV_set (o := o) (top_low (low_of (of_check hc).2.2))
  have hT := hiV_length s o
  generalize hiV s o = T at *
  have ha := put32_length r
  have hl : (put32 r ++ T).length = 64 := by rw [List.length_append, ha, hT]
  have k0 : List.take 32 (List.drop 0 (put32 r ++ T)) = put32 r := by rw [List.drop_zero, List.take_left' ha]
  have k1 : spliceL (List.replicate 32 (0 : Int)) 0 (List.take 32 (List.take ((put32 r ++ T).length - 32) (List.drop 32 (put32 r ++ T)))) = T := by
    have e1 : List.take (64 - 32) T = T := List.take_of_length_le (by omega)
    have e2 : List.take 32 T = T := List.take_of_length_le (by omega)
    rw [hl, List.drop_left' ha, e1, e2]
    unfold spliceL
    simp [hT]
  rw [k0, k1, q1, q2, whole32 (put32_length s), hl]
  exact guard_else rfl (guard_step rfl (guard_step rfl (bind_step ((u256Get_val (put32_bytes r)).trans (congrArg some (get_put hr))) (bind_step ((u256Get_val (put32_bytes s)).trans (congrArg some (get_put hs))) (bind_step ((ecdsaCheck_val (s := (r, s, o)) ⟨hr, hs⟩).trans (congrArg some hc)) (guard_else rfl rfl))))))

/-! ### Its point -/

theorem lift_self {P : Pt} (hP : PtOk P) (hn : P ≠ none) : liftV (ofPt P).1 (oddV (ofPt P).2.1) = (ofPt P, 0) ∧ liftV (ofPt P).1 (!oddV (ofPt P).2.1) = (ofPt (pneg P), 0) := by
  match P, hn, hP with
  | some (x, y), _, hP =>
    have hon : OnN (x.val, y.val, false) := OnN_ofPt hP
    have hpt : ptF (x.val, y.val, false) = some (x, y) := ptF_ofPt (some (x, y))
    constructor
    · show liftV x.val (oddV y.val) = ((x.val, y.val, false), 0)
      rw [lift_on hon, if_pos (show oddV y.val = decide (y.val % 2 = 1) from rfl)]
    · show liftV x.val (!oddV y.val) = (ofPt (pneg (some (x, y))), 0)
      rw [lift_on hon, if_neg (by unfold oddV; cases decide (y.val % 2 = 1) <;> decide), neg_pt hon, hpt]

theorem sign_pt {key nonce : Nat} {d : List Int} {r s : Nat} {o : Bool} (h1 : fitV key = true) (h2 : fitV nonce = true) (h : signV key nonce d = ((r, s, o), 0)) :
    ∃ R : Pt, PtOk R ∧ R ≠ none ∧ liftV r o = (ofPt R, 0) ∧ (ofPt R).1 = r ∧ padd (smul (numV d) gP) (smul r (smul key gP)) = smul s R := by
  obtain ⟨n0, n1⟩ := fit_of h2
  unfold signV at h
  rw [if_pos h1, if_pos h2] at h
  have hP := smul_ok gP_ok nonce
  have hPn : smul nonce gP ≠ none := smul_ne (Nat.pos_of_ne_zero n0) n1
  obtain ⟨l1, l2⟩ := lift_self hP hPn
  have x1 := (neg_y hPn hP).1
  have hneg := smul_negn (k := nonce) (Nat.le_of_lt n1)
  have hr1 : (ofPt (smul nonce gP)).1 = r → toN ((numV d + (ofPt (smul nonce gP)).1 * key % ordN) % ordN) = toN (numV d) + toN r * toN key := fun e => by rw [e, toN_addm, toN_mulm]
  have hsl : sN (ofPt (smul nonce gP)).1 key nonce d < ordN := lt_n _
  have hsm : toN (sN (ofPt (smul nonce gP)).1 key nonce d) = toN ((numV d + (ofPt (smul nonce gP)).1 * key % ordN) % ordN) * toN (wN nonce) := toN_mulm _ _
  generalize sN (ofPt (smul nonce gP)).1 key nonce d = s0 at *
  generalize (numV d + (ofPt (smul nonce gP)).1 * key % ordN) % ordN = t at *
  have hw := toN_wN n0 n1
  unfold signP at h
  by_cases h3 : (ofPt (smul nonce gP)).1 < ordN
  · rw [if_pos h3] at h
    by_cases h4 : (ofPt (smul nonce gP)).1 = 0
    · rw [if_pos h4] at h; exact absurd (Prod.mk.inj h).2 (by decide)
    · rw [if_neg h4] at h
      by_cases h5 : s0 = 0
      · rw [if_pos h5] at h; exact absurd (Prod.mk.inj h).2 (by decide)
      · rw [if_neg h5] at h
        by_cases h7 : lowV s0 = true
        · rw [if_pos h7] at h
          obtain ⟨e1, e2⟩ := Prod.mk.inj (Prod.mk.inj h).1
          obtain ⟨e3, e4⟩ := Prod.mk.inj e2
          refine ⟨smul nonce gP, hP, hPn, by rw [← e1, ← e4]; exact l1, e1, ?_⟩
          have hr := hr1 e1
          rw [← e3, ← smul_mul gP_ok, ← smul_mul gP_ok, ← smul_add gP_ok]
          exact smul_N gP_ok (by rw [toN_add, toN_mul, toN_mul, hsm, hr]; grind)
        · rw [if_neg h7, negS h5 hsl] at h
          obtain ⟨e1, e2⟩ := Prod.mk.inj (Prod.mk.inj h).1
          obtain ⟨e3, e4⟩ := Prod.mk.inj e2
          refine ⟨pneg (smul nonce gP), pneg_ok hP, (fun e => ?_), by rw [← e1, ← e4]; exact l2, x1.trans e1, ?_⟩
          · have := padd_neg (smul nonce gP)
            rw [e, padd_none] at this
            exact hPn this
          have hr := hr1 e1
          have a1 : toN ((ordN - s0 % ordN) % ordN) = -toN s0 := toN_neg s0
          rw [negS h5 hsl] at a1
          have a2 : toN ((ordN - nonce % ordN) % ordN) = -toN nonce := toN_neg nonce
          rw [negS n0 n1] at a2
          rw [← e3, ← hneg, ← smul_mul gP_ok, ← smul_mul gP_ok, ← smul_add gP_ok]
          exact smul_N gP_ok (by rw [toN_add, toN_mul, toN_mul, a1, a2, hsm, hr]; grind)
  · rw [if_neg h3] at h; exact absurd (Prod.mk.inj h).2 (by decide)

theorem law06EcdsaWhose_true {key nonce : Nat} {d : List Int} (hk : key < M256) (hn : nonce < M256) (hd : Bytes d) : law06EcdsaWhose key nonce d = some true := by
  rw [law06EcdsaWhose_eq]
  unfold law06EcdsaWhoseB
  refine bind_step (ecdsaSignWith_val hk hn hd) ?_
  by_cases h1 : fitV key = true
  · by_cases h2 : fitV nonce = true
    · have hfit : ∀ v : Int, (v = 64 ∨ v = 65) → ((law06IFit key).bind fun r2 => bif (!r2) then some true else (law06IFit nonce).bind fun r3 => bif (!r3) then some true else bif (v == (64 : Int)) then some true else some (v == (65 : Int))) = some true := fun v hv => by
        refine bind_step (law06IFit_val hk) (guard_else (by rw [h1]; rfl) (bind_step (law06IFit_val hn) (guard_else (by rw [h2]; rfl) ?_)))
        rcases hv with e | e <;> subst e <;> rfl
      rcases signV_cases (d := d) h1 h2 with e | e | ⟨r, s, o, e, f1, f2, f3⟩
      · rw [e]; exact guard_step rfl (hfit 64 (.inl rfl))
      · rw [e]; exact guard_step rfl (hfit 65 (.inr rfl))
      · obtain ⟨R, hR, hRn, l1, l2, hk2⟩ := sign_pt h1 h2 e
        rw [e]
        obtain ⟨k0, kl⟩ := fit_of h1
        obtain ⟨r0, rl⟩ := fit_of f1
        obtain ⟨s0, sl⟩ := fit_of f2
        have hrM := Nat.lt_trans rl ordN_M
        have hsM := Nat.lt_trans sl ordN_M
        have hc : checkV (r, s, o) = 0 := check_of f1 f2 f3
        have hQ : PtOk (smul key gP) := smul_ok gP_ok key
        have hQn : smul key gP ≠ none := smul_ne (Nat.pos_of_ne_zero k0) kl
        have hv := verify_yes (d := d) (s := (r, s, o)) hQ hR hQn hRn l2 hc hk2
        have hkey : keyP (numV d) r s R = smul key gP := by
          have hK : PtOk (keyP (numV d) r s R) := keyP_ok hR
          have c := padd_cancel (smul_ok gP_ok _) (smul_ok hK _) (smul_ok hQ _) ((rec_left (e := numV d) (s := s) hR r0 rl).trans hk2.symm)
          rw [← smul_back hK r0 rl, c, smul_back hQ r0 rl]
        have hrec : recV d (r, s, o) = (ofPt (smul key gP), 0) := by
          rw [recV_pt (s := (r, s, o)) hR hc l1]
          show (if keyP (numV d) r s R = none then _ else (ofPt (keyP (numV d) r s R), 0)) = _
          rw [hkey, if_neg hQn]
        have hs3 : In256 (r, s, o) := ⟨hrM, hsM⟩
        have hlen : ((put32 r ++ hiV s o).length : Nat) = 64 := by rw [List.length_append, put32_length, hiV_length]
        refine guard_else rfl (bind_step (curveMulG_val hk) (bind_step ((ecdsaVerify_val (ofPt_lt _) hd hs3).trans (congrArg some hv)) (bind_step ((ecdsaRecover_val hd hs3).trans (congrArg some hrec)) (guard_else rfl (guard_else rfl (guard_else rfl (guard_else (nsameP (ofPt_lt _)) (guard_else (ofPt_nid hQn) (bind_step (ecdsaPack_val hrM hsM hc) (bind_step (ecdsaUnpack_put hrM hsM hc) (guard_step rfl (guard_step rfl (guard_step ?_ (some_true (sameP hs3)))))))))))))))
        rw [hlen]; rfl
    · rw [show signV key nonce d = ((0, 0, false), 60) by unfold signV; rw [if_pos h1, if_neg h2]]
      exact guard_step rfl (bind_step (law06IFit_val hk) (guard_else (by rw [h1]; rfl) (bind_step (law06IFit_val hn) (guard_step (by simp [h2]) rfl))))
  · rw [show signV key nonce d = ((0, 0, false), 60) by unfold signV; rw [if_neg h1]]
    exact guard_step rfl (bind_step (law06IFit_val hk) (guard_step (by simp [h1]) rfl))
end Go.Sy
