/- Plain law: signatures by the text's own nonces are the key's. -/

import Derived.Test.YtfappeeggccicaaDoorSyMs6

import Derived.Test.YtfappeeggccicaaDoorSyED

import Derived.Test.YtfappeeggccicaaDoorSyVG

set_option linter.unusedVariables false

set_option linter.unusedSimpArgs false

namespace Go.Sy

open Go

theorem rec_own {key nonce : Nat} {d : List Int} {r s : Nat} {o : Bool} (h1 : fitV key = true) (h2 : fitV nonce = true) (e : signV key nonce d = ((r, s, o), 0)) : recV d (r, s, o) = (ofPt (smul key gP), 0) := by
  rcases signV_cases (d := d) h1 h2 with e' | e' | ⟨r', s', o', e', f1, f2, f3⟩
  · rw [e] at e'; exact absurd (Prod.mk.inj e').2 (by decide)
  · rw [e] at e'; exact absurd (Prod.mk.inj e').2 (by decide)
  · rw [e] at e'
    obtain ⟨g1, g2⟩ := Prod.mk.inj (Prod.mk.inj e').1
    obtain ⟨g2, g3⟩ := Prod.mk.inj g2
    subst g1; subst g2; subst g3
    obtain ⟨R, hR, hRn, l1, l2, hk2⟩ := sign_pt h1 h2 e
    obtain ⟨k0, kl⟩ := fit_of h1
    obtain ⟨r0, rl⟩ := fit_of f1
    have hc : checkV (r, s, o) = 0 := check_of f1 f2 f3
    have hQ : PtOk (smul key gP) := smul_ok gP_ok key
    have hQn : smul key gP ≠ none := smul_ne (Nat.pos_of_ne_zero k0) kl
    have hkey : keyP (numV d) r s R = smul key gP := by
      have hK : PtOk (keyP (numV d) r s R) := keyP_ok hR
      have c := padd_cancel (smul_ok gP_ok _) (smul_ok hK _) (smul_ok hQ _) ((rec_left (e := numV d) (s := s) hR r0 rl).trans hk2.symm)
      rw [← smul_back hK r0 rl, c, smul_back hQ r0 rl]
    rw [recV_pt (s := (r, s, o)) hR hc l1]
    show (if keyP (numV d) r s R = none then _ else (ofPt (keyP (numV d) r s R), 0)) = _
    rw [hkey, if_neg hQn]

theorem fnd_fit : ∀ {l : List Nat} {w q : Nat}, fnd l w = some q → fitV q = true
  | [], w, q, h => by cases h
  | a :: l, w, q, h => by
    simp only [fnd] at h
    by_cases hf : fitV a = true
    · rw [if_pos hf] at h
      cases w with
      | zero => simp only [Option.some.injEq] at h; rw [← h]; exact hf
      | succ w => exact fnd_fit h
    · rw [if_neg hf] at h; exact fnd_fit h

theorem fnd_none : ∀ {l : List Nat} {w : Nat}, fnd l w = none → fnd l (w + 1) = none
  | [], w, h => rfl
  | a :: l, w, h => by
    simp only [fnd] at h ⊢
    by_cases hf : fitV a = true
    · rw [if_pos hf] at h ⊢
      cases w with
      | zero => cases h
      | succ w => exact fnd_none h
    · rw [if_neg hf] at h ⊢; exact fnd_none h

/-- What a nonce's search answers. -/
def ansN : Option Nat → Nat × Int
  | some q => (q, 0)
  | none => (0, 65)

/-- The first signature, from the w-th nonce on. -/
def sgnF (N : Nat → Option Nat) (S : Nat → P3 × Int) : Nat → Nat → Option P3
  | 0, _ => none
  | r + 1, w => match N w with
    | none => none
    | some q => if (S q).2 = 0 then some (S q).1 else sgnF N S r (w + 1)

def ansS (b : P3) : Option P3 → P3 ⊕ P3
  | some q => .inr q
  | none => .inl b

section

variable {key : Nat} {d : List Int} {N : Nat → Option Nat}

theorem signL0 (hN : ∀ w : Nat, w ≤ 63 → ecdsaNonce key d (w : Int) = some (ansN (N w))) (hq : ∀ w q, N w = some q → q < M256) (hk : key < M256) (hd : Bytes d) (b4 : P3) : ∀ (r w fuel : Nat), w + r = 64 → r < fuel →
    iter (fun p : Int × Nat × List Int × (Nat × Nat × Bool) => ecdsaSignL0R p.1 p.2.1 p.2.2.1 p.2.2.2) fuel ((w : Int), key, d, b4) = some (ansS b4 (sgnF N (fun q => signV key q d) r w))
  | 0, w, fuel, hw, hf => by
    obtain ⟨fuel, rfl⟩ : ∃ n, fuel = n + 1 := ⟨fuel - 1, by omega⟩
    refine iter_end ?_
    show ecdsaSignL0R (w : Int) key d b4 = _
    unfold ecdsaSignL0R
    exact guard_else (decide_eq_false (by omega)) rfl
  | r + 1, w, fuel, hw, hf => by
    obtain ⟨fuel, rfl⟩ : ∃ n, fuel = n + 1 := ⟨fuel - 1, by omega⟩
    have hn := hN w (by omega)
    simp only [sgnF]
    cases hq' : N w with
    | none =>
      rw [hq'] at hn
      refine iter_end ?_
      show ecdsaSignL0R (w : Int) key d b4 = _
      unfold ecdsaSignL0R
      exact guard_step (decide_eq_true (by omega)) (bind_step hn (guard_step rfl rfl))
    | some q =>
      rw [hq'] at hn
      have hs := ecdsaSignWith_val hk (hq w q hq') hd
      simp only
      by_cases h : (signV key q d).2 = 0
      · rw [if_pos h]
        refine iter_end ?_
        show ecdsaSignL0R (w : Int) key d b4 = _
        unfold ecdsaSignL0R
        exact guard_step (decide_eq_true (by omega)) (bind_step hn (guard_else rfl (bind_step hs (guard_step (by rw [h]; rfl) rfl))))
      · rw [if_neg h]
        refine iter_more ?_ (signL0 hN hq hk hd b4 r (w + 1) fuel (by omega) (by omega))
        show ecdsaSignL0R (w : Int) key d b4 = _
        unfold ecdsaSignL0R
        refine guard_step (decide_eq_true (by omega)) (bind_step hn (guard_else rfl (bind_step hs (guard_else (by simpa using h) ?_))))
        rw [w64z _ (by omega) (by omega)]
        rfl

/-- What Sign answers. -/
def signS (N : Nat → Option Nat) (key : Nat) (d : List Int) : P3 × Int :=
  if fitV key = true then (match sgnF N (fun q => signV key q d) 64 0 with
    | some q => (q, 0)
    | none => ((0, 0, false), 65)) else ((0, 0, false), 60)

theorem ecdsaSign_val (hN : ∀ w : Nat, w ≤ 63 → fitV key = true → ecdsaNonce key d (w : Int) = some (ansN (N w))) (hq : ∀ w q, N w = some q → q < M256) (hk : key < M256) (hd : Bytes d) : ecdsaSign key d = some (signS N key d) := by
  rw [ecdsaSign_eq]
  unfold ecdsaSignB signS
  refine bind_step (ecdsaIFit_val hk) ?_
  by_cases hf : fitV key = true
  · rw [if_pos hf]
    have h := signL0 (fun w hw => hN w hw hf) hq hk hd (0, 0, false) 64 0 1000 (by omega) (by omega)
    generalize sgnF N (fun q => signV key q d) 64 0 = F at h ⊢
    refine guard_else (by rw [hf]; rfl) (bind_step ((ecdsaSignL0_eq _ _ _ _).trans h) ?_)
    cases F <;> rfl
  · rw [if_neg hf]; exact guard_step (by rw [Bool.eq_false_iff.2 hf]; rfl) rfl

/-- None of them signs. -/
def noSig (N : Nat → Option Nat) (S : Nat → P3 × Int) (w : Nat) : Prop := ∀ v q, w ≤ v → N v = some q → (S q).2 ≠ 0

theorem genL0_none (hN : ∀ w : Nat, w ≤ 63 → ecdsaNonce key d (w : Int) = some (ansN (N w))) (hq : ∀ w q, N w = some q → q < M256) (hk : key < M256) (hd : Bytes d) (e : Int) (s : P3) : ∀ (r w fuel : Nat), w + r = 64 → r < fuel → noSig N (fun q => signV key q d) w →
    iter (fun p : Int × Int × Nat × List Int × (Nat × Nat × Bool) => law06EcdsaGenuineL0R p.1 p.2.1 p.2.2.1 p.2.2.2.1 p.2.2.2.2) fuel (e, (w : Int), key, d, s) = some (.inr e)
  | 0, w, fuel, hw, hf, hs => by
    obtain ⟨fuel, rfl⟩ : ∃ n, fuel = n + 1 := ⟨fuel - 1, by omega⟩
    refine iter_end ?_
    show law06EcdsaGenuineL0R e (w : Int) key d s = _
    unfold law06EcdsaGenuineL0R
    exact guard_else (decide_eq_false (by omega)) rfl
  | r + 1, w, fuel, hw, hf, hs => by
    obtain ⟨fuel, rfl⟩ : ∃ n, fuel = n + 1 := ⟨fuel - 1, by omega⟩
    have hn := hN w (by omega)
    refine iter_more ?_ (genL0_none hN hq hk hd e s r (w + 1) fuel (by omega) (by omega) fun v q h1 h2 => hs v q (by omega) h2)
    show law06EcdsaGenuineL0R e (w : Int) key d s = _
    unfold law06EcdsaGenuineL0R
    have e1 : IntKind.wrap .i64 ((w : Int) + 1) = ((w + 1 : Nat) : Int) := by rw [w64z _ (by omega) (by omega)]; omega
    rw [e1]
    cases hq' : N w with
    | none =>
      rw [hq'] at hn
      exact guard_step (decide_eq_true (by omega)) (bind_step hn (guard_step rfl rfl))
    | some q =>
      rw [hq'] at hn
      have h := hs w q (Nat.le_refl _) hq'
      exact guard_step (decide_eq_true (by omega)) (bind_step hn (guard_else rfl (bind_step (ecdsaSignWith_val hk (hq w q hq') hd) (guard_else (by simpa [ansN] using h) rfl))))

theorem genL0_some (hN : ∀ w : Nat, w ≤ 63 → ecdsaNonce key d (w : Int) = some (ansN (N w))) (hq : ∀ w q, N w = some q → q < M256) (hk : key < M256) (hd : Bytes d) (s : P3) (hS : ecdsaSign key d = some (s, 0)) (hs : In256 s) (hr : recV d s = (ofPt (smul key gP), 0)) : ∀ (r w fuel : Nat), w + r = 64 → r < fuel → sgnF N (fun q => signV key q d) r w = some s →
    iter (fun p : Int × Int × Nat × List Int × (Nat × Nat × Bool) => law06EcdsaGenuineL0R p.1 p.2.1 p.2.2.1 p.2.2.2.1 p.2.2.2.2) fuel (0, (w : Int), key, d, s) = some (.inl true)
  | 0, w, fuel, hw, hf, h => by cases h
  | r + 1, w, fuel, hw, hf, h => by
    obtain ⟨fuel, rfl⟩ : ∃ n, fuel = n + 1 := ⟨fuel - 1, by omega⟩
    have hn := hN w (by omega)
    simp only [sgnF] at h
    cases hq' : N w with
    | none => rw [hq'] at h; cases h
    | some q =>
      rw [hq'] at h hn
      simp only at h
      have hw' := ecdsaSignWith_val hk (hq w q hq') hd
      by_cases h0 : (signV key q d).2 = 0
      · rw [if_pos h0] at h
        simp only [Option.some.injEq] at h
        have hv : signV key q d = (s, 0) := by rw [← h, ← h0]
        rw [hv] at hw'
        refine iter_end ?_
        show law06EcdsaGenuineL0R 0 (w : Int) key d s = _
        unfold law06EcdsaGenuineL0R
        exact guard_step (decide_eq_true (by omega)) (bind_step hn (guard_else rfl (bind_step hw' (guard_step rfl (bind_step ((ecdsaRecover_val hd hs).trans (congrArg some hr)) (bind_step hS (guard_step rfl (guard_step rfl (guard_step (sameP hs) (guard_step (sameP hs) (guard_step rfl (bind_step (curveMulG_val hk) (congrArg (fun b => some (Sum.inr (Sum.inl b))) (sameP (ofPt_lt _)))))))))))))))
      · rw [if_neg h0] at h
        refine iter_more ?_ (genL0_some hN hq hk hd s hS hs hr r (w + 1) fuel (by omega) (by omega) h)
        show law06EcdsaGenuineL0R 0 (w : Int) key d s = _
        unfold law06EcdsaGenuineL0R
        have e1 : IntKind.wrap .i64 ((w : Int) + 1) = ((w + 1 : Nat) : Int) := by rw [w64z _ (by omega) (by omega)]; omega
        rw [e1]
        exact guard_step (decide_eq_true (by omega)) (bind_step hn (guard_else rfl (bind_step hw' (guard_else (by simpa using h0) rfl))))

theorem sgnF_none {S : Nat → P3 × Int} (hm : ∀ w, N w = none → N (w + 1) = none) : ∀ (r w : Nat), sgnF N S r w = none → ∀ v q, w ≤ v → v < w + r → N v = some q → (S q).2 ≠ 0
  | 0, w, h, v, q, h1, h2, h3 => by omega
  | r + 1, w, h, v, q, h1, h2, h3 => by
    simp only [sgnF] at h
    cases hq' : N w with
    | none =>
      have : ∀ k, N (w + k) = none := fun k => by
        induction k with
        | zero => exact hq'
        | succ k ih => exact hm _ ih
      obtain ⟨k, rfl⟩ := Nat.exists_eq_add_of_le h1
      rw [this k] at h3; cases h3
    | some p =>
      rw [hq'] at h
      simp only at h
      by_cases h0 : (S p).2 = 0
      · rw [if_pos h0] at h; cases h
      · rw [if_neg h0] at h
        rcases Nat.lt_or_ge w v with h' | h'
        · exact sgnF_none hm r (w + 1) h v q (by omega) (by omega) h3
        · have : v = w := by omega
          subst this
          rw [hq'] at h3; cases h3
          exact h0

theorem sgnF_some {S : Nat → P3 × Int} : ∀ (r w : Nat) (s : P3), sgnF N S r w = some s → ∃ v q, N v = some q ∧ S q = (s, 0)
  | 0, w, s, h => by cases h
  | r + 1, w, s, h => by
    simp only [sgnF] at h
    cases hq' : N w with
    | none => rw [hq'] at h; cases h
    | some p =>
      rw [hq'] at h
      simp only at h
      by_cases h0 : (S p).2 = 0
      · rw [if_pos h0] at h
        simp only [Option.some.injEq] at h
        exact ⟨w, p, hq', by rw [← h, ← h0]⟩
      · rw [if_neg h0] at h
        exact sgnF_some r (w + 1) s h

theorem genuine_of (hN : ∀ w : Nat, w ≤ 63 → fitV key = true → ecdsaNonce key d (w : Int) = some (ansN (N w))) (hq : ∀ w q, N w = some q → fitV q = true) (hm : ∀ w, N w = none → N (w + 1) = none) (hk : key < M256) (hd : Bytes d) : law06EcdsaGenuine key d = some true := by
  have hqM : ∀ w q, N w = some q → q < M256 := fun w q h => Nat.lt_trans (fit_of (hq w q h)).2 ordN_M
  have hS := ecdsaSign_val hN hqM hk hd
  rw [law06EcdsaGenuine_eq]
  unfold law06EcdsaGenuineB
  refine bind_step hS (bind_step (law06IFit_val hk) ?_)
  unfold signS at hS ⊢
  by_cases hf : fitV key = true
  · rw [if_pos hf] at hS ⊢
    have hN' := fun w hw => hN w hw hf
    refine guard_else (by rw [hf]; rfl) ?_
    cases hF : sgnF N (fun q => signV key q d) 64 0 with
    | some s =>
      rw [hF] at hS
      obtain ⟨v, q, g1, g2⟩ := sgnF_some 64 0 s hF
      obtain ⟨r', s', o'⟩ := s
      have hrec := rec_own hf (hq v q g1) g2
      have hlt : In256 (r', s', o') := by have := signV_lt key q d; rw [show signV key q d = ((r', s', o'), 0) from g2] at this; exact this
      have h := genL0_some hN' hqM hk hd (r', s', o') hS hlt hrec 64 0 1000 (by omega) (by omega) hF
      exact bind_step ((law06EcdsaGenuineL0_eq _ _ _ _ _).trans h) rfl
    | none =>
      have hno := sgnF_none hm 64 0 hF
      have h := genL0_none (N := fun w => if w < 64 then N w else none) (fun w hw => by rw [if_pos (show w < 64 by omega)]; exact hN' w hw) (fun w q h => by
        by_cases hw : w < 64
        · rw [if_pos hw] at h; exact hqM w q h
        · rw [if_neg hw] at h; cases h) hk hd 65 (0, 0, false) 64 0 1000 (by omega) (by omega) (fun v q h1 h2 => by
        by_cases hw : v < 64
        · simp only [if_pos hw] at h2; exact hno v q (Nat.zero_le _) (by omega) h2
        · simp only [if_neg hw] at h2; cases h2)
      exact bind_step ((law06EcdsaGenuineL0_eq _ _ _ _ _).trans h) rfl
  · rw [if_neg hf]
    exact guard_step (by rw [Bool.eq_false_iff.2 hf]; rfl) (guard_step rfl (some_true zz0))

end

theorem law06EcdsaGenuine_true {key : Nat} {d : List Int} (hk : key < M256) (hd : Bytes d) : law06EcdsaGenuine key d = some true := by
  refine genuine_of (N := fun w => fnd (cnds key d 256) w) (fun w hw hf => ?_) (fun w q h => fnd_fit h) (fun w h => fnd_none h) hk hd
  rw [ecdsaNonce_val hk hd]
  unfold nonV
  rw [if_neg (by omega), if_pos hf, Int.toNat_natCast]
  generalize fnd (cnds key d 256) w = F
  cases F <;> rfl

end Go.Sy
