/- Plain law: every Sign is the document's. -/
import Derived.Test.YtfappeeggccicaaGreatDoorSyMs7
set_option linter.unusedVariables false
set_option linter.unusedSimpArgs false
namespace Go.Sy
open Go
section
variable {key : Nat} {d : List Int} {N : Nat → Option Nat}
def ansR (b : P3) : Option P3 → P3 ⊕ P3
 | some q => .inl q
 | none => .inr b
theorem sgnF_skip {S : Nat → P3 × Int} (hm : ∀ w, N w = none → N (w + 1) = none) : ∀ (r w : Nat), N w = none → ∀ b : Nat, sgnF N S r w = none
 | 0, w, h, _ => rfl
 | r + 1, w, h, _ => by simp only [sgnF, h]
theorem refSignL0 (hm : ∀ w, N w = none → N (w + 1) = none) (hN : ∀ w : Nat, w ≤ 63 → ref06Nonce key d (w : Int) = some (ansN (N w))) (hq : ∀ w q, N w = some q → q < M256) (hk : key < M256) (hd : Bytes d) (b4 : P3) : ∀ (r w fuel : Nat), w + r = 64 → r < fuel →
  iter (fun p : Int × Nat × List Int × (Nat × Nat × Bool) => ref06SignL0R p.1 p.2.1 p.2.2.1 p.2.2.2) fuel ((w : Int), key, d, b4) = some (ansR b4 (sgnF N (fun q => signV key q d) r w))
 | 0, w, fuel, hw, hf => by
  obtain ⟨fuel, rfl⟩ : ∃ n, fuel = n + 1 := ⟨fuel - 1, by omega⟩
  refine iter_end ?_
  show ref06SignL0R (w : Int) key d b4 = _
  unfold ref06SignL0R
  exact guard_else (decide_eq_false (by omega)) rfl
 | r + 1, w, fuel, hw, hf => by
  obtain ⟨fuel, rfl⟩ : ∃ n, fuel = n + 1 := ⟨fuel - 1, by omega⟩
  have hn := hN w (by omega)
  have e1 : IntKind.wrap .i64 ((w : Int) + 1) = ((w + 1 : Nat) : Int) := by rw [w64z _ (by omega) (by omega)]; omega
  have ih := refSignL0 hm hN hq hk hd b4 r (w + 1) fuel (by omega) (by omega)
  simp only [sgnF]
  cases hq' : N w with
  | none =>
   rw [hq'] at hn
   rw [sgnF_skip hm r (w + 1) (hm w hq') 0] at ih
   refine iter_more ?_ ih
   show ref06SignL0R (w : Int) key d b4 = _
   unfold ref06SignL0R
   rw [e1]
   exact guard_step (decide_eq_true (by omega)) (bind_step hn (guard_else rfl rfl))
  | some q =>
   rw [hq'] at hn
   have hs := ref06SignWith_val hk (hq w q hq') hd
   simp only
   by_cases h : (signV key q d).2 = 0
   ·rw [if_pos h]
    refine iter_end ?_
    show ref06SignL0R (w : Int) key d b4 = _
    unfold ref06SignL0R
    exact guard_step (decide_eq_true (by omega)) (bind_step hn (guard_step rfl (bind_step hs (guard_step (by rw [h]; rfl) rfl))))
   ·rw [if_neg h]
    refine iter_more ?_ ih
    show ref06SignL0R (w : Int) key d b4 = _
    unfold ref06SignL0R
    rw [e1]
    exact guard_step (decide_eq_true (by omega)) (bind_step hn (guard_step rfl (bind_step hs (guard_else (by simpa using h) rfl))))
theorem ref06Sign_val (hm : ∀ w, N w = none → N (w + 1) = none) (hN : ∀ w : Nat, w ≤ 63 → fitV key = true → ref06Nonce key d (w : Int) = some (ansN (N w))) (hq : ∀ w q, N w = some q → q < M256) (hk : key < M256) (hd : Bytes d) : ref06Sign key d = some (signS N key d) := by
 rw [ref06Sign_eq]
 unfold ref06SignB signS
 refine bind_step (ref06Fit_val hk) ?_
 by_cases hf : fitV key = true
 ·rw [if_pos hf]
  have h := refSignL0 hm (fun w hw => hN w hw hf) hq hk hd (0, 0, false) 64 0 1000 (by omega) (by omega)
  generalize sgnF N (fun q => signV key q d) 64 0 = F at h ⊢
  refine guard_else (by rw [hf]; rfl) (bind_step ((ref06SignL0_eq _ _ _ _).trans h) ?_)
  cases F <;> rfl
 ·rw [if_neg hf]; exact guard_step (by rw [Bool.eq_false_iff.2 hf]; rfl) rfl
theorem signS_lt (hq : ∀ w q, N w = some q → q < M256) : In256 (signS N key d).1 := by
 unfold signS
 split
 ·split
  ·rename_i q h
   obtain ⟨v, p, g1, g2⟩ := sgnF_some 64 0 q h
   have := signV_lt key p d
   rw [show signV key p d = (q, 0) from g2] at this
   exact this
  ·exact ⟨by decide, by decide⟩
 ·exact ⟨by decide, by decide⟩
end
theorem law06EcdsaSigns_true {key : Nat} {d : List Int} (hk : key < M256) (hd : Bytes d) : law06EcdsaSigns key d = some true := by
 have hq : ∀ w q, fnd (cnds key d 256) w = some q → q < M256 := fun w q h => Nat.lt_trans (fit_of (fnd_fit h)).2 ordN_M
 have hm : ∀ w, fnd (cnds key d 256) w = none → fnd (cnds key d 256) (w + 1) = none := fun w h => fnd_none h
 have h1 : ∀ w : Nat, w ≤ 63 → fitV key = true → ecdsaNonce key d (w : Int) = some (ansN (fnd (cnds key d 256) w)) := fun w hw hf => by
  rw [ecdsaNonce_val hk hd]
  unfold nonV
  rw [if_neg (by omega), if_pos hf, Int.toNat_natCast]
  generalize fnd (cnds key d 256) w = F
  cases F <;> rfl
 have h2 : ∀ w : Nat, w ≤ 63 → fitV key = true → ref06Nonce key d (w : Int) = some (ansN (fnd (cnds key d 256) w)) := fun w hw hf => by
  rw [ref06Nonce_val hk hd]
  unfold nonV
  rw [if_neg (by omega), if_pos hf, Int.toNat_natCast]
  generalize fnd (cnds key d 256) w = F
  cases F <;> rfl
 rw [law06EcdsaSigns_eq]
 unfold law06EcdsaSignsB
 have hlt := signS_lt (key := key) (d := d) hq
 generalize fnd (cnds key d 256) = F at *
 exact bind_step (ecdsaSign_val h1 hq hk hd) (bind_step (ref06Sign_val hm h2 hq hk hd) (guard_step (sameP hlt) (bind_step (law06INum_val _) (by simp))))
end Go.Sy
