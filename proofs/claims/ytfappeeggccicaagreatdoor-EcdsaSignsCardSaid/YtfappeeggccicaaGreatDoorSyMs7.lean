/- Plain law: signatures by the text's own nonces are the key's. -/
import Derived.Test.YtfappeeggccicaaGreatDoorSyMs6
import Derived.Test.YtfappeeggccicaaGreatDoorSyED
import Derived.Test.YtfappeeggccicaaGreatDoorSyVG
set_option linter.unusedVariables false
set_option linter.unusedSimpArgs false
namespace Go.Sy
open Go
theorem fnd_fit : ∀ {l : List Nat} {w q : Nat}, fnd l w = some q → fitV q = true
 | [], w, q, h => by cases h
 | a :: l, w, q, h => by
  simp only [fnd] at h
  by_cases hf : fitV a = true
  ·rw [if_pos hf] at h
   cases w with
   | zero => simp only [Option.some.injEq] at h; rw [← h]; exact hf
   | succ w => exact fnd_fit h
  ·rw [if_neg hf] at h; exact fnd_fit h
theorem fnd_none : ∀ {l : List Nat} {w : Nat}, fnd l w = none → fnd l (w + 1) = none
 | [], w, h => rfl
 | a :: l, w, h => by
  simp only [fnd] at h ⊢
  by_cases hf : fitV a = true
  ·rw [if_pos hf] at h ⊢
   cases w with
   | zero => cases h
   | succ w => exact fnd_none h
  ·rw [if_neg hf] at h ⊢; exact fnd_none h
def ansN : Option Nat → Nat × Int
 | some q => (q, 0)
 | none => (0, 65)
def sgnF (N : Nat → Option Nat) (S : Nat → P3 × Int) : Nat → Nat → Option P3
 | 0, _ => none
 | r + 1, w => match N w with
  | none => none
  | some q => if (S q).2 = 0 then some (S q).1 else sgnF N S r (w + 1)
def ansS (b : P3) : Option P3 → P3 ⊕ P3
 | some q => .inr q
 | none => .inl b
section
variable {key : Nat} {d : List Int} {N : Nat → Option Nat}
theorem signL0 (hN : ∀ w : Nat, w ≤ 63 → ecdsaNonce key d (w : Int) = some (ansN (N w))) (hq : ∀ w q, N w = some q → q < M256) (hk : key < M256) (hd : Bytes d) (b4 : P3) : ∀ (r w fuel : Nat), w + r = 64 → r < fuel →
  iter (fun p : Int × Nat × List Int × (Nat × Nat × Bool) => ecdsaSignL0R p.1 p.2.1 p.2.2.1 p.2.2.2) fuel ((w : Int), key, d, b4) = some (ansS b4 (sgnF N (fun q => signV key q d) r w))
 | 0, w, fuel, hw, hf => by
  obtain ⟨fuel, rfl⟩ : ∃ n, fuel = n + 1 := ⟨fuel - 1, by omega⟩
  refine iter_end ?_
  show ecdsaSignL0R (w : Int) key d b4 = _
  unfold ecdsaSignL0R
  exact guard_else (decide_eq_false (by omega)) rfl
 | r + 1, w, fuel, hw, hf => by
  obtain ⟨fuel, rfl⟩ : ∃ n, fuel = n + 1 := ⟨fuel - 1, by omega⟩
  have hn := hN w (by omega)
  simp only [sgnF]
  cases hq' : N w with
  | none =>
   rw [hq'] at hn
   refine iter_end ?_
   show ecdsaSignL0R (w : Int) key d b4 = _
   unfold ecdsaSignL0R
   exact guard_step (decide_eq_true (by omega)) (bind_step hn (guard_step rfl rfl))
  | some q =>
   rw [hq'] at hn
   have hs := ecdsaSignWith_val hk (hq w q hq') hd
   simp only
   by_cases h : (signV key q d).2 = 0
   ·rw [if_pos h]
    refine iter_end ?_
    show ecdsaSignL0R (w : Int) key d b4 = _
    unfold ecdsaSignL0R
    exact guard_step (decide_eq_true (by omega)) (bind_step hn (guard_else rfl (bind_step hs (guard_step (by rw [h]; rfl) rfl))))
   ·rw [if_neg h]
    refine iter_more ?_ (signL0 hN hq hk hd b4 r (w + 1) fuel (by omega) (by omega))
    show ecdsaSignL0R (w : Int) key d b4 = _
    unfold ecdsaSignL0R
    refine guard_step (decide_eq_true (by omega)) (bind_step hn (guard_else rfl (bind_step hs (guard_else (by simpa using h) ?_))))
    rw [w64z _ (by omega) (by omega)]
    rfl
def signS (N : Nat → Option Nat) (key : Nat) (d : List Int) : P3 × Int :=
 if fitV key = true then (match sgnF N (fun q => signV key q d) 64 0 with
  | some q => (q, 0)
  | none => ((0, 0, false), 65)) else ((0, 0, false), 60)
theorem ecdsaSign_val (hN : ∀ w : Nat, w ≤ 63 → fitV key = true → ecdsaNonce key d (w : Int) = some (ansN (N w))) (hq : ∀ w q, N w = some q → q < M256) (hk : key < M256) (hd : Bytes d) : ecdsaSign key d = some (signS N key d) := by
 rw [ecdsaSign_eq]
 unfold ecdsaSignB signS
 refine bind_step (ecdsaIFit_val hk) ?_
 by_cases hf : fitV key = true
 ·rw [if_pos hf]
  have h := signL0 (fun w hw => hN w hw hf) hq hk hd (0, 0, false) 64 0 1000 (by omega) (by omega)
  generalize sgnF N (fun q => signV key q d) 64 0 = F at h ⊢
  refine guard_else (by rw [hf]; rfl) (bind_step ((ecdsaSignL0_eq _ _ _ _).trans h) ?_)
  cases F <;> rfl
 ·rw [if_neg hf]; exact guard_step (by rw [Bool.eq_false_iff.2 hf]; rfl) rfl
theorem sgnF_some {S : Nat → P3 × Int} : ∀ (r w : Nat) (s : P3), sgnF N S r w = some s → ∃ v q, N v = some q ∧ S q = (s, 0)
 | 0, w, s, h => by cases h
 | r + 1, w, s, h => by
  simp only [sgnF] at h
  cases hq' : N w with
  | none => rw [hq'] at h; cases h
  | some p =>
   rw [hq'] at h
   simp only at h
   by_cases h0 : (S p).2 = 0
   ·rw [if_pos h0] at h
    simp only [Option.some.injEq] at h
    exact ⟨w, p, hq', by rw [← h, ← h0]⟩
   ·rw [if_neg h0] at h
    exact sgnF_some r (w + 1) s h
end
end Go.Sy
