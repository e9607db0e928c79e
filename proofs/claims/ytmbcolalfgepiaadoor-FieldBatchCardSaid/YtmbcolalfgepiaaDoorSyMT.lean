/- Lists of inverses; the law of the batch. -/
import Derived.Test.YtmbcolalfgepiaaDoorSyMS
set_option linter.unusedVariables false
set_option linter.unusedSimpArgs false
namespace Go.Sy
open Go

theorem sum_left {α β ρ : Type} {x : α} {f : α → Option ρ} {g : β → Option ρ} {r : Option ρ} (k : f x = r) : sumK (.inl x) f g = r := k
theorem sum_right {α β ρ : Type} {x : β} {f : α → Option ρ} {g : β → Option ρ} {r : Option ρ} (k : g x = r) : sumK (.inr x) f g = r := k

/-- The inverse. -/
def invM (k : Int) (x : Nat) : Nat := x ^ (modK k - 2) % modK k
/-- The product of the first numbers. -/
def preM (k : Int) (l : List Nat) : Nat → Nat
  | 0 => 1
  | i + 1 => preM k l i * l.getD i 0 % modK k

theorem invM_lt (k : Int) (x : Nat) : invM k x < M256 := mod_lt256 k _
theorem invM_mul (k : Int) {x : Nat} (h : x % modK k ≠ 0) : x * invM k x % modK k = 1 := inv_mul k h
theorem preM_lt (k : Int) (l : List Nat) (i : Nat) : preM k l i < modK k := by
  cases i with
  | zero => exact one_lt_modK k
  | succ i => exact Nat.mod_lt _ (modK_pos k)
theorem preM_256 (k : Int) (l : List Nat) (i : Nat) : preM k l i < M256 := Nat.lt_trans (preM_lt k l i) (modK_lt k)

theorem inv_uniq {m a b x : Nat} (ha : a < m) (hb : b < m) (h1 : x * a % m = 1) (h2 : x * b % m = 1) : a = b := by
  have e1 : a * (x * b) % m = a := by
    rw [Nat.mul_mod, h2, Nat.mul_one, Nat.mod_mod, Nat.mod_eq_of_lt ha]
  have e2 : a * (x * b) % m = b := by
    rw [show a * (x * b) = x * a * b by rw [Nat.mul_left_comm, ← Nat.mul_assoc], Nat.mul_mod, h1, Nat.one_mul, Nat.mod_mod, Nat.mod_eq_of_lt hb]
  exact e1.symm.trans e2

theorem preM_ne (k : Int) {l : List Nat} : ∀ {n : Nat}, (∀ j, j < n → l.getD j 0 % modK k ≠ 0) → preM k l n % modK k ≠ 0
  | 0, _ => by simp only [preM]; rw [Nat.mod_eq_of_lt (one_lt_modK k)]; decide
  | n + 1, h => by
    simp only [preM]
    rw [Nat.mod_mod]
    intro h0
    rcases (prime_modK k).euclid (Nat.dvd_of_mod_eq_zero h0) with h1 | h1
    · exact preM_ne k (fun j hj => h j (by omega)) (Nat.mod_eq_zero_of_dvd h1)
    · exact h n (by omega) (Nat.mod_eq_zero_of_dvd h1)

theorem getD_set' {b : List Nat} {i j a : Nat} : (b.set i a).getD j 0 = if i = j then (if i < b.length then a else 0) else b.getD j 0 := by
  simp only [List.getD_eq_getElem?_getD, List.getElem?_set]
  split
  · subst_vars
    split <;> simp
  · rfl

theorem ext_getD {a b : List Nat} (h : a.length = b.length) (g : ∀ j, j < a.length → a.getD j 0 = b.getD j 0) : a = b := by
  refine List.ext_getElem h fun i h1 h2 => ?_
  have := g i h1
  simpa [List.getD_eq_getElem?_getD, h1, h2] using this

theorem blt_of {a b : Nat} (h : a < b) : Nat.blt a b = true := by simpa using h

/-! ### The loops -/

theorem invR0 (k : Int) {l b : List Nat} {i a : Nat} (hi : i < l.length) (hb : b.length = l.length) (hn : l.length ≤ 65536) (hl : ∀ i, l.getD i 0 < M256) (ha : a < M256) :
    fieldInversesL0R l l (l.length : Int) (i : Int) (modK k, restK k) a b = if l.getD i 0 % modK k = 0 then some (.inr (.inl ())) else some (.inl (l, l, (l.length : Int), ((i + 1 : Nat) : Int), (modK k, restK k), a * l.getD i 0 % modK k, b.set i a)) := by
  unfold fieldInversesL0R
  have e : Int.toNat (i : Int) = i := rfl
  rw [e]
  refine guard_step (decide_eq_true (by omega)) (guard_step (by simp) (guard_step (blt_of hi) (bind_step (fOne_val k (hl i)) ?_)))
  by_cases h : l.getD i 0 % modK k = 0
  · rw [if_pos h, h]; exact guard_step (by rw [u256eq_self]) rfl
  · rw [if_neg h]
    refine guard_else (by rw [u256eq0 (mod_lt256 k _)]; exact decide_eq_false h) (guard_step (by simp) (guard_step (blt_of (hb ▸ hi)) (guard_step (blt_of (hb ▸ hi)) (bind_step (fMul_val k ha (hl i)) ?_))))
    rw [wI64z _ (by omega) (by omega)]; rfl

theorem invL0 (k : Int) {l : List Nat} (hn : l.length ≤ 65536) (hl : ∀ i, l.getD i 0 < M256) : ∀ (r i fuel : Nat) (b : List Nat), i + r = l.length → r < fuel → b.length = l.length → (∀ j, j < i → b.getD j 0 = preM k l j) → (∀ j, j < i → l.getD j 0 % modK k ≠ 0) →
    ∃ q, iter (fun p : List Nat × List Nat × Int × Int × (Nat × Nat) × Nat × List Nat => fieldInversesL0R p.1 p.2.1 p.2.2.1 p.2.2.2.1 p.2.2.2.2.1 p.2.2.2.2.2.1 p.2.2.2.2.2.2) fuel (l, l, (l.length : Int), (i : Int), (modK k, restK k), preM k l i, b) = some q ∧
      ((q = .inl () ∧ ∃ j, j < l.length ∧ l.getD j 0 % modK k = 0) ∨ ∃ b' : List Nat, q = .inr (l, (modK k, restK k), preM k l l.length, b') ∧ b'.length = l.length ∧ (∀ j, j < l.length → b'.getD j 0 = preM k l j) ∧ ∀ j, j < l.length → l.getD j 0 % modK k ≠ 0)
  | 0, i, fuel, b, hi, hf, hb, h1, h2 => by
    obtain ⟨fuel, rfl⟩ : ∃ n, fuel = n + 1 := ⟨fuel - 1, by omega⟩
    have : i = l.length := by omega
    subst this
    refine ⟨_, iter_end ?_, .inr ⟨b, rfl, hb, h1, h2⟩⟩
    show fieldInversesL0R l l (l.length : Int) (l.length : Int) (modK k, restK k) (preM k l l.length) b = _
    unfold fieldInversesL0R
    exact guard_else (decide_eq_false (by omega)) rfl
  | r + 1, i, fuel, b, hi, hf, hb, h1, h2 => by
    obtain ⟨fuel, rfl⟩ : ∃ n, fuel = n + 1 := ⟨fuel - 1, by omega⟩
    have hil : i < l.length := by omega
    have hr := invR0 k hil hb hn hl (preM_256 k l i)
    by_cases h : l.getD i 0 % modK k = 0
    · rw [if_pos h] at hr
      exact ⟨_, iter_end hr, .inl ⟨rfl, i, hil, h⟩⟩
    · rw [if_neg h] at hr
      obtain ⟨q, g1, g2⟩ := invL0 k hn hl r (i + 1) fuel (b.set i (preM k l i)) (by omega) (by omega) (by simpa using hb) (fun j hj => by
        rw [getD_set']
        by_cases e : i = j
        · subst e; rw [if_pos rfl, if_pos (by omega)]
        · rw [if_neg e]; exact h1 j (by omega)) (fun j hj => by
        by_cases e : j = i
        · subst e; exact h
        · exact h2 j (by omega))
      exact ⟨q, iter_more hr g1, g2⟩

theorem invL1 (k : Int) {l : List Nat} (hn : l.length ≤ 65536) (hl : ∀ i, l.getD i 0 < M256) (hz : ∀ j, j < l.length → l.getD j 0 % modK k ≠ 0) : ∀ (i fuel all : Nat) (b : List Nat), i ≤ l.length → i < fuel → all < M256 → all * preM k l i % modK k = 1 → b.length = l.length →
    (∀ j, j < i → b.getD j 0 = preM k l j) → (∀ j, i ≤ j → j < l.length → b.getD j 0 = invM k (l.getD j 0)) →
    ∃ b' : List Nat, iter (fun p : List Nat × Int × (Nat × Nat) × Nat × List Nat => fieldInversesL1R p.1 p.2.1 p.2.2.1 p.2.2.2.1 p.2.2.2.2) fuel (l, (i : Int) - 1, (modK k, restK k), all, b) = some b' ∧ b'.length = l.length ∧ ∀ j, j < l.length → b'.getD j 0 = invM k (l.getD j 0)
  | 0, fuel, all, b, hi, hf, ha, h1, hb, h2, h3 => by
    obtain ⟨fuel, rfl⟩ : ∃ n, fuel = n + 1 := ⟨fuel - 1, by omega⟩
    refine ⟨b, iter_end ?_, hb, fun j hj => h3 j (by omega) hj⟩
    show fieldInversesL1R l (((0 : Nat) : Int) - 1) (modK k, restK k) all b = _
    unfold fieldInversesL1R
    exact guard_else (by decide) rfl
  | i + 1, fuel, all, b, hi, hf, ha, h1, hb, h2, h3 => by
    obtain ⟨fuel, rfl⟩ : ∃ n, fuel = n + 1 := ⟨fuel - 1, by omega⟩
    have e0 : (((i + 1 : Nat) : Int) - 1) = (i : Int) := by omega
    rw [e0]
    have hil : i < l.length := by omega
    have hbi : b.getD i 0 = preM k l i := h2 i (by omega)
    have hbl : Nat.blt i b.length = true := blt_of (by omega)
    have hround : fieldInversesL1R l (i : Int) (modK k, restK k) all b = some (.inl (l, (i : Int) - 1, (modK k, restK k), all * l.getD i 0 % modK k, b.set i (preM k l i * all % modK k))) := by
      unfold fieldInversesL1R
      have e : Int.toNat (i : Int) = i := rfl
      rw [e, hbi]
      refine guard_step (by simp) (guard_step (by simp) (guard_step hbl (guard_step hbl (bind_step (fMul_val k (preM_256 k l i) ha) (guard_step (by simp) (guard_step hbl (guard_step hbl (guard_step (by simp) (guard_step (blt_of hil) (bind_step (fMul_val k ha (hl i)) ?_))))))))))
      rw [wI64z _ (by omega) (by omega)]
    have hm := one_lt_modK k
    have hinv : preM k l i * all % modK k = invM k (l.getD i 0) := by
      refine inv_uniq (x := l.getD i 0) (Nat.mod_lt _ (modK_pos k)) (Nat.mod_lt _ (modK_pos k)) ?_ (invM_mul k (hz i hil))
      rw [Nat.mul_mod_mod]
      simp only [preM] at h1
      rw [Nat.mul_mod_mod] at h1
      rw [← h1]
      congr 1
      ac_rfl
    obtain ⟨b', g1, g2, g3⟩ := invL1 k hn hl hz i fuel (all * l.getD i 0 % modK k) (b.set i (preM k l i * all % modK k)) (by omega) (by omega) (mod_lt256 k _) (by
      rw [Nat.mod_mul_mod]
      simp only [preM] at h1
      rw [Nat.mul_mod_mod] at h1
      rw [← h1]
      congr 1
      ac_rfl) (by simpa using hb) (fun j hj => by
        rw [getD_set', if_neg (by omega)]; exact h2 j (by omega)) (fun j hj hj2 => by
        rw [getD_set']
        by_cases e : i = j
        · subst e; rw [if_pos rfl, if_pos (by omega)]; exact hinv
        · rw [if_neg e]; exact h3 j (by omega) hj2)
    exact ⟨b', iter_more hround g1, g2, g3⟩

/-! ### What the call answers -/

def invsV (k : Int) (l : List Nat) : Int × List Nat :=
  if k = 0 ∨ k = 1 then (if 65536 < l.length then (2, []) else if ∀ j, j < l.length → l.getD j 0 % modK k ≠ 0 then (0, l.map (invM k)) else (40, [])) else (1, [])

theorem getD_map (f : Nat → Nat) {l : List Nat} {j : Nat} (h : j < l.length) : (l.map f).getD j 0 = f (l.getD j 0) := by
  simp [List.getD_eq_getElem?_getD, h]

theorem fieldInverses_val (k : Int) {l : List Nat} (hl : ∀ i, l.getD i 0 < M256) : fieldInverses k l = some (invsV k l) := by
  have hbig := bigFuel_eq
  rw [fieldInverses_eq]
  unfold fieldInversesB invsV
  by_cases hk : k = 0 ∨ k = 1
  · rw [if_pos hk]
    refine bind_step (fieldIOf_good hk) (guard_else rfl ?_)
    by_cases hn : 65536 < l.length
    · rw [if_pos hn]; exact guard_step (decide_eq_true (by omega)) rfl
    · rw [if_neg hn]
      have e : Int.toNat (l.length : Int) = l.length := rfl
      rw [e]
      have hroom : roomB 32 l.length = true := by
        simp only [roomB, Bool.and_eq_true]
        exact ⟨Nat.ble_eq_true_of_le (by omega), Nat.ble_eq_true_of_le (by omega)⟩
      refine guard_else (decide_eq_false (by omega)) (guard_step (by simp) (guard_step (by simp) (guard_step hroom (bind_step (u256From_val (c := 1) (by omega)) ?_))))
      obtain ⟨q, g1, g2⟩ := invL0 k (by omega) hl l.length 0 bigFuel (List.replicate l.length 0) (by omega) (by omega) (by simp) (fun j hj => absurd hj (Nat.not_lt_zero j)) (fun j hj => absurd hj (Nat.not_lt_zero j))
      refine bind_step ((fieldInversesL0_eq _ _ _ _ _ _ _).trans g1) ?_
      rcases g2 with ⟨rfl, j, hj, hj0⟩ | ⟨b, rfl, h1, h2, h3⟩
      · rw [if_neg (fun h => h j hj hj0)]; rfl
      · rw [if_pos h3]
        refine sum_right (bind_step (fInverse_val k (preM_256 k l l.length)) ?_)
        obtain ⟨b', k1, k2, k3⟩ := invL1 k (by omega) hl h3 l.length bigFuel (invM k (preM k l l.length)) b (Nat.le_refl _) (by omega) (invM_lt k _) (by
          rw [Nat.mul_comm]; exact invM_mul k (preM_ne k h3)) h1 h2 (fun j h5 h6 => absurd h6 (by omega))
        have hw : IntKind.wrap .i64 (((l.length : Nat) : Int) - (1 : Int)) = (l.length : Int) - 1 := wI64z _ (by omega) (by omega)
        have k4 : fieldInversesL1 l (IntKind.wrap .i64 (((l.length : Nat) : Int) - (1 : Int))) (modK k, restK k) (invM k (preM k l l.length)) b = some b' := by
          rw [hw]; exact (fieldInversesL1_eq _ _ _ _ _).trans k1
        refine bind_step k4 ?_
        have : b' = l.map (invM k) := ext_getD (by simp [k2]) fun j hj => by rw [k3 j (by omega), getD_map _ (by omega)]
        rw [this]
  · rw [if_neg hk]; exact bind_step (fieldIOf_bad hk) (guard_step rfl rfl)

theorem sameLoop {a b : List Nat} (hab : a.length = b.length) (hn : a.length < 1152921504606846976) (ha : ∀ i, a.getD i 0 < M256) (hb : ∀ i, b.getD i 0 < M256) : ∀ (r i fuel : Nat), i + r = a.length → r < fuel → (∀ j, j < i → a.getD j 0 = b.getD j 0) →
    iter (fun p : List Nat × List Nat × Int => law04ISameL0R p.1 p.2.1 p.2.2) fuel (a, b, (i : Int)) = some (if a = b then .inr () else .inl ())
  | 0, i, fuel, hi, hf, h => by
    obtain ⟨fuel, rfl⟩ : ∃ n, fuel = n + 1 := ⟨fuel - 1, by omega⟩
    rw [if_pos (ext_getD hab fun j hj => h j (by omega))]
    refine iter_end ?_
    show law04ISameL0R a b (i : Int) = _
    unfold law04ISameL0R
    exact guard_else (decide_eq_false (by omega)) rfl
  | r + 1, i, fuel, hi, hf, h => by
    obtain ⟨fuel, rfl⟩ : ∃ n, fuel = n + 1 := ⟨fuel - 1, by omega⟩
    have e : Int.toNat (i : Int) = i := rfl
    by_cases hab' : a.getD i 0 = b.getD i 0
    · refine iter_more (b := (a, b, ((i + 1 : Nat) : Int))) ?_ (sameLoop hab hn ha hb r (i + 1) fuel (by omega) (by omega) fun j hj => by
        by_cases e : j = i
        · subst e; exact hab'
        · exact h j (by omega))
      show law04ISameL0R a b (i : Int) = _
      unfold law04ISameL0R
      rw [e, hab']
      refine guard_step (decide_eq_true (by omega)) (guard_step (by simp) (guard_step (blt_of (by omega)) (guard_step (by simp) (guard_step (blt_of (by omega)) (guard_else (ne_no rfl) ?_)))))
      rw [wI64z _ (by omega) (by omega)]; rfl
    · rw [if_neg (fun h => hab' (by rw [h]))]
      refine iter_end ?_
      show law04ISameL0R a b (i : Int) = _
      unfold law04ISameL0R
      rw [e]
      exact guard_step (decide_eq_true (by omega)) (guard_step (by simp) (guard_step (blt_of (by omega)) (guard_step (by simp) (guard_step (blt_of (by omega)) (guard_step (by rw [u256eq_val (ha i) (hb i), decide_eq_false hab']; rfl) rfl)))))

theorem law04ISame_val {a b : List Nat} (hn : a.length < 1152921504606846976) (hn2 : b.length < 1152921504606846976) (ha : ∀ i, a.getD i 0 < M256) (hb : ∀ i, b.getD i 0 < M256) : law04ISame a b = some (decide (a = b)) := by
  have hbig := bigFuel_eq
  rw [law04ISame_eq]
  unfold law04ISameB
  by_cases h : a.length = b.length
  · refine guard_else (by simp [h]) (bind_step ((law04ISameL0_eq _ _ _).trans (sameLoop h hn ha hb a.length 0 bigFuel (by omega) (by omega) fun j hj => absurd hj (Nat.not_lt_zero j))) ?_)
    by_cases e : a = b
    · rw [if_pos e, decide_eq_true e]; rfl
    · rw [if_neg e, decide_eq_false e]; rfl
  · refine guard_step ?_ ?_
    · simp; omega
    · rw [decide_eq_false (fun e => h (by rw [e]))]

/-! ### The law -/

theorem take_snoc {l : List Nat} {i : Nat} (h : i < l.length) : l.take (i + 1) = l.take i ++ [l.getD i 0] := by
  rw [List.take_add_one]
  simp [List.getD_eq_getElem?_getD, h]

theorem getD_reverse {l : List Nat} {i : Nat} (h : i < l.length) : l.reverse.getD i 0 = l.getD (l.length - 1 - i) 0 := by
  simp only [List.getD_eq_getElem?_getD]
  rw [List.getElem?_reverse h]

theorem all_getD_map (k : Int) (l : List Nat) (i : Nat) : (l.map (invM k)).getD i 0 < M256 := by
  by_cases h : i < l.length
  · rw [getD_map _ h]; exact invM_lt k _
  · rw [List.getD_eq_getElem?_getD, List.getElem?_eq_none (by simp; omega)]; decide

theorem getD_rev_lt {l : List Nat} (hl : ∀ i, l.getD i 0 < M256) (i : Nat) : l.reverse.getD i 0 < M256 := by
  by_cases h : i < l.length
  · rw [getD_reverse h]; exact hl _
  · rw [List.getD_eq_getElem?_getD, List.getElem?_eq_none (by simp; omega)]; decide

theorem batchL0 {k : Int} (hk : k = 0 ∨ k = 1) {l : List Nat} (hn : l.length ≤ 65536) (hl : ∀ i, l.getD i 0 < M256) : ∀ (r i fuel : Nat), i + r = l.length → r < fuel → (∀ j, j < i → l.getD j 0 % modK k ≠ 0) →
    ∃ q, iter (fun p : List Nat × Int × Int × List Nat × List Nat => law04FieldBatchL0R p.1 p.2.1 p.2.2.1 p.2.2.2.1 p.2.2.2.2) fuel (l, k, (i : Int), (l.take i).map (invM k), l.reverse.take i) = some q ∧
      (q = .inl true ∨ (q = .inr (l, k, l.map (invM k), l.reverse) ∧ ∀ j, j < l.length → l.getD j 0 % modK k ≠ 0))
  | 0, i, fuel, hi, hf, h => by
    obtain ⟨fuel, rfl⟩ : ∃ n, fuel = n + 1 := ⟨fuel - 1, by omega⟩
    have : i = l.length := by omega
    subst this
    refine ⟨_, iter_end ?_, .inr ⟨rfl, h⟩⟩
    show law04FieldBatchL0R l k (l.length : Int) ((l.take l.length).map (invM k)) (l.reverse.take l.length) = _
    unfold law04FieldBatchL0R
    rw [List.take_length, ← List.length_reverse, List.take_length]
    exact guard_else (decide_eq_false (by simp)) rfl
  | r + 1, i, fuel, hi, hf, h => by
    obtain ⟨fuel, rfl⟩ : ∃ n, fuel = n + 1 := ⟨fuel - 1, by omega⟩
    have hil : i < l.length := by omega
    have e : Int.toNat (i : Int) = i := rfl
    by_cases hz : l.getD i 0 % modK k = 0
    · refine ⟨_, iter_end (r := .inl true) ?_, .inl rfl⟩
      show law04FieldBatchL0R l k (i : Int) ((l.take i).map (invM k)) (l.reverse.take i) = _
      unfold law04FieldBatchL0R
      rw [e]
      have hv : invsV k l = (40, []) := by
        unfold invsV; rw [if_pos hk, if_neg (by omega), if_neg (fun h => h i hil hz)]
      refine guard_step (decide_eq_true (by omega)) (guard_step (by simp) (guard_step (blt_of hil) (bind_step ((fieldInverse_val k (hl i)).trans (congrArg some (invK_zero hk hz))) (guard_step rfl (bind_step ((fieldInverses_val k hl).trans (congrArg some hv)) (bind_step (law04INum_val _) (guard_step rfl (guard_step rfl (bind_step (law04INum_val _) rfl)))))))))
    · obtain ⟨q, g1, g2⟩ := batchL0 hk hn hl r (i + 1) fuel (by omega) (by omega) fun j hj => by
        by_cases e : j = i
        · subst e; exact hz
        · exact h j (by omega)
      refine ⟨q, iter_more ?_ g1, g2⟩
      show law04FieldBatchL0R l k (i : Int) ((l.take i).map (invM k)) (l.reverse.take i) = _
      unfold law04FieldBatchL0R
      have w1 : IntKind.wrap .i64 (((l.length : Nat) : Int) - (1 : Int)) = (l.length : Int) - 1 := wI64z _ (by omega) (by omega)
      have w2 : IntKind.wrap .i64 (((l.length : Nat) : Int) - 1 - (i : Int)) = ((l.length - 1 - i : Nat) : Int) := by rw [wI64z _ (by omega) (by omega)]; omega
      have e2 : Int.toNat ((l.length - 1 - i : Nat) : Int) = l.length - 1 - i := rfl
      rw [w1, w2, e, e2]
      have hroom : ∀ n : Nat, n ≤ 65537 → roomB 32 n = true := fun n hn' => by
        simp only [roomB, Bool.and_eq_true]
        exact ⟨Nat.ble_eq_true_of_le (by omega), Nat.ble_eq_true_of_le (by omega)⟩
      refine guard_step (decide_eq_true (by omega)) (guard_step (by simp) (guard_step (blt_of hil) (bind_step ((fieldInverse_val k (hl i)).trans (congrArg some (invK_good hk hz))) (guard_else rfl (guard_step (hroom _ (by simp; omega)) (guard_step (by simp) (guard_step (blt_of (by omega)) (guard_step (hroom _ (by simp; omega)) ?_))))))))
      rw [wI64z _ (by omega) (by omega), take_snoc hil, List.map_append, take_snoc (l := l.reverse) (by simpa using hil), getD_reverse hil]
      rfl

theorem batchL1 {k : Int} {l : List Nat} (hn : l.length ≤ 65536) : ∀ (r i fuel : Nat), i + r = l.length → r < fuel →
    iter (fun p : Int × Int × List Nat × List Nat => law04FieldBatchL1R p.1 p.2.1 p.2.2.1 p.2.2.2) fuel (k, (i : Int), l.map (invM k), l.reverse.map (invM k)) = some (.inr k)
  | 0, i, fuel, hi, hf => by
    obtain ⟨fuel, rfl⟩ : ∃ n, fuel = n + 1 := ⟨fuel - 1, by omega⟩
    refine iter_end ?_
    show law04FieldBatchL1R k (i : Int) (l.map (invM k)) (l.reverse.map (invM k)) = _
    unfold law04FieldBatchL1R
    exact guard_else (decide_eq_false (by simp; omega)) rfl
  | r + 1, i, fuel, hi, hf => by
    obtain ⟨fuel, rfl⟩ : ∃ n, fuel = n + 1 := ⟨fuel - 1, by omega⟩
    have hil : i < l.length := by omega
    refine iter_more ?_ (batchL1 hn r (i + 1) fuel (by omega) (by omega))
    show law04FieldBatchL1R k (i : Int) (l.map (invM k)) (l.reverse.map (invM k)) = _
    unfold law04FieldBatchL1R
    have e : Int.toNat (i : Int) = i := rfl
    have hlen : (l.map (invM k)).length = l.length := by simp
    have hlen2 : (l.reverse.map (invM k)).length = l.length := by simp
    have w1 : IntKind.wrap .i64 (((l.length : Nat) : Int) - (1 : Int)) = (l.length : Int) - 1 := wI64z _ (by omega) (by omega)
    have w2 : IntKind.wrap .i64 (((l.length : Nat) : Int) - 1 - (i : Int)) = ((l.length - 1 - i : Nat) : Int) := by rw [wI64z _ (by omega) (by omega)]; omega
    have e2 : Int.toNat ((l.length - 1 - i : Nat) : Int) = l.length - 1 - i := rfl
    have hsame : (l.reverse.map (invM k)).getD i 0 = (l.map (invM k)).getD (l.length - 1 - i) 0 := by
      rw [getD_map _ (by simpa using hil), getD_map _ (by omega), getD_reverse hil]
    rw [hlen, hlen2, w1, w2, e, e2, hsame]
    refine guard_step (decide_eq_true (by omega)) (guard_step (by simp) (guard_step (blt_of hil) (guard_step (blt_of hil) (guard_step (by simp) (guard_step (blt_of (by omega)) (guard_step (blt_of (by omega)) (guard_else (ne_no rfl) ?_)))))))
    rw [wI64z _ (by omega) (by omega)]; rfl

theorem law04FieldBatch_true (w : Int) {l : List Nat} (hl : ∀ i, l.getD i 0 < M256) : law04FieldBatch w l = some true := by
  obtain ⟨k, hk, hw⟩ := kind_val w
  have hbig := bigFuel_eq
  rw [law04FieldBatch_eq]
  unfold law04FieldBatchB
  refine bind_step hw ?_
  by_cases hn : 65536 < l.length
  · have hv : invsV k l = (2, []) := by unfold invsV; rw [if_pos hk, if_pos hn]
    exact guard_step (decide_eq_true (by omega)) (bind_step ((fieldInverses_val k hl).trans (congrArg some hv)) (bind_step (law04INum_val _) (guard_step rfl rfl)))
  · refine guard_else (decide_eq_false (by omega)) ?_
    obtain ⟨q, g1, g2⟩ := batchL0 hk (by omega) hl l.length 0 bigFuel (by omega) (by omega) fun j hj => absurd hj (Nat.not_lt_zero j)
    refine bind_step ((law04FieldBatchL0_eq _ _ _ _ _).trans g1) ?_
    rcases g2 with rfl | ⟨rfl, hz⟩
    · rfl
    · refine sum_right ?_
      have hv : invsV k l = (0, l.map (invM k)) := by unfold invsV; rw [if_pos hk, if_neg hn, if_pos hz]
      have hz2 : ∀ j, j < l.reverse.length → l.reverse.getD j 0 % modK k ≠ 0 := fun j hj => by
        rw [List.length_reverse] at hj
        rw [getD_reverse hj]; exact hz _ (by omega)
      have hv2 : invsV k l.reverse = (0, l.reverse.map (invM k)) := by unfold invsV; rw [if_pos hk, if_neg (by simpa using hn), if_pos hz2]
      have hsame : law04ISame (l.map (invM k)) (l.map (invM k)) = some true := by
        rw [law04ISame_val (by simp; omega) (by simp; omega) (all_getD_map k l) (all_getD_map k l)]; simp
      have hone : ∀ i, [1].getD i 0 < M256 := fun i => by
        cases i with
        | zero => decide
        | succ i => simp [M256]
      have hv3 : invsV k [1] = (0, [1]) := by
        unfold invsV
        rw [if_pos hk, if_neg (by decide), if_pos]
        · simp only [List.map_cons, List.map_nil, invM, Nat.one_pow, Nat.mod_eq_of_lt (one_lt_modK k)]
        · intro j hj
          have : j = 0 := by simpa using hj
          subst this
          show 1 % modK k ≠ 0
          rw [Nat.mod_eq_of_lt (one_lt_modK k)]; decide
      refine bind_step ((fieldInverses_val k hl).trans (congrArg some hv)) (bind_step ((fieldInverses_val k (getD_rev_lt hl)).trans (congrArg some hv2)) (guard_else rfl (guard_else rfl (bind_step hsame (guard_else rfl (guard_else ?_ ?_))))))
      · simp
      · refine bind_step ((law04FieldBatchL1_eq _ _ _ _).trans (batchL1 (k := k) (by omega) l.length 0 bigFuel (by omega) (by omega))) (sum_right (bind_step (u256From_val (c := 1) (by omega)) (bind_step ((fieldInverses_val k hone).trans (congrArg some hv3)) (guard_step rfl (guard_step rfl (guard_step rfl (guard_step rfl (bind_step (u256From_val (c := 1) (by omega)) ?_))))))))
        exact congrArg some (u256eq_self 1)
end Go.Sy
