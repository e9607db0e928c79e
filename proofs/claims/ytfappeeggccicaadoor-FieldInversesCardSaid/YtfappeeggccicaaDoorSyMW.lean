/- Plain law: lists of inverses are the document's; what was handed in stays; what is answered is new memory. -/
import Derived.Test.YtfappeeggccicaaDoorSyMa3
import Derived.Test.YtfappeeggccicaaDoorSyVI
set_option linter.unusedVariables false
set_option linter.unusedSimpArgs false
namespace Go.Sy
open Go

theorem invsV_len (k : Int) (l : List Nat) : (invsV k l).2.length ≤ 65536 := by
  unfold invsV
  split
  · split
    · simp
    · split
      · simp; omega
      · simp
  · simp

theorem invsV_lt (k : Int) (l : List Nat) (i : Nat) : (invsV k l).2.getD i 0 < M256 := by
  have h0 : ([] : List Nat).getD i 0 < M256 := by simp [M256]
  unfold invsV
  split
  · split
    · exact h0
    · split
      · exact all_getD_map k l i
      · exact h0
  · exact h0

theorem roomInv {n : Nat} (h : n ≤ 100000) : roomB 32 n = true := by
  simp only [roomB, Bool.and_eq_true]
  exact ⟨Nat.ble_eq_true_of_le (by omega), Nat.ble_eq_true_of_le (by omega)⟩

theorem r4invL {k : Int} (hk : k = 0 ∨ k = 1) {l : List Nat} (hn : l.length ≤ 65536) (hl : ∀ i, l.getD i 0 < M256) : ∀ (r i fuel : Nat), i + r = l.length → r < fuel → (∀ j, j < i → l.getD j 0 % modK k ≠ 0) →
    iter (fun p : Int × List Nat × Int × List Nat => ref04InversesL0R p.1 p.2.1 p.2.2.1 p.2.2.2) fuel (k, l, (i : Int), (l.take i).map (invM k)) = some (if ∀ j, j < l.length → l.getD j 0 % modK k ≠ 0 then .inr (l.map (invM k)) else .inl 40)
  | 0, i, fuel, hi, hf, h => by
    obtain ⟨fuel, rfl⟩ : ∃ n, fuel = n + 1 := ⟨fuel - 1, by omega⟩
    have : i = l.length := by omega
    subst this
    rw [if_pos h]
    refine iter_end ?_
    show ref04InversesL0R k l (l.length : Int) ((l.take l.length).map (invM k)) = _
    unfold ref04InversesL0R
    rw [List.take_length]
    exact guard_else (decide_eq_false (by omega)) rfl
  | r + 1, i, fuel, hi, hf, h => by
    obtain ⟨fuel, rfl⟩ : ∃ n, fuel = n + 1 := ⟨fuel - 1, by omega⟩
    have hil : i < l.length := by omega
    have e : Int.toNat (i : Int) = i := rfl
    by_cases hz : l.getD i 0 % modK k = 0
    · rw [if_neg (fun h => h i hil hz)]
      refine iter_end ?_
      show ref04InversesL0R k l (i : Int) ((l.take i).map (invM k)) = _
      unfold ref04InversesL0R
      rw [e]
      exact guard_step (decide_eq_true (by omega)) (guard_step (by simp) (guard_step (blt_of hil) (bind_step ((ref04Inverse_val k (hl i)).trans (congrArg some (invK_zero hk hz))) (guard_step rfl rfl))))
    · refine iter_more (b := (k, l, ((i + 1 : Nat) : Int), (l.take (i + 1)).map (invM k))) ?_ (r4invL hk hn hl r (i + 1) fuel (by omega) (by omega) fun j hj => by
        by_cases e : j = i
        · subst e; exact hz
        · exact h j (by omega))
      show ref04InversesL0R k l (i : Int) ((l.take i).map (invM k)) = _
      unfold ref04InversesL0R
      rw [e]
      refine guard_step (decide_eq_true (by omega)) (guard_step (by simp) (guard_step (blt_of hil) (bind_step ((ref04Inverse_val k (hl i)).trans (congrArg some (invK_good hk hz))) (guard_else rfl (guard_step (roomInv (by simp; omega)) ?_)))))
      rw [wI64z _ (by omega) (by omega), take_snoc hil, List.map_append]
      rfl

theorem ref04Inverses_val (k : Int) {l : List Nat} (hl : ∀ i, l.getD i 0 < M256) : ref04Inverses k l = some ((invsV k l).1, (invsV k l).2) := by
  have hbig := bigFuel_eq
  rw [ref04Inverses_eq]
  unfold ref04InversesB invsV
  refine bind_step (ref04IGood_val k) ?_
  by_cases hk : k = 0 ∨ k = 1
  · rw [if_pos hk, decide_eq_true hk]
    refine guard_else rfl ?_
    by_cases hn : 65536 < l.length
    · rw [if_pos hn]; exact guard_step (decide_eq_true (by omega)) rfl
    · rw [if_neg hn]
      refine guard_else (decide_eq_false (by omega)) (bind_step ((ref04InversesL0_eq _ _ _ _).trans (r4invL hk (by omega) hl l.length 0 bigFuel (by omega) (by omega) fun j hj => absurd hj (Nat.not_lt_zero j))) ?_)
      split <;> rfl
  · rw [if_neg hk, decide_eq_false hk]; exact guard_step rfl rfl

def SEV : Nat := 43939712147706765349232502530900234157089237571786585931783

theorem room32 {n : Nat} (h : n * 32 ≤ 140737488355328) : roomB 32 n = true := by
  simp only [roomB, Bool.and_eq_true]
  exact ⟨Nat.ble_eq_true_of_le (by omega), Nat.ble_eq_true_of_le h⟩

theorem dnn (n : Nat) : decide (0 ≤ ((n : Nat) : Int)) = true := decide_eq_true (Int.natCast_nonneg n)

theorem fiL0 (k : Int) {l : List Nat} (hn : l.length * 32 ≤ 140737488351232) : ∀ (r i fuel : Nat), i + r = 9 → r < fuel →
    iter (fun p : Int × List Nat × Int × List Nat => law04FieldInversesL0R p.1 p.2.1 p.2.2.1 p.2.2.2) fuel (k, l, ((l.length + i : Nat) : Int), l ++ (List.replicate i SEV ++ List.replicate r 0)) = some (k, l, l ++ List.replicate 9 SEV)
  | 0, i, fuel, hi, hf => by
    obtain ⟨fuel, rfl⟩ : ∃ n, fuel = n + 1 := ⟨fuel - 1, by omega⟩
    have : i = 9 := by omega
    subst this
    refine iter_end ?_
    show law04FieldInversesL0R k l ((l.length + 9 : Nat) : Int) (l ++ (List.replicate 9 SEV ++ List.replicate 0 0)) = _
    unfold law04FieldInversesL0R
    rw [List.replicate_zero, List.append_nil]
    exact guard_else (decide_eq_false (by simp)) rfl
  | r + 1, i, fuel, hi, hf => by
    obtain ⟨fuel, rfl⟩ : ∃ n, fuel = n + 1 := ⟨fuel - 1, by omega⟩
    refine iter_more (b := (k, l, ((l.length + (i + 1) : Nat) : Int), l ++ (List.replicate (i + 1) SEV ++ List.replicate r 0))) ?_ (fiL0 k hn r (i + 1) fuel (by omega) (by omega))
    show law04FieldInversesL0R k l ((l.length + i : Nat) : Int) (l ++ (List.replicate i SEV ++ List.replicate (r + 1) 0)) = _
    unfold law04FieldInversesL0R
    have e : Int.toNat ((l.length + i : Nat) : Int) = l.length + i := rfl
    have hlen : (l ++ (List.replicate i SEV ++ List.replicate (r + 1) 0)).length = l.length + 9 := by simp; omega
    rw [e, hlen]
    refine guard_step (decide_eq_true (by omega)) (guard_step (dnn _) (guard_step (blt_of (by omega)) (guard_step (blt_of (by omega)) ?_)))
    rw [wI64z _ (by omega) (by omega)]
    have hset : (l ++ (List.replicate i SEV ++ List.replicate (r + 1) 0)).set (l.length + i) SEV = l ++ (List.replicate (i + 1) SEV ++ List.replicate r 0) := by
      rw [List.set_append, if_neg (by omega), Nat.add_sub_cancel_left, List.set_append, if_neg (by simp), List.length_replicate, Nat.sub_self, List.replicate_succ, List.set_cons_zero, List.replicate_succ', List.append_assoc]
      rfl
    show some (Sum.inl (k, l, _, (l ++ (List.replicate i SEV ++ List.replicate (r + 1) 0)).set (l.length + i) SEV)) = _
    rw [hset]
    rfl

theorem fiL1 (k : Int) {l : List Nat} (hn : l.length * 32 ≤ 140737488351232) (g : Nat × Nat) (b1 b2 b3 : List Nat) : ∀ (r i fuel : Nat), i + r = 9 → r < fuel →
    iter (fun p : Int × List Nat × (Nat × Nat) × Int × List Nat × List Nat × List Nat × List Nat => law04FieldInversesL1R p.1 p.2.1 p.2.2.1 p.2.2.2.1 p.2.2.2.2.1 p.2.2.2.2.2.1 p.2.2.2.2.2.2.1 p.2.2.2.2.2.2.2) fuel (k, l, g, ((l.length + i : Nat) : Int), l ++ List.replicate 9 SEV, b1, b2, b3) = some (.inr (k, l, g, l ++ List.replicate 9 SEV, b1, b2, b3))
  | 0, i, fuel, hi, hf => by
    obtain ⟨fuel, rfl⟩ : ∃ n, fuel = n + 1 := ⟨fuel - 1, by omega⟩
    have : i = 9 := by omega
    subst this
    refine iter_end ?_
    show law04FieldInversesL1R k l g ((l.length + 9 : Nat) : Int) (l ++ List.replicate 9 SEV) b1 b2 b3 = _
    unfold law04FieldInversesL1R
    exact guard_else (decide_eq_false (by simp)) rfl
  | r + 1, i, fuel, hi, hf => by
    obtain ⟨fuel, rfl⟩ : ∃ n, fuel = n + 1 := ⟨fuel - 1, by omega⟩
    refine iter_more (b := (k, l, g, ((l.length + (i + 1) : Nat) : Int), l ++ List.replicate 9 SEV, b1, b2, b3)) ?_ (fiL1 k hn g b1 b2 b3 r (i + 1) fuel (by omega) (by omega))
    show law04FieldInversesL1R k l g ((l.length + i : Nat) : Int) (l ++ List.replicate 9 SEV) b1 b2 b3 = _
    unfold law04FieldInversesL1R
    have e : Int.toNat ((l.length + i : Nat) : Int) = l.length + i := rfl
    have hlen : (l ++ List.replicate 9 SEV).length = l.length + 9 := by simp
    have hget : (l ++ List.replicate 9 SEV).getD (l.length + i) 0 = SEV := by
      rw [List.getD_eq_getElem?_getD, List.getElem?_append_right (by omega), Nat.add_sub_cancel_left, List.getElem?_replicate, if_pos (by omega)]; rfl
    rw [e, hlen, hget]
    refine guard_step (decide_eq_true (by omega)) (guard_step (dnn _) (guard_step (blt_of (by omega)) (guard_step (blt_of (by omega)) (guard_else (by rw [show (43939712147706765349232502530900234157089237571786585931783 : Nat) = SEV from rfl, u256eq_self]; rfl) ?_))))
    rw [wI64z _ (by omega) (by omega)]
    rfl

theorem fiL2 (k : Int) (l : List Nat) (g : Nat × Nat) (b0 b2 b3 : List Nat) {m : Nat} (hm : m ≤ 65536) : ∀ (r i fuel : Nat) (b : List Nat), i + r = m → b.length = m → r < fuel →
    ∃ b' : List Nat, b'.length = m ∧ iter (fun p : Int × List Nat × (Nat × Nat) × Int × List Nat × List Nat × List Nat × List Nat => law04FieldInversesL2R p.1 p.2.1 p.2.2.1 p.2.2.2.1 p.2.2.2.2.1 p.2.2.2.2.2.1 p.2.2.2.2.2.2.1 p.2.2.2.2.2.2.2) fuel (k, l, g, (i : Int), b0, b, b2, b3) = some (k, l, g, b0, b', b2, b3)
  | 0, i, fuel, b, hi, hb, hf => by
    obtain ⟨fuel, rfl⟩ : ∃ n, fuel = n + 1 := ⟨fuel - 1, by omega⟩
    refine ⟨b, hb, iter_end ?_⟩
    show law04FieldInversesL2R k l g (i : Int) b0 b b2 b3 = _
    unfold law04FieldInversesL2R
    exact guard_else (decide_eq_false (by omega)) rfl
  | r + 1, i, fuel, b, hi, hb, hf => by
    obtain ⟨fuel, rfl⟩ : ∃ n, fuel = n + 1 := ⟨fuel - 1, by omega⟩
    obtain ⟨b', h1, h2⟩ := fiL2 k l g b0 b2 b3 hm r (i + 1) fuel (b.set i 8) (by omega) (by simpa using hb) (by omega)
    refine ⟨b', h1, iter_more ?_ h2⟩
    show law04FieldInversesL2R k l g (i : Int) b0 b b2 b3 = _
    unfold law04FieldInversesL2R
    have e : Int.toNat (i : Int) = i := rfl
    rw [e]
    refine guard_step (decide_eq_true (by omega)) (guard_step (by simp) (guard_step (blt_of (by omega)) (guard_step (blt_of (by omega)) ?_)))
    rw [wI64z _ (by omega) (by omega)]
    rfl

theorem fiL4 (k : Int) {n : Nat} (hn : n * 32 ≤ 140737488351232) : ∀ (r i fuel : Nat) (b : List Nat), i + r = n → b.length = n + 9 → (∀ j, b.getD j 0 < M256) → r < fuel →
    ∃ b' : List Nat, b'.length = n + 9 ∧ (∀ j, b'.getD j 0 < M256) ∧ iter (fun p : Int × (Nat × Nat) × Int × List Nat => law04FieldInversesL4R p.1 p.2.1 p.2.2.1 p.2.2.2) fuel (k, (0, n), (i : Int), b) = some (k, (0, n), b')
  | 0, i, fuel, b, hi, hb, hl, hf => by
    obtain ⟨fuel, rfl⟩ : ∃ n, fuel = n + 1 := ⟨fuel - 1, by omega⟩
    refine ⟨b, hb, hl, iter_end ?_⟩
    show law04FieldInversesL4R k (0, n) (i : Int) b = _
    unfold law04FieldInversesL4R
    exact guard_else (decide_eq_false (by simp only; omega)) rfl
  | r + 1, i, fuel, b, hi, hb, hl, hf => by
    obtain ⟨fuel, rfl⟩ : ∃ n, fuel = n + 1 := ⟨fuel - 1, by omega⟩
    have hw : IntKind.wrap .u64 ((IntKind.wrap .u64 (i : Int)) + (5 : Int)) = ((i + 5 : Nat) : Int) := by
      rw [show IntKind.wrap .u64 (i : Int) = (i : Int) by show (i : Int) % 18446744073709551616 = _; omega]
      show ((i : Int) + 5) % 18446744073709551616 = _
      omega
    obtain ⟨h3, h4⟩ := setLimb_new' (x := 0) (i := 0) (a := i + 5) (by decide) (by omega)
    have hv : setLimb 0 0 ((i + 5 : Nat) : Int) < M256 := Nat.lt_of_lt_of_le h4 (by decide)
    obtain ⟨b', h1, h2, h5⟩ := fiL4 k hn r (i + 1) fuel (b.set i (setLimb 0 0 ((i + 5 : Nat) : Int))) (by omega) (by simpa using hb) (fun j => by
      rw [getD_set']
      split
      · split
        · exact hv
        · decide
      · exact hl j) (by omega)
    refine ⟨b', h1, h2, iter_more ?_ h5⟩
    show law04FieldInversesL4R k (0, n) (i : Int) b = _
    unfold law04FieldInversesL4R
    have e : Int.toNat (i : Int) = i := rfl
    rw [hw, e]
    refine guard_step (decide_eq_true (by simp only; omega)) (guard_step (inU64_nat (by omega)) (guard_step (by simp) (guard_step (blt_of (by simp only; omega)) (guard_step (blt_of (by simp only; omega)) ?_))))
    rw [wI64z _ (by omega) (by omega)]
    simp only [Nat.zero_add]
    rfl

def appN {α : Type} (f : List Nat → Option α) : Nat → List Nat → Option α
  | 0, b => f b
  | n + 1, b => cond (roomB 32 (b.length + [9].length)) ((some (b ++ [9])).bind fun a => appN f n a) none

theorem appN_val {α : Type} {f : List Nat → Option α} {r : Option α} : ∀ (n : Nat) {b : List Nat} {m : Nat}, b.length = m → m + n ≤ 90000 → (∀ b' : List Nat, b'.length = m + n → f b' = r) → appN f n b = r
  | 0, b, m, hb, hm, k => k b hb
  | n + 1, b, m, hb, hm, k => guard_step (roomInv (by simp; omega)) (appN_val n (b := b ++ [9]) (m := m + 1) (by simp [hb]) (by omega) fun b' h => k b' (by omega))

theorem SEV_lt : SEV < M256 := by decide

set_option maxHeartbeats 1000000 in
theorem law04FieldInverses_true (k : Int) {l : List Nat} (hl : ∀ i, l.getD i 0 < M256) (hn : l.length * 32 ≤ 140737488351232) : law04FieldInverses k l = some true := by
  have hbig := bigFuel_eq
  rw [law04FieldInverses_eq]
  unfold law04FieldInversesB
  have w0 : IntKind.wrap .i64 (((l.length : Nat) : Int) + (9 : Int)) = ((l.length + 9 : Nat) : Int) := wI64z _ (by omega) (by omega)
  have e0 : Int.toNat ((l.length + 9 : Nat) : Int) = l.length + 9 := rfl
  have e1 : Int.toNat ((l.length : Nat) : Int) = l.length := rfl
  rw [w0, e0]
  have hspl : spliceL (List.replicate (l.length + 9) (0 : Nat)) 0 (List.take ((List.replicate (l.length + 9) (0 : Nat)).length) l) = l ++ (List.replicate 0 SEV ++ List.replicate 9 0) := by
    rw [List.length_replicate, List.take_of_length_le (by omega)]
    unfold spliceL
    rw [List.take_zero, List.nil_append, Nat.zero_add, List.drop_replicate, Nat.add_sub_cancel_left]
    rfl
  rw [hspl]
  have hL0 := fiL0 k hn 9 0 bigFuel (by omega) (by omega)
  rw [Nat.add_zero] at hL0
  refine guard_step (dnn _) (guard_step (decide_eq_true (Int.le_refl _)) (guard_step (room32 (by omega)) (bind_step ((law04FieldInversesL0_eq _ _ _ _).trans hL0) ?_)))
  simp only [e1, Nat.sub_zero, Nat.zero_add, List.drop_zero, List.take_left]
  have hlen : (l ++ List.replicate 9 SEV).length = l.length + 9 := by simp
  rw [hlen]
  have hf := fieldInverses_val k hl
  have h3 : ∀ i, [3].getD i 0 < M256 := fun i => by
    cases i with
    | zero => decide
    | succ i => simp [M256]
  have hI := invsV_len k l
  have hI2 := invsV_lt k l
  refine guard_step (by simp) (guard_step (Nat.ble_eq_true_of_le (by omega)) (guard_step (Nat.ble_eq_true_of_le (by omega)) (bind_step hf (bind_step (fieldInverses_val k h3) (guard_step (Nat.ble_eq_true_of_le (by omega)) (bind_step hf (bind_step (ref04Inverses_val k hl) (bind_step (law04INum_val _) (guard_else (by simp) (bind_step (law04INum_val _) (guard_else (by simp) ?_)))))))))))
  have hsame : law04ISame (invsV k l).2 (invsV k l).2 = some true := by
    rw [law04ISame_val (by omega) (by omega) hI2 hI2, decide_eq_true rfl]
  have hsame2 : law04ISame l l = some true := by
    rw [law04ISame_val (by omega) (by omega) hl hl, decide_eq_true rfl]
  refine bind_step hsame (guard_else rfl (bind_step hsame (guard_else rfl (guard_step (Nat.ble_eq_true_of_le (by omega)) (bind_step hsame2 (guard_else rfl (bind_step ((law04FieldInversesL1_eq _ _ _ _ _ _ _ _).trans (fiL1 k hn _ _ _ _ 9 0 bigFuel (by omega) (by omega))) ?_)))))))
  refine sum_right ?_
  obtain ⟨b', hb', hL2⟩ := fiL2 k l (0, l.length) (l ++ List.replicate 9 SEV) (invsV k l).2 (invsV k l).2 hI (invsV k l).2.length 0 bigFuel (invsV k l).2 (by omega) rfl (by omega)
  refine bind_step ((law04FieldInversesL2_eq _ _ _ _ _ _ _ _).trans hL2) ?_
  generalize (invsV k l).2.length = m at *
  simp only []
  clear hf h3 hL2
  refine appN_val 64 hb' (by omega) fun a63 h63 => ?_
  refine guard_else (by rw [h63, hb', wI64z _ (by omega) (by omega)]; simp) ?_
  refine bind_step hsame (guard_else rfl (guard_step (Nat.ble_eq_true_of_le (by rw [hlen]; omega)) ?_))
  rw [List.drop_zero, List.take_left]
  refine bind_step hsame2 (guard_else rfl ?_)
  have hl9 : ∀ j, (l ++ List.replicate 9 SEV).getD j 0 < M256 := fun j => by
    rw [List.getD_eq_getElem?_getD]
    rcases Nat.lt_or_ge j l.length with h | h
    · rw [List.getElem?_append_left h, ← List.getD_eq_getElem?_getD]; exact hl j
    · rw [List.getElem?_append_right h, List.getElem?_replicate]
      split
      · exact SEV_lt
      · exact (by decide : 0 < M256)
  obtain ⟨b2, k1, k2, k3⟩ := fiL4 k hn l.length 0 bigFuel (l ++ List.replicate 9 SEV) (by omega) hlen hl9 (by omega)
  refine bind_step ((law04FieldInversesL4_eq _ _ _ _).trans k3) ?_
  have hl2 : ∀ i, (List.take l.length (List.drop 0 b2)).getD i 0 < M256 := fun i => by
    rw [List.drop_zero, List.getD_eq_getElem?_getD, List.getElem?_take]
    split
    · rw [← List.getD_eq_getElem?_getD]; exact k2 i
    · exact (by decide : 0 < M256)
  have hI3 := invsV_len k (List.take l.length (List.drop 0 b2))
  have hI4 := invsV_lt k (List.take l.length (List.drop 0 b2))
  have hs3 : law04ISame (invsV k (List.take l.length (List.drop 0 b2))).2 (invsV k (List.take l.length (List.drop 0 b2))).2 = some true := by
    rw [law04ISame_val (by omega) (by omega) hI4 hI4, decide_eq_true rfl]
  exact guard_step (Nat.ble_eq_true_of_le (by show 0 + l.length ≤ b2.length; omega)) (bind_step (fieldInverses_val k hl2) (guard_step (Nat.ble_eq_true_of_le (by show 0 + l.length ≤ b2.length; omega)) (bind_step (ref04Inverses_val k hl2) (bind_step (law04INum_val _) (guard_step (by simp) (bind_step hs3 rfl))))))
end Go.Sy
