/- Points and their bytes: reading; the law of what is read. -/
import Derived.Test.YtmjdciphkjapkaaDoorSyVC3
import Derived.Test.YtmjdciphkjapkaaDoorSyHa
import Derived.Test.YtmjdciphkjapkaaDoorSyHE
set_option linter.unusedVariables false
set_option linter.unusedSimpArgs false
namespace Go.Sy
open Go

theorem nt {p : Prop} [Decidable p] (h : p) : (!decide p) = false := by rw [decide_eq_true h]; rfl
theorem nf {p : Prop} [Decidable p] (h : ¬ p) : (!decide p) = true := by rw [decide_eq_false h]; rfl

theorem Bytes.cut {b : List Int} (h : Bytes b) (n k : Nat) : Bytes (List.take n (List.drop k b)) := by
  intro j
  have := h (k + j)
  simp only [List.getD_eq_getElem?_getD, List.getElem?_take, List.getElem?_drop] at this ⊢
  split
  · exact this
  · simp

theorem cut_len {b : List Int} {n k : Nat} (h : n + k ≤ b.length) : (List.take n (List.drop k b)).length = n := by
  simp; omega

theorem getV_lt {b : List Int} (h : Bytes b) : (getV b).1 < M256 := by
  unfold getV
  split
  · decide
  · have := valB_lt h b.length
    have h2 : 256 ^ b.length ≤ 256 ^ 32 := Nat.pow_le_pow_right (by decide) (by omega)
    have h3 : (256 : Nat) ^ 32 = M256 := by decide
    show valB b b.length < M256
    omega

def pX (data : List Int) : Nat := (getV (List.take 32 (List.drop 1 data))).1
def pY (data : List Int) : Nat := (getV (List.take 32 (List.drop 33 data))).1

/-- What bytes are read as. -/
def parseV (data : List Int) : P3 × Int :=
  if data.length = 33 ∧ (data.getD 0 (0 : Int) = 2 ∨ data.getD 0 (0 : Int) = 3) then (if pX data < prP then liftV (pX data) (data.getD 0 (0 : Int) == (3 : Int)) else ((0, 0, false), 51))
  else if data.length = 65 ∧ data.getD 0 (0 : Int) = 4 then (if pX data < prP ∧ pY data < prP then (if OnN (pX data, pY data, false) then ((pX data, pY data, false), 0) else ((0, 0, false), 50)) else ((0, 0, false), 51))
  else ((0, 0, false), 51)

theorem curveParse_val {data : List Int} (hb : Bytes data) : curveParse data = some (parseV data) := by
  have g1 := hb.cut 32 1
  have g2 := hb.cut 32 33
  have hx : pX data < M256 := getV_lt g1
  have hy : pY data < M256 := getV_lt g2
  have gx := u256Get_val g1
  have gy := u256Get_val g2
  rw [curveParse_eq]
  unfold curveParseB parseV
  by_cases h33 : data.length = 33
  · rw [h33]
    by_cases d2 : data.getD 0 (0 : Int) = 2
    · rw [d2, if_pos ⟨rfl, .inl rfl⟩]
      refine guard_step rfl (guard_step rfl (guard_step rfl (guard_step rfl (bind_step gx (bind_step curveIPrime_val (bind_step (u256Cmp_val hx prP_lt) ?_))))))
      rw [cmp_nneg]
      by_cases hp : pX data < prP
      · rw [if_pos hp]; exact guard_else (nt hp) (guard_step rfl (bind_step (curveLift_val hx _) rfl))
      · rw [if_neg hp]; exact guard_step (nf hp) rfl
    · by_cases d3 : data.getD 0 (0 : Int) = 3
      · rw [d3, if_pos ⟨rfl, .inr rfl⟩]
        refine guard_step rfl (guard_step rfl (guard_else rfl (guard_step rfl (guard_step rfl (guard_step rfl (bind_step gx (bind_step curveIPrime_val (bind_step (u256Cmp_val hx prP_lt) ?_))))))))
        rw [cmp_nneg]
        by_cases hp : pX data < prP
        · rw [if_pos hp]; exact guard_else (nt hp) (guard_step rfl (bind_step (curveLift_val hx _) rfl))
        · rw [if_neg hp]; exact guard_step (nf hp) rfl
      · rw [if_neg (fun h => h.2.elim d2 d3), if_neg (fun h => absurd h.1 (by decide))]
        exact guard_step rfl (guard_step rfl (guard_else (by simpa using d2) (guard_step rfl (guard_else (by simpa using d3) (guard_else rfl rfl)))))
  · rw [if_neg (fun h => h33 h.1)]
    refine guard_else (by simp; omega) ?_
    by_cases h65 : data.length = 65
    · rw [h65]
      by_cases d4 : data.getD 0 (0 : Int) = 4
      · rw [d4, if_pos ⟨rfl, rfl⟩]
        refine guard_step rfl (guard_step rfl (guard_step rfl (guard_step rfl (bind_step gx (guard_step rfl (bind_step gy (bind_step curveIPrime_val (bind_step (u256Cmp_val hx prP_lt) ?_))))))))
        rw [cmp_nneg]
        by_cases hp : pX data < prP
        · refine guard_else (nt hp) (bind_step curveIPrime_val (bind_step (u256Cmp_val hy prP_lt) ?_))
          rw [cmp_nneg]
          by_cases hq : pY data < prP
          · rw [if_pos ⟨hp, hq⟩]
            refine guard_else (nt hq) (bind_step (curveOn_val (p := (pX data, pY data, false)) ⟨hx, hy⟩) ?_)
            by_cases ho : OnN (pX data, pY data, false)
            · rw [if_pos ho]; exact guard_else (nt ho) rfl
            · rw [if_neg ho]; exact guard_step (nf ho) rfl
          · rw [if_neg (fun h => hq h.2)]; exact guard_step (nf hq) rfl
        · rw [if_neg (fun h => hp h.1)]; exact guard_step (nf hp) rfl
      · rw [if_neg (fun h => d4 h.2)]
        exact guard_step rfl (guard_step rfl (guard_else (by simpa using d4) rfl))
    · rw [if_neg (fun h => h65 h.1)]
      exact guard_else (by simp; omega) rfl

theorem ref05Parse_val {data : List Int} (hb : Bytes data) : ref05Parse data = some (parseV data) := by
  have g1 := hb.cut 32 1
  have g2 := hb.cut 32 33
  have hx : pX data < M256 := getV_lt g1
  have hy : pY data < M256 := getV_lt g2
  have gx := ref01Get_val g1
  have gy := ref01Get_val g2
  rw [ref05Parse_eq]
  unfold ref05ParseB parseV
  by_cases h33 : data.length = 33
  · rw [h33]
    by_cases d2 : data.getD 0 (0 : Int) = 2
    · rw [d2, if_pos ⟨rfl, .inl rfl⟩]
      refine guard_step rfl (guard_step rfl (guard_step rfl (guard_else rfl (guard_step rfl (bind_step gx (bind_step (ref05ILow_val hx) ?_))))))
      by_cases hp : pX data < prP
      · rw [if_pos hp]; exact guard_else (nt hp) (guard_step rfl (bind_step (ref05Lift_val hx _) rfl))
      · rw [if_neg hp]; exact guard_step (nf hp) rfl
    · by_cases d3 : data.getD 0 (0 : Int) = 3
      · rw [d3, if_pos ⟨rfl, .inr rfl⟩]
        refine guard_step rfl (guard_step rfl (guard_else rfl (guard_step rfl (guard_else rfl (guard_else rfl (guard_step rfl (bind_step gx (bind_step (ref05ILow_val hx) ?_))))))))
        by_cases hp : pX data < prP
        · rw [if_pos hp]; exact guard_else (nt hp) (guard_step rfl (guard_step rfl (bind_step (ref05Lift_val hx _) rfl)))
        · rw [if_neg hp]; exact guard_step (nf hp) rfl
      · rw [if_neg (fun h => h.2.elim d2 d3), if_neg (fun h => absurd h.1 (by decide))]
        exact guard_step rfl (guard_step rfl (guard_else (by simpa using d2) (guard_step rfl (guard_else rfl (guard_step (by simpa using d3) rfl)))))
  · rw [if_neg (fun h => h33 h.1)]
    refine guard_else (by simp; omega) ?_
    by_cases h65 : data.length = 65
    · rw [h65]
      by_cases d4 : data.getD 0 (0 : Int) = 4
      · rw [d4, if_pos ⟨rfl, rfl⟩]
        refine guard_step rfl (guard_step rfl (guard_else rfl (guard_step rfl (bind_step gx (bind_step (ref05ILow_val hx) ?_)))))
        by_cases hp : pX data < prP
        · refine guard_else (nt hp) (guard_step rfl (bind_step gy (bind_step (ref05ILow_val hy) ?_)))
          by_cases hq : pY data < prP
          · rw [if_pos ⟨hp, hq⟩]
            refine guard_else (nt hq) (bind_step (ref05On_val (p := (pX data, pY data, false)) ⟨hx, hy⟩) ?_)
            by_cases ho : OnN (pX data, pY data, false)
            · rw [if_pos ho]; exact guard_else (nt ho) rfl
            · rw [if_neg ho]; exact guard_step (nf ho) rfl
          · rw [if_neg (fun h => hq h.2)]; exact guard_step (nf hq) rfl
        · rw [if_neg (fun h => hp h.1)]; exact guard_step (nf hp) rfl
      · rw [if_neg (fun h => d4 h.2)]
        exact guard_step rfl (guard_step rfl (guard_step (by simpa using d4) rfl))
    · rw [if_neg (fun h => h65 h.1)]
      exact guard_else (by simp; omega) rfl

theorem parseV_lt {data : List Int} (hb : Bytes data) : In256 (parseV data).1 := by
  have hx : pX data < M256 := getV_lt (hb.cut 32 1)
  have hy : pY data < M256 := getV_lt (hb.cut 32 33)
  have h0 : In256 ((0, 0, false) : P3) := ⟨by decide, by decide⟩
  unfold parseV
  split
  · split
    · exact liftV_lt hx _
    · exact h0
  · split
    · split
      · split
        · exact ⟨hx, hy⟩
        · exact h0
      · exact h0
    · exact h0

/-! ### What is lent -/

def marks : List Int := List.replicate 70 (195 : Int)

theorem getD_appL {a m : List Int} {j : Nat} (h : j < a.length) : (a ++ m).getD j (0 : Int) = a.getD j (0 : Int) := by
  simp [List.getD_eq_getElem?_getD, List.getElem?_append_left h]
theorem getD_marks {a : List Int} {j : Nat} (h : a.length ≤ j) (h2 : j < a.length + 70) : (a ++ marks).getD j (0 : Int) = 195 := by
  rw [List.getD_eq_getElem?_getD, List.getElem?_append_right h]
  simp only [marks, List.getElem?_replicate]
  rw [if_pos (by omega)]; rfl

theorem lentLoop {data : List Int} (hn : data.length ≤ 140737488351232) {l : Nat × Nat} : ∀ (r i fuel : Nat) (b : List Int), i + r = data.length + 70 → r < fuel → data.length ≤ i → b.length = data.length + 70 → (∀ j, j < data.length → b.getD j (0 : Int) = data.getD j (0 : Int)) → (∀ j, data.length ≤ j → j < i → b.getD j (0 : Int) = 195) →
    iter (fun p : (Nat × Nat) × (Nat × Nat) × Int × List Int => law05ILentL0R p.1 p.2.1 p.2.2.1 p.2.2.2) fuel (l, (0, data.length + 70), (i : Int), b) = some (l, data ++ marks)
  | 0, i, fuel, b, hi, hf, h0, hb, h1, h2 => by
    obtain ⟨fuel, rfl⟩ : ∃ n, fuel = n + 1 := ⟨fuel - 1, by omega⟩
    have : b = data ++ marks := ext_getDI (by simp [hb, marks]) fun j hj => by
      rw [hb] at hj
      by_cases hjd : j < data.length
      · rw [getD_appL hjd]; exact h1 j hjd
      · rw [getD_marks (by omega) hj]; exact h2 j (by omega) (by omega)
    rw [← this]
    refine iter_end ?_
    show law05ILentL0R l (0, data.length + 70) (i : Int) b = _
    unfold law05ILentL0R
    exact guard_else (decide_eq_false (by show ¬ (i : Int) < ((data.length + 70 : Nat) : Int); omega)) rfl
  | r + 1, i, fuel, b, hi, hf, h0, hb, h1, h2 => by
    obtain ⟨fuel, rfl⟩ : ∃ n, fuel = n + 1 := ⟨fuel - 1, by omega⟩
    refine iter_more ?_ (lentLoop hn r (i + 1) fuel (b.set i 195) (by omega) (by omega) (by omega) (by simpa using hb) (fun j hj => ?_) (fun j hj hj2 => ?_))
    · show law05ILentL0R l (0, data.length + 70) (i : Int) b = _
      unfold law05ILentL0R
      have t2 : Int.toNat (i : Int) = i := rfl
      rw [t2]
      refine guard_step (decide_eq_true (by show (i : Int) < ((data.length + 70 : Nat) : Int); omega)) (guard_step (by simp) (guard_step (blt_of (by show i < data.length + 70; omega)) (guard_step (blt_of (by show 0 + i < b.length; omega)) ?_)))
      rw [wI64z _ (by omega) (by omega)]
      show some (Sum.inl (l, (0, data.length + 70), (i : Int) + 1, b.set (0 + i) 195)) = _
      rw [Nat.zero_add]; rfl
    · rw [getD_setI, if_neg (by omega)]; exact h1 j hj
    · rw [getD_setI]
      by_cases e : i = j
      · rw [if_pos e, if_pos (by omega)]
      · rw [if_neg e]; exact h2 j hj (by omega)

theorem law05ILent_val {data : List Int} (hn : data.length ≤ 140737488351232) : law05ILent data = some ((0, data.length), data ++ marks) := by
  have hbig := bigFuel_eq
  rw [law05ILent_eq]
  unfold law05ILentB
  have w1 : IntKind.wrap .i64 (((data.length : Nat) : Int) + (70 : Int)) = ((data.length + 70 : Nat) : Int) := by rw [wI64z _ (by omega) (by omega)]; rfl
  have t1 : Int.toNat ((data.length + 70 : Nat) : Int) = data.length + 70 := rfl
  have t2 : Int.toNat ((data.length : Nat) : Int) = data.length := rfl
  have hs : spliceL (List.replicate (data.length + 70) (0 : Int)) 0 (List.take data.length data) = data ++ List.replicate 70 (0 : Int) := by
    rw [List.take_length]; unfold spliceL; simp
  rw [w1, t1, t2, hs]
  have hl : (data ++ List.replicate 70 (0 : Int)).length = data.length + 70 := by simp
  refine guard_step (by simp) (guard_step (by simp; omega) (guard_step ?_ (guard_step ?_ (guard_step (by simp; omega) (guard_step ?_ (bind_step ((law05ILentL0_eq _ _ _ _).trans (lentLoop hn 70 data.length bigFuel _ (by omega) (by omega) (by omega) hl (fun j hj => getD_appL hj) (fun j hj hj2 => by omega))) rfl))))))
  · simp only [roomB, Bool.and_eq_true]
    exact ⟨Nat.ble_eq_true_of_le (by omega), Nat.ble_eq_true_of_le (by omega)⟩
  · exact Nat.ble_eq_true_of_le (by simp)
  · exact Nat.ble_eq_true_of_le (by rw [hl]; omega)

theorem stillLoop {data : List Int} (hn : data.length ≤ 140737488351232) : ∀ (r i fuel : Nat), i + r = data.length + 70 → r < fuel →
    iter (fun p : List Int × (Nat × Nat) × Int × List Int => law05IStillL0R p.1 p.2.1 p.2.2.1 p.2.2.2) fuel (data, (0, data.length + 70), (i : Int), data ++ marks) = some (.inr (data ++ marks))
  | 0, i, fuel, hi, hf => by
    obtain ⟨fuel, rfl⟩ : ∃ n, fuel = n + 1 := ⟨fuel - 1, by omega⟩
    refine iter_end ?_
    show law05IStillL0R data (0, data.length + 70) (i : Int) (data ++ marks) = _
    unfold law05IStillL0R
    exact guard_else (decide_eq_false (by show ¬ (i : Int) < ((data.length + 70 : Nat) : Int); omega)) rfl
  | r + 1, i, fuel, hi, hf => by
    obtain ⟨fuel, rfl⟩ : ∃ n, fuel = n + 1 := ⟨fuel - 1, by omega⟩
    refine iter_more ?_ (stillLoop hn r (i + 1) fuel (by omega) (by omega))
    show law05IStillL0R data (0, data.length + 70) (i : Int) (data ++ marks) = _
    unfold law05IStillL0R
    have t2 : Int.toNat (i : Int) = i := rfl
    have hl : (data ++ marks).length = data.length + 70 := by simp [marks]
    have e0 : (0, data.length + 70).1 + i = i := Nat.zero_add i
    rw [t2, e0, wI64z _ (by omega) (by omega)]
    have c1 : decide ((i : Int) < (((0, data.length + 70).2 : Nat) : Int)) = true := decide_eq_true (by show (i : Int) < ((data.length + 70 : Nat) : Int); omega)
    have c2 : Nat.blt i (0, data.length + 70).2 = true := blt_of (by show i < data.length + 70; omega)
    have c3 : Nat.blt i (data ++ marks).length = true := blt_of (by omega)
    refine guard_step c1 ?_
    by_cases hd : i < data.length
    · rw [getD_appL hd]
      refine guard_step (decide_eq_true (by omega)) (guard_step (by simp) (guard_step c2 (guard_step c3 (guard_step (by simp) (guard_step (blt_of hd) (guard_else (by simp) (guard_else (decide_eq_false (by omega)) rfl)))))))
    · rw [getD_marks (by omega) (by omega)]
      exact guard_else (decide_eq_false (by omega)) (guard_step (decide_eq_true (by omega)) (guard_step (by simp) (guard_step c2 (guard_step c3 (guard_else rfl rfl)))))

theorem law05IStill_val {data : List Int} (hn : data.length ≤ 140737488351232) : law05IStill (0, data.length) (data ++ marks) data = some (true, data ++ marks) := by
  have hbig := bigFuel_eq
  rw [law05IStill_eq]
  unfold law05IStillB
  have w1 : IntKind.wrap .i64 (((data.length : Nat) : Int) + (70 : Int)) = ((data.length + 70 : Nat) : Int) := by rw [wI64z _ (by omega) (by omega)]; rfl
  have t1 : Int.toNat ((data.length + 70 : Nat) : Int) = data.length + 70 := rfl
  rw [w1, t1]
  refine guard_else (by simp) (guard_step (by simp; omega) (guard_step (Nat.ble_eq_true_of_le (by simp [marks])) (bind_step ((law05IStillL0_eq _ _ _ _).trans (stillLoop hn (data.length + 70) 0 bigFuel (by omega) (by omega))) rfl)))

theorem take_snocI {l : List Int} {i : Nat} (h : i < l.length) : l.take (i + 1) = l.take i ++ [l.getD i (0 : Int)] := by
  rw [List.take_add_one]
  simp [List.getD_eq_getElem?_getD, h]
theorem getD_reverseI {l : List Int} {i : Nat} (h : i < l.length) : l.reverse.getD i (0 : Int) = l.getD (l.length - 1 - i) (0 : Int) := by
  simp only [List.getD_eq_getElem?_getD]
  rw [List.getElem?_reverse h]

theorem backLoop {data : List Int} (hn : data.length ≤ 140737488351232) : ∀ (n fuel : Nat), n ≤ data.length → n < fuel →
    iter (fun p : List Int × Int × List Int => law05IBackwardL0R p.1 p.2.1 p.2.2) fuel (data, (n : Int) - 1, data.reverse.take (data.length - n)) = some data.reverse
  | 0, fuel, hl, hf => by
    obtain ⟨fuel, rfl⟩ : ∃ n, fuel = n + 1 := ⟨fuel - 1, by omega⟩
    rw [List.take_of_length_le (by simp)]
    refine iter_end ?_
    show law05IBackwardL0R data (((0 : Nat) : Int) - 1) data.reverse = _
    unfold law05IBackwardL0R
    exact guard_else (by decide) rfl
  | n + 1, fuel, hl, hf => by
    obtain ⟨fuel, rfl⟩ : ∃ n, fuel = n + 1 := ⟨fuel - 1, by omega⟩
    have e1 : (((n + 1 : Nat) : Int) - 1) = (n : Int) := by omega
    rw [e1]
    refine iter_more ?_ (backLoop hn n fuel (by omega) (by omega))
    show law05IBackwardL0R data (n : Int) (data.reverse.take (data.length - (n + 1))) = _
    unfold law05IBackwardL0R
    have t2 : Int.toNat (n : Int) = n := rfl
    rw [t2]
    refine guard_step (by simp) (guard_step (by simp) (guard_step (blt_of (by omega)) (guard_step ?_ ?_)))
    · simp only [roomB, Bool.and_eq_true]
      exact ⟨Nat.ble_eq_true_of_le (by simp; omega), Nat.ble_eq_true_of_le (by simp; omega)⟩
    · rw [wI64z _ (by omega) (by omega)]
      have e2 : data.length - n = data.length - (n + 1) + 1 := by omega
      rw [e2, take_snocI (by simp; omega), getD_reverseI (by omega), show data.length - 1 - (data.length - (n + 1)) = n by omega]

theorem law05IBackward_val {data : List Int} (hn : data.length ≤ 140737488351232) : law05IBackward data = some data.reverse := by
  have hbig := bigFuel_eq
  rw [law05IBackward_eq]
  unfold law05IBackwardB
  rw [wI64z _ (by omega) (by omega)]
  have := backLoop hn data.length bigFuel (Nat.le_refl _) (by omega)
  rw [Nat.sub_self, List.take_zero] at this
  exact bind_step ((law05IBackwardL0_eq _ _ _).trans this) rfl

theorem Bytes.rev {b : List Int} (h : Bytes b) : Bytes b.reverse := by
  intro j
  by_cases hj : j < b.length
  · rw [getD_reverseI hj]; exact h _
  · rw [List.getD_eq_getElem?_getD, List.getElem?_eq_none (by simp; omega)]; decide

theorem law05CurveParses_true {data : List Int} (hn : data.length ≤ 140737488351232) (hb : Bytes data) : law05CurveParses data = some true := by
  rw [law05CurveParses_eq]
  unfold law05CurveParsesB
  have hr := hb.rev
  have hrl : data.reverse.length = data.length := by simp
  have k0 : List.take data.length (List.drop 0 (data ++ marks)) = data := by simp
  have k1 : spliceL (data ++ marks) 0 (List.take data.length data.reverse) = data.reverse ++ marks := by
    have hx : List.take data.length data.reverse = data.reverse := List.take_of_length_le (by simp)
    rw [hx]
    unfold spliceL
    simp
  have k2 : List.take data.length (List.drop 0 (data.reverse ++ marks)) = data.reverse := by
    rw [List.drop_zero, ← hrl, List.take_left']
    rfl
  have c1 : Nat.ble (0 + data.length) (data ++ marks).length = true := Nat.ble_eq_true_of_le (by simp)
  have c2 : Nat.ble (0 + data.length) (data.reverse ++ marks).length = true := Nat.ble_eq_true_of_le (by simp)
  have s2 : law05IStill (0, data.length) (data.reverse ++ marks) data.reverse = some (true, data.reverse ++ marks) := by
    have := law05IStill_val (data := data.reverse) (by rw [hrl]; exact hn)
    rw [hrl] at this
    exact this
  refine bind_step (law05ILent_val hn) (guard_step c1 ?_)
  show (curveParse (List.take data.length (List.drop 0 (data ++ marks)))).bind _ = _
  rw [k0]
  refine bind_step (curveParse_val hb) (bind_step (ref05Parse_val hb) (guard_else (nsameP (parseV_lt hb)) (bind_step (law05INum_val _) (guard_else (by simp) (bind_step (law05IStill_val hn) (guard_else rfl (bind_step (law05IBackward_val hn) (guard_step c1 ?_))))))))
  show (bif Nat.ble (0 + data.length) (spliceL (data ++ marks) 0 (List.take data.length data.reverse)).length then (curveParse (List.take data.length (List.drop 0 (spliceL (data ++ marks) 0 (List.take data.length data.reverse))))).bind _ else none) = _
  rw [k1, k2]
  refine guard_step c2 (bind_step (curveParse_val hr) (bind_step (ref05Parse_val hr) (guard_step (sameP (parseV_lt hr)) (bind_step (law05INum_val _) (guard_step (by simp) ?_)))))
  exact bind_step s2 rfl

end Go.Sy
