/- u256.Mul is the product. -/
import Derived.Test.YtmbcolalfgepiaaDoorSyMD
set_option linter.unusedVariables false
set_option linter.unusedSimpArgs false
namespace Go.Sy
open Go

def cst (l : List Nat) : List Int := l.map fun (n : Nat) => (n : Int)
theorem cst_getD (l : List Nat) (i : Nat) : (cst l).getD i 0 = ((l.getD i 0 : Nat) : Int) := by
  simp only [cst, List.getD_eq_getElem?_getD, List.getElem?_map]
  cases l[i]? <;> simp
theorem cst_set (l : List Nat) (i v : Nat) : (cst l).set i (v : Int) = cst (l.set i v) := by
  simp [cst, List.map_set]
theorem toNat_nat (n : Nat) : Int.toNat (n : Int) = n := by omega
theorem wrapI (n : Nat) (h : n < 9223372036854775808) : IntKind.wrap .i64 (n : Int) = (n : Int) := by
  have h1 : (IntKind.i64).signed = true := rfl
  have h2 : (2 : Int) ^ (IntKind.i64).bits = 18446744073709551616 := rfl
  have h3 : (2 : Int) ^ ((IntKind.i64).bits - 1) = 9223372036854775808 := rfl
  simp only [IntKind.wrap, h1, h2, h3, Bool.true_and]
  rw [if_neg (by simp; omega)]
  omega

theorem blt_true {a b : Nat} (h : a < b) : Nat.blt a b = true := by simpa [Nat.blt_eq] using h
theorem nn (n : Nat) : decide (0 ≤ (n : Int)) = true := by simp

theorem mulRound {i j over : Nat} {all : List Nat} (hi : i < 4) (hj : j < 4) (ho : over < 18446744073709551616) (ha : all.getD (i + j) 0 < 18446744073709551616) (s13 : Int) (x y high low : Nat) :
    u256MulL1R (i : Int) (over : Int) s13 (j : Int) x y high low (cst all) =
      some (.inl ((i : Int), (((ln x i * ln y j + all.getD (i + j) 0 + over) / 18446744073709551616 : Nat) : Int), s13, ((j + 1 : Nat) : Int), x, y, high, low, cst (all.set (i + j) ((ln x i * ln y j + all.getD (i + j) 0 + over) % 18446744073709551616)))) := by
  obtain ⟨h, l, e1, hh, hl, ep⟩ := mul64_val (ln_lt x i) (ln_lt y j)
  obtain ⟨d1, c1, e2, hd1, hc1, q1⟩ := add64_val (c := 0) hl ha (by decide)
  obtain ⟨d2, c2, e3, hd2, hc2, q2⟩ := add64_val (c := 0) hd1 ho (by decide)
  have e2' : bitsAdd64 (l : Int) ((all.getD (i + j) 0 : Nat) : Int) 0 = some ((d1 : Int), (c1 : Int)) := by simpa using e2
  have e3' : bitsAdd64 (d1 : Int) (over : Int) 0 = some ((d2 : Int), (c2 : Int)) := by simpa using e3
  have hp : ln x i * ln y j ≤ 18446744073709551615 * 18446744073709551615 := Nat.mul_le_mul (Nat.le_of_lt_succ (ln_lt x i)) (Nat.le_of_lt_succ (ln_lt y j))
  have hw : IntKind.wrap .i64 ((i : Int) + (j : Int)) = ((i + j : Nat) : Int) := by rw [← Int.natCast_add]; exact wrapI _ (by omega)
  have hw1 : IntKind.wrap .i64 ((j : Int) + 1) = ((j + 1 : Nat) : Int) := by
    have := wrapI (j + 1) (by omega)
    simpa using this
  have hq : (ln x i * ln y j + all.getD (i + j) 0 + over) / 18446744073709551616 = h + c1 + c2 := by omega
  have hr : (ln x i * ln y j + all.getD (i + j) 0 + over) % 18446744073709551616 = d2 := by omega
  have hlt : h + c1 + c2 < 18446744073709551616 := by omega
  have hs : IntKind.wrap .u64 (IntKind.wrap .u64 ((h : Int) + (c1 : Int)) + (c2 : Int)) = ((h + c1 + c2 : Nat) : Int) := by
    rw [← Int.natCast_add, wrap64, Nat.mod_eq_of_lt (by omega), ← Int.natCast_add, wrap64, Nat.mod_eq_of_lt (by omega)]
  unfold u256MulL1R
  rw [hw, toNat_nat, toNat_nat, toNat_nat, cst_getD, hq, hr, hw1]
  have b1 := blt_true hi
  have b2 := blt_true hj
  have b3 : Nat.blt (i + j) 8 = true := blt_true (by omega)
  refine guard_step (decide_eq_true (by omega)) (guard_step (nn i) (guard_step b1 (guard_step b1 (guard_step (nn j) (guard_step b2 (guard_step b2 ?_))))))
  refine bind_step (a := ((h : Int), (l : Int))) (by rw [limb_ln, limb_ln]; exact e1) (guard_step (nn _) (guard_step b3 (guard_step b3 ?_)))
  refine bind_step e2' (bind_step e3' (guard_step (nn _) (guard_step b3 (guard_step b3 ?_))))
  rw [hs, cst_set]

/-- Are all digits below B? -/
def digs (B : Nat) (l : List Nat) : Prop := ∀ k, l.getD k 0 < B

theorem digs_set {B : Nat} {l : List Nat} (h : digs B l) {i v : Nat} (hv : v < B) : digs B (l.set i v) := by
  intro k
  by_cases hk : i = k
  · subst hk
    rcases Nat.lt_or_ge i l.length with hl | hl
    · simp [List.getD_eq_getElem?_getD, List.getElem?_set_self hl, hv]
    · rw [List.set_eq_of_length_le hl]; exact h i
  · rw [getD_set hk]; exact h k

theorem row_lt {B x y c o : Nat} (hx : x < B) (hy : y < B) (hc : c < B) (ho : o < B) : (x * y + c + o) / B < B := by
  refine Nat.div_lt_of_lt_mul ?_
  have h1 := Nat.mul_le_mul (Nat.le_of_lt_succ (show x < (B - 1).succ by omega)) (Nat.le_of_lt_succ (show y < (B - 1).succ by omega))
  obtain ⟨b, rfl⟩ : ∃ b, B = b + 1 := ⟨B - 1, by omega⟩
  simp only [Nat.add_sub_cancel] at h1
  have : (b + 1) * (b + 1) = b * b + 2 * b + 1 := by rw [Nat.add_mul, Nat.mul_add]; omega
  rw [this]; omega

theorem rowN_digs {B x : Nat} (hx : x < B) : ∀ (ys : List Nat) (pos over : Nat) (all : List Nat), digs B ys → over < B → digs B all → (rowN B x ys pos over all).1 < B ∧ digs B (rowN B x ys pos over all).2
  | [], _, _, _, _, ho, ha => ⟨ho, ha⟩
  | y :: ys, pos, over, all, hy, ho, ha => by
    simp only [rowN]
    exact rowN_digs hx ys _ _ _ (fun k => by simpa using hy (k + 1)) (row_lt hx (hy 0) (ha pos) ho) (digs_set ha (Nat.mod_lt _ (by omega)))

theorem mulExit (i over s13 : Int) (x y high low : Nat) (all : List Int) : u256MulL1R i over s13 4 x y high low all = some (.inr (i, over, s13, x, y, high, low, all)) := by
  unfold u256MulL1R
  exact guard_else rfl rfl

def lnL (y : Nat) : List Nat := [ln y 0, ln y 1, ln y 2, ln y 3]
theorem lnL_digs (y : Nat) : digs 18446744073709551616 (lnL y) := by
  intro k
  match k with
  | 0 => exact ln_lt y 0
  | 1 => exact ln_lt y 1
  | 2 => exact ln_lt y 2
  | 3 => exact ln_lt y 3
  | k + 4 => simp [lnL]

theorem mulLoop1 {i : Nat} (hi : i < 4) (s13 : Int) (x y high low : Nat) : ∀ (m j over : Nat) (all : List Nat), j ≤ 4 → 4 - j < m → over < 18446744073709551616 → digs 18446744073709551616 all →
    iter (fun p : Int × Int × Int × Int × Nat × Nat × Nat × Nat × List Int => u256MulL1R p.1 p.2.1 p.2.2.1 p.2.2.2.1 p.2.2.2.2.1 p.2.2.2.2.2.1 p.2.2.2.2.2.2.1 p.2.2.2.2.2.2.2.1 p.2.2.2.2.2.2.2.2) m ((i : Int), (over : Int), s13, (j : Int), x, y, high, low, cst all) =
      some ((i : Int), (((rowN 18446744073709551616 (ln x i) ((lnL y).drop j) (i + j) over all).1 : Nat) : Int), s13, x, y, high, low, cst (rowN 18446744073709551616 (ln x i) ((lnL y).drop j) (i + j) over all).2) := by
  intro m
  induction m with
  | zero => intro j over all _ h; omega
  | succ m ih =>
    intro j over all hj hm ho ha
    by_cases h4 : j = 4
    · subst h4
      exact iter_end (mulExit _ _ _ _ _ _ _ _)
    · have hj' : j < 4 := by omega
      refine iter_more (mulRound hi hj' ho (ha _) s13 x y high low) ?_
      have hd : (lnL y).drop j = ln y j :: (lnL y).drop (j + 1) := by
        have : j = 0 ∨ j = 1 ∨ j = 2 ∨ j = 3 := by omega
        rcases this with rfl | rfl | rfl | rfl <;> rfl
      rw [hd]
      simp only [rowN]
      exact ih (j + 1) _ _ (by omega) (by omega) (row_lt (ln_lt x i) (ln_lt y j) (ha _) ho) (digs_set ha (Nat.mod_lt _ (by decide)))

theorem mulRound0 {i : Nat} {all : List Nat} (hi : i < 4) (ha : digs 18446744073709551616 all) (x y high low : Nat) :
    u256MulL0R (i : Int) x y high low (cst all) = some (.inl (((i + 1 : Nat) : Int), x, y, high, low, cst ((rowN 18446744073709551616 (ln x i) (lnL y) i 0 all).2.set (i + 4) (rowN 18446744073709551616 (ln x i) (lnL y) i 0 all).1))) := by
  have h1 := mulLoop1 hi (i : Int) x y high low 1000 0 0 all (by decide) (by decide) (by decide) ha
  have hw : IntKind.wrap .i64 ((i : Int) + 4) = ((i + 4 : Nat) : Int) := by
    have := wrapI (i + 4) (by omega)
    simpa using this
  have hw1 : IntKind.wrap .i64 ((i : Int) + 1) = ((i + 1 : Nat) : Int) := by
    have := wrapI (i + 1) (by omega)
    simpa using this
  have hb : Nat.blt (i + 4) 8 = true := blt_true (by omega)
  unfold u256MulL0R
  refine guard_step (decide_eq_true (by omega)) ?_
  refine bind_step ((u256MulL1_eq _ _ _ _ _ _ _ _ _).trans h1) ?_
  simp only [List.drop_zero, Nat.add_zero]
  rw [hw, toNat_nat, hw1]
  refine guard_step (nn _) (guard_step hb (guard_step hb ?_))
  rw [cst_set]

theorem mulExit0 (x y high low : Nat) (all : List Int) : u256MulL0R 4 x y high low all = some (.inr (high, low, all)) := by
  unfold u256MulL0R
  exact guard_else rfl rfl

theorem mulLoop0 (x y high low : Nat) : ∀ (m i : Nat) (all : List Nat), i ≤ 4 → 4 - i < m → digs 18446744073709551616 all →
    iter (fun p : Int × Nat × Nat × Nat × Nat × List Int => u256MulL0R p.1 p.2.1 p.2.2.1 p.2.2.2.1 p.2.2.2.2.1 p.2.2.2.2.2) m ((i : Int), x, y, high, low, cst all) =
      some (high, low, cst (mulN 18446744073709551616 (lnL y) ((lnL x).drop i) i all)) ∧ digs 18446744073709551616 (mulN 18446744073709551616 (lnL y) ((lnL x).drop i) i all) := by
  intro m
  induction m with
  | zero => intro i all _ h; omega
  | succ m ih =>
    intro i all hi hm ha
    by_cases h4 : i = 4
    · subst h4
      exact ⟨iter_end (mulExit0 _ _ _ _ _), ha⟩
    · have hi' : i < 4 := by omega
      have hd : (lnL x).drop i = ln x i :: (lnL x).drop (i + 1) := by
        have : i = 0 ∨ i = 1 ∨ i = 2 ∨ i = 3 := by omega
        rcases this with rfl | rfl | rfl | rfl <;> rfl
      obtain ⟨g1, g2⟩ := rowN_digs (ln_lt x i) (lnL y) i 0 all (lnL_digs y) (by decide) ha
      obtain ⟨k1, k2⟩ := ih (i + 1) _ (by omega) (by omega) (digs_set (i := i + 4) g2 g1)
      rw [hd]
      exact ⟨iter_more (mulRound0 hi' ha x y high low) k1, k2⟩

theorem mulN_len (B : Nat) (ys : List Nat) : ∀ (xs : List Nat) (i : Nat) (all : List Nat), (mulN B ys xs i all).length = all.length
  | [], _, _ => rfl
  | x :: xs, i, all => by simp only [mulN]; rw [mulN_len B ys xs]; simp [rowN_len]

theorem lnL_val {x : Nat} (h : x < M256) : valL 18446744073709551616 (lnL x) = x := by
  have := ln_sum h
  simp only [valL, lnL]
  omega

theorem digs_eight {l : List Nat} (hl : l.length = 8) : ∃ a b c d e f g h, l = [a, b, c, d, e, f, g, h] := by
  match l, hl with
  | [a, b, c, d, e, f, g, h], _ => exact ⟨a, b, c, d, e, f, g, h, rfl⟩

theorem u256Mul_val {x y : Nat} (hx : x < M256) (hy : y < M256) : ∃ h l : Nat, u256Mul x y = some (h, l) ∧ h < M256 ∧ l < M256 ∧ l + M256 * h = x * y := by
  have hz : digs 18446744073709551616 (List.replicate 8 0) := by
    intro k
    simp only [List.getD_eq_getElem?_getD, List.getElem?_replicate]
    split <;> simp
  obtain ⟨h1, h2⟩ := mulLoop0 x y 0 0 1000 0 (List.replicate 8 0) (by decide) (by decide) hz
  have hv := mulN_val 18446744073709551616 (lnL y) (lnL x) 0 (List.replicate 8 0) (by simp [lnL]) (fun k _ => by
    simp only [List.getD_eq_getElem?_getD, List.getElem?_replicate]
    split <;> simp)
  have hl := mulN_len 18446744073709551616 (lnL y) (lnL x) 0 (List.replicate 8 0)
  simp only [List.drop_zero] at h1 h2
  rw [lnL_val hx, lnL_val hy] at hv
  generalize mulN 18446744073709551616 (lnL y) (lnL x) 0 (List.replicate 8 0) = all at *
  obtain ⟨a, b, c, d, e, f, g, h, rfl⟩ := digs_eight (hl.trans (by simp))
  have ha := h2 0; have hb := h2 1; have hc := h2 2; have hd := h2 3
  have he := h2 4; have hf := h2 5; have hg := h2 6; have hh := h2 7
  simp only [List.getD_cons_zero, List.getD_cons_succ] at ha hb hc hd he hf hg hh
  have z : valL 18446744073709551616 (List.replicate 8 0) = 0 := by decide
  rw [z] at hv
  refine ⟨e + 18446744073709551616 * f + 340282366920938463463374607431768211456 * g + 6277101735386680763835789423207666416102355444464034512896 * h,
    a + 18446744073709551616 * b + 340282366920938463463374607431768211456 * c + 6277101735386680763835789423207666416102355444464034512896 * d, ?_, ?_, ?_, ?_⟩
  · rw [u256Mul_eq]
    unfold u256MulB
    have e0 : (List.replicate 8 (0 : Int)) = cst (List.replicate 8 0) := rfl
    rw [e0]
    refine bind_step ((u256MulL0_eq _ _ _ _ _ _).trans h1) ?_
    have s1 : spliceL (limbs 0) 0 (List.take 4 (List.take 4 (List.drop 0 (cst [a, b, c, d, e, f, g, h])))) = [(a : Int), (b : Int), (c : Int), (d : Int)] := rfl
    have s2 : spliceL (limbs 0) 0 (List.take 4 (List.take 4 (List.drop 4 (cst [a, b, c, d, e, f, g, h])))) = [(e : Int), (f : Int), (g : Int), (h : Int)] := rfl
    simp only [s1, s2]
    refine guard_step (by simp [inU64_nat ha, inU64_nat hb, inU64_nat hc, inU64_nat hd]) (guard_step (by simp [inU64_nat he, inU64_nat hf, inU64_nat hg, inU64_nat hh]) ?_)
    have f1 := four_val ha hb hc hd
    have f2 := four_val he hf hg hh
    simp only [ofLimbs, List.getD_cons_zero, List.getD_cons_succ]
    rw [f1, f2]
  · simp only [M256]; omega
  · simp only [M256]; omega
  · simp only [valL, Nat.pow_zero, Nat.mul_one, Nat.zero_add] at hv
    rw [← hv]
    simp only [M256]
    omega
end Go.Sy
