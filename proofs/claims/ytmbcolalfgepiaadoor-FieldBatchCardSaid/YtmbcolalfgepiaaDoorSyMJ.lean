/- The document's sums, differences and products. -/
import Derived.Test.YtmbcolalfgepiaaDoorSyMI
set_option linter.unusedVariables false
set_option linter.unusedSimpArgs false
namespace Go.Sy
open Go

theorem wu64 (n : Nat) (h : n < 18446744073709551616) : IntKind.wrap .u64 (n : Int) = (n : Int) := by rw [wrap64, Nat.mod_eq_of_lt h]
theorem wi1 (n : Nat) (h : n < 1000000) : IntKind.wrap .i64 ((n : Int) + 1) = ((n + 1 : Nat) : Int) := by
  have := wrapI (n + 1) (by omega)
  simpa using this

theorem valL_drop (B : Nat) {l : List Nat} {i : Nat} (h : i < l.length) : valL B (l.drop i) = l.getD i 0 + B * valL B (l.drop (i + 1)) := by
  rw [List.drop_eq_getElem_cons h, valL]
  simp [List.getD_eq_getElem?_getD, List.getElem?_eq_getElem h]

theorem addRound {i c : Nat} {a b : List Nat} (hi : i < 8) (ha : digs 4294967296 a) (hb : digs 4294967296 b) (hc : c ≤ 1) (b4 : Nat) :
    ref01AddL0R (c : Int) (i : Int) b4 (cst a) (cst b) =
      some (.inl ((((a.getD i 0 + b.getD i 0 + c) / 4294967296 : Nat) : Int), ((i + 1 : Nat) : Int), b4, cst (a.set i ((a.getD i 0 + b.getD i 0 + c) % 4294967296)), cst b)) := by
  have h1 := ha i
  have h2 := hb i
  unfold ref01AddL0R
  rw [toNat_nat, cst_getD, cst_getD, ← Int.natCast_add, wu64 _ (by omega), ← Int.natCast_add, wu64 _ (by omega), tmod32, wdiv32 _ (by omega), wi1 _ (by omega), cst_set]
  refine guard_step (decide_eq_true (by omega)) ?_
  repeat' first | refine guard_step (nn _) ?_ | refine guard_step (blt_true hi) ?_ | fail
  rfl

theorem addLoop (b4 : Nat) {b : List Nat} (hbl : b.length = 8) (hb : digs 4294967296 b) : ∀ (m i c : Nat) (a : List Nat), i ≤ 8 → 8 - i < m → c ≤ 1 → digs 4294967296 a → a.length = 8 →
    ∃ (c' : Nat) (a' : List Nat), iter (fun p : Int × Int × Nat × List Int × List Int => ref01AddL0R p.1 p.2.1 p.2.2.1 p.2.2.2.1 p.2.2.2.2) m ((c : Int), (i : Int), b4, cst a, cst b) = some ((c' : Int), b4, cst a') ∧ c' ≤ 1 ∧ digs 4294967296 a' ∧ a'.length = 8 ∧
      valL 4294967296 a' + c' * 4294967296 ^ 8 = valL 4294967296 a + valL 4294967296 (b.drop i) * 4294967296 ^ i + c * 4294967296 ^ i := by
  intro m
  induction m with
  | zero => intro i c a _ h; omega
  | succ m ih =>
    intro i c a hi hm hc ha hl
    by_cases h8 : i = 8
    · subst h8
      refine ⟨c, a, iter_end ?_, hc, ha, hl, ?_⟩
      · unfold ref01AddL0R
        exact guard_else rfl rfl
      · rw [List.drop_eq_nil_of_le (by omega)]; simp [valL]
    · have hi' : i < 8 := by omega
      have h1 := ha i
      have h2 := hb i
      obtain ⟨c', a', e, g1, g2, g3, g4⟩ := ih (i + 1) ((a.getD i 0 + b.getD i 0 + c) / 4294967296) (a.set i ((a.getD i 0 + b.getD i 0 + c) % 4294967296)) (by omega) (by omega) (by omega) (digs_set ha (Nat.mod_lt _ (by decide))) (by simp [hl])
      refine ⟨c', a', iter_more (addRound hi' ha hb hc b4) e, g1, g2, g3, ?_⟩
      have hs := valL_set 4294967296 a i ((a.getD i 0 + b.getD i 0 + c) % 4294967296) (by omega)
      rw [g4, valL_drop 4294967296 (show i < b.length by omega)]
      generalize a.getD i 0 = u at *
      generalize b.getD i 0 = v at *
      generalize valL 4294967296 (b.drop (i + 1)) = V at *
      have hd := Nat.div_add_mod (u + v + c) 4294967296
      generalize (u + v + c) / 4294967296 = q at *
      generalize (u + v + c) % 4294967296 = r at *
      rw [Nat.pow_succ]
      have e1 : q * (4294967296 ^ i * 4294967296) = 4294967296 * q * 4294967296 ^ i := by rw [Nat.mul_comm (4294967296 ^ i), ← Nat.mul_assoc, Nat.mul_comm q]
      have e2 : V * (4294967296 ^ i * 4294967296) = 4294967296 * V * 4294967296 ^ i := by rw [Nat.mul_comm (4294967296 ^ i), ← Nat.mul_assoc, Nat.mul_comm V]
      have e3 : (4294967296 * q + r) * 4294967296 ^ i = (u + v + c) * 4294967296 ^ i := by rw [hd]
      rw [e1, e2]
      simp only [Nat.add_mul] at e3 ⊢
      omega

theorem ref01Add_val {x y : Nat} (hx : x < M256) (hy : y < M256) : ∃ r o : Nat, ref01Add x y = some (r, (o : Int)) ∧ r < M256 ∧ o ≤ 1 ∧ r + M256 * o = x + y := by
  obtain ⟨c, a, e, g1, g2, g3, g4⟩ := addLoop 0 (b := dg y) rfl (dg_digs y) 1000 0 0 (dg x) (by decide) (by decide) (by decide) (dg_digs x) rfl
  obtain ⟨n1, n2⟩ := number_val g3 g2
  refine ⟨_, c, ?_, n2, g1, ?_⟩
  · rw [ref01Add_eq]
    unfold ref01AddB
    exact bind_step (digits_val x) (bind_step (digits_val y) (bind_step ((ref01AddL0_eq _ _ _ _ _).trans e) (bind_step n1 rfl)))
  · rw [List.drop_zero, dg_val hx, dg_val hy] at g4
    have : (4294967296 : Nat) ^ 8 = M256 := by decide
    rw [this, Nat.mul_comm c] at g4
    omega

theorem subRound {i c : Nat} {a b : List Nat} (hi : i < 8) (ha : digs 4294967296 a) (hb : digs 4294967296 b) (hl : a.length = 8) (hc : c ≤ 1) (b4 : Nat) :
    ref01SubL0R (c : Int) (i : Int) b4 (cst a) (cst b) =
      if a.getD i 0 < b.getD i 0 + c then some (.inl (((1 : Nat) : Int), ((i + 1 : Nat) : Int), b4, cst (a.set i (a.getD i 0 + 4294967296 - (b.getD i 0 + c))), cst b))
      else some (.inl (((0 : Nat) : Int), ((i + 1 : Nat) : Int), b4, cst (a.set i (a.getD i 0 - (b.getD i 0 + c))), cst b)) := by
  have h1 := ha i
  have h2 := hb i
  have hlen : i < (cst a).length := by simp [cst, hl]; omega
  unfold ref01SubL0R
  rw [toNat_nat, cst_getD, cst_getD, ← Int.natCast_add, wu64 _ (by omega), wi1 _ (by omega)]
  refine guard_step (decide_eq_true (by omega)) ?_
  split
  · rename_i hlt
    repeat' first | refine guard_step (nn _) ?_ | refine guard_step (blt_true hi) ?_ | fail
    refine guard_step (decide_eq_true (by omega)) ?_
    repeat' first | refine guard_step (nn _) ?_ | refine guard_step (blt_true hi) ?_ | fail
    rw [show ((a.getD i 0 : Nat) : Int) + 4294967296 = ((a.getD i 0 + 4294967296 : Nat) : Int) by omega, wu64 _ (by omega), cst_set, cst_getD]
    have hg : (a.set i (a.getD i 0 + 4294967296)).getD i 0 = a.getD i 0 + 4294967296 := by
      simp [List.getD_eq_getElem?_getD, List.getElem?_set_self (show i < a.length by omega)]
    rw [hg, show ((a.getD i 0 + 4294967296 : Nat) : Int) - ((b.getD i 0 + c : Nat) : Int) = ((a.getD i 0 + 4294967296 - (b.getD i 0 + c) : Nat) : Int) by omega, wu64 _ (by omega), cst_set]
    simp
  · rename_i hlt
    repeat' first | refine guard_step (nn _) ?_ | refine guard_step (blt_true hi) ?_ | fail
    refine guard_else (decide_eq_false (by omega)) ?_
    repeat' first | refine guard_step (nn _) ?_ | refine guard_step (blt_true hi) ?_ | fail
    rw [show ((a.getD i 0 : Nat) : Int) - ((b.getD i 0 + c : Nat) : Int) = ((a.getD i 0 - (b.getD i 0 + c) : Nat) : Int) by omega, wu64 _ (by omega), cst_set]
    rfl

theorem subLoop (b4 : Nat) {b : List Nat} (hbl : b.length = 8) (hb : digs 4294967296 b) : ∀ (m i c : Nat) (a : List Nat), i ≤ 8 → 8 - i < m → c ≤ 1 → digs 4294967296 a → a.length = 8 →
    ∃ (c' : Nat) (a' : List Nat), iter (fun p : Int × Int × Nat × List Int × List Int => ref01SubL0R p.1 p.2.1 p.2.2.1 p.2.2.2.1 p.2.2.2.2) m ((c : Int), (i : Int), b4, cst a, cst b) = some ((c' : Int), b4, cst a') ∧ c' ≤ 1 ∧ digs 4294967296 a' ∧ a'.length = 8 ∧
      valL 4294967296 a' + valL 4294967296 (b.drop i) * 4294967296 ^ i + c * 4294967296 ^ i = valL 4294967296 a + c' * 4294967296 ^ 8 := by
  intro m
  induction m with
  | zero => intro i c a _ h; omega
  | succ m ih =>
    intro i c a hi hm hc ha hl
    by_cases h8 : i = 8
    · subst h8
      refine ⟨c, a, iter_end ?_, hc, ha, hl, ?_⟩
      · unfold ref01SubL0R
        exact guard_else rfl rfl
      · rw [List.drop_eq_nil_of_le (by omega)]; simp [valL]
    · have hi' : i < 8 := by omega
      have h1 := ha i
      have h2 := hb i
      have e := subRound hi' ha hb hl hc b4
      have key : ∀ (q r : Nat), q ≤ 1 → r < 4294967296 → r + b.getD i 0 + c = a.getD i 0 + 4294967296 * q →
          ref01SubL0R (c : Int) (i : Int) b4 (cst a) (cst b) = some (.inl ((q : Int), ((i + 1 : Nat) : Int), b4, cst (a.set i r), cst b)) →
          ∃ (c' : Nat) (a' : List Nat), iter (fun p : Int × Int × Nat × List Int × List Int => ref01SubL0R p.1 p.2.1 p.2.2.1 p.2.2.2.1 p.2.2.2.2) (m + 1) ((c : Int), (i : Int), b4, cst a, cst b) = some ((c' : Int), b4, cst a') ∧ c' ≤ 1 ∧ digs 4294967296 a' ∧ a'.length = 8 ∧
            valL 4294967296 a' + valL 4294967296 (b.drop i) * 4294967296 ^ i + c * 4294967296 ^ i = valL 4294967296 a + c' * 4294967296 ^ 8 := by
        intro q r hq hr hqr hround
        obtain ⟨c', a', e, g1, g2, g3, g4⟩ := ih (i + 1) q (a.set i r) (by omega) (by omega) hq (digs_set ha hr) (by simp [hl])
        refine ⟨c', a', iter_more hround e, g1, g2, g3, ?_⟩
        have hs := valL_set 4294967296 a i r (by omega)
        rw [valL_drop 4294967296 (show i < b.length by omega)]
        generalize a.getD i 0 = u at *
        generalize b.getD i 0 = v at *
        generalize valL 4294967296 (b.drop (i + 1)) = V at *
        rw [Nat.pow_succ] at g4
        have e1 : q * (4294967296 ^ i * 4294967296) = 4294967296 * q * 4294967296 ^ i := by rw [Nat.mul_comm (4294967296 ^ i), ← Nat.mul_assoc, Nat.mul_comm q]
        have e2 : V * (4294967296 ^ i * 4294967296) = 4294967296 * V * 4294967296 ^ i := by rw [Nat.mul_comm (4294967296 ^ i), ← Nat.mul_assoc, Nat.mul_comm V]
        have e3 : (r + v + c) * 4294967296 ^ i = (u + 4294967296 * q) * 4294967296 ^ i := by rw [hqr]
        rw [e1, e2] at g4
        simp only [Nat.add_mul] at e3 ⊢
        omega
      by_cases hlt : a.getD i 0 < b.getD i 0 + c
      · rw [if_pos hlt] at e
        exact key 1 _ (by omega) (by omega) (by omega) e
      · rw [if_neg hlt] at e
        exact key 0 _ (by omega) (by omega) (by omega) e

theorem ref01Sub_val {x y : Nat} (hx : x < M256) (hy : y < M256) : ∃ r o : Nat, ref01Sub x y = some (r, (o : Int)) ∧ r < M256 ∧ o ≤ 1 ∧ r + y = x + M256 * o := by
  obtain ⟨c, a, e, g1, g2, g3, g4⟩ := subLoop 0 (b := dg y) rfl (dg_digs y) 1000 0 0 (dg x) (by decide) (by decide) (by decide) (dg_digs x) rfl
  obtain ⟨n1, n2⟩ := number_val g3 g2
  refine ⟨_, c, ?_, n2, g1, ?_⟩
  · rw [ref01Sub_eq]
    unfold ref01SubB
    exact bind_step (digits_val x) (bind_step (digits_val y) (bind_step ((ref01SubL0_eq _ _ _ _ _).trans e) (bind_step n1 rfl)))
  · rw [List.drop_zero, dg_val hx, dg_val hy] at g4
    have : (4294967296 : Nat) ^ 8 = M256 := by decide
    rw [this, Nat.mul_comm c] at g4
    omega

/-! ### Products -/

theorem wcast {a b : Nat} (h : a + b < 18446744073709551616) : IntKind.wrap .u64 ((a : Int) + (b : Int)) = ((a + b : Nat) : Int) := by
  rw [← Int.natCast_add, wu64 _ h]

theorem mulRoundR {i j c : Nat} {a b p : List Nat} (hi : i < 8) (hj : j < 8) (hc : c < 4294967296) (ha : digs 4294967296 a) (hb : digs 4294967296 b) (hp : digs 4294967296 p) (b4 b5 : Nat) :
    ref01MulL1R (i : Int) (c : Int) (j : Int) b4 b5 (cst a) (cst b) (cst p) =
      some (.inl ((i : Int), (((a.getD i 0 * b.getD j 0 + p.getD (i + j) 0 + c) / 4294967296 : Nat) : Int), ((j + 1 : Nat) : Int), b4, b5, cst a, cst b, cst (p.set (i + j) ((a.getD i 0 * b.getD j 0 + p.getD (i + j) 0 + c) % 4294967296)))) := by
  have h1 := ha i
  have h2 := hb j
  have h3 := hp (i + j)
  have hm : a.getD i 0 * b.getD j 0 ≤ 4294967295 * 4294967295 := Nat.mul_le_mul (by omega) (by omega)
  have hw : IntKind.wrap .i64 ((i : Int) + (j : Int)) = ((i + j : Nat) : Int) := by rw [← Int.natCast_add]; exact wrapI _ (by omega)
  unfold ref01MulL1R
  rw [hw, toNat_nat, toNat_nat, toNat_nat, cst_getD, cst_getD, cst_getD, ← Int.natCast_mul, wu64 _ (by omega), wcast (by omega), wcast (by omega), tmod32, wdiv32 _ (by omega), wi1 _ (by omega), cst_set]
  rw [show p.getD (i + j) 0 + a.getD i 0 * b.getD j 0 + c = a.getD i 0 * b.getD j 0 + p.getD (i + j) 0 + c by omega]
  refine guard_step (decide_eq_true (by omega)) ?_
  repeat' first | refine guard_step (nn _) ?_ | refine guard_step (blt_true hi) ?_ | refine guard_step (blt_true hj) ?_ | refine guard_step (blt_true (show i + j < 16 by omega)) ?_ | fail
  rfl

theorem mulLoopR1 {i : Nat} (hi : i < 8) {a b : List Nat} (hbl : b.length = 8) (ha : digs 4294967296 a) (hb : digs 4294967296 b) (b4 b5 : Nat) : ∀ (m j c : Nat) (p : List Nat), j ≤ 8 → 8 - j < m → c < 4294967296 → digs 4294967296 p →
    iter (fun p : Int × Int × Int × Nat × Nat × List Int × List Int × List Int => ref01MulL1R p.1 p.2.1 p.2.2.1 p.2.2.2.1 p.2.2.2.2.1 p.2.2.2.2.2.1 p.2.2.2.2.2.2.1 p.2.2.2.2.2.2.2) m ((i : Int), (c : Int), (j : Int), b4, b5, cst a, cst b, cst p) =
      some ((i : Int), (((rowN 4294967296 (a.getD i 0) (b.drop j) (i + j) c p).1 : Nat) : Int), b4, b5, cst a, cst b, cst (rowN 4294967296 (a.getD i 0) (b.drop j) (i + j) c p).2) := by
  intro m
  induction m with
  | zero => intro j c p _ h; omega
  | succ m ih =>
    intro j c p hj hm hc hp
    by_cases h8 : j = 8
    · subst h8
      rw [List.drop_eq_nil_of_le (by omega)]
      refine iter_end ?_
      unfold ref01MulL1R
      exact guard_else rfl rfl
    · have hj' : j < 8 := by omega
      refine iter_more (mulRoundR hi hj' hc ha hb hp b4 b5) ?_
      have hd : b.drop j = b.getD j 0 :: b.drop (j + 1) := by
        rw [List.drop_eq_getElem_cons (by omega)]
        simp [List.getD_eq_getElem?_getD, List.getElem?_eq_getElem (show j < b.length by omega)]
      rw [hd]
      simp only [rowN]
      exact ih (j + 1) _ _ (by omega) (by omega) (row_lt (ha i) (hb j) (hp _) hc) (digs_set hp (Nat.mod_lt _ (by decide)))

theorem mulRoundR0 {i : Nat} (hi : i < 8) {a b p : List Nat} (hbl : b.length = 8) (ha : digs 4294967296 a) (hb : digs 4294967296 b) (hp : digs 4294967296 p) (b4 b5 : Nat) :
    ref01MulL0R (i : Int) b4 b5 (cst a) (cst b) (cst p) =
      some (.inl (((i + 1 : Nat) : Int), b4, b5, cst a, cst b, cst ((rowN 4294967296 (a.getD i 0) b i 0 p).2.set (i + b.length) (rowN 4294967296 (a.getD i 0) b i 0 p).1))) := by
  have h1 := mulLoopR1 hi hbl ha hb b4 b5 1000 0 0 p (by decide) (by decide) (by decide) hp
  have hw : IntKind.wrap .i64 ((i : Int) + 8) = ((i + 8 : Nat) : Int) := by
    have := wrapI (i + 8) (by omega)
    simpa using this
  unfold ref01MulL0R
  refine guard_step (decide_eq_true (by omega)) ?_
  refine bind_step ((ref01MulL1_eq _ _ _ _ _ _ _ _).trans h1) ?_
  simp only [List.drop_zero, Nat.add_zero]
  rw [hw, toNat_nat, wi1 _ (by omega), hbl]
  have hb' : Nat.blt (i + 8) 16 = true := blt_true (by omega)
  refine guard_step (nn _) (guard_step hb' (guard_step hb' ?_))
  rw [cst_set]

theorem mulLoopR0 {a b : List Nat} (hal : a.length = 8) (hbl : b.length = 8) (ha : digs 4294967296 a) (hb : digs 4294967296 b) (b4 b5 : Nat) : ∀ (m i : Nat) (p : List Nat), i ≤ 8 → 8 - i < m → digs 4294967296 p →
    iter (fun p : Int × Nat × Nat × List Int × List Int × List Int => ref01MulL0R p.1 p.2.1 p.2.2.1 p.2.2.2.1 p.2.2.2.2.1 p.2.2.2.2.2) m ((i : Int), b4, b5, cst a, cst b, cst p) =
      some (b4, b5, cst (mulN 4294967296 b (a.drop i) i p)) ∧ digs 4294967296 (mulN 4294967296 b (a.drop i) i p) := by
  intro m
  induction m with
  | zero => intro i p _ h; omega
  | succ m ih =>
    intro i p hi hm hp
    by_cases h8 : i = 8
    · subst h8
      rw [List.drop_eq_nil_of_le (by omega)]
      refine ⟨iter_end ?_, hp⟩
      unfold ref01MulL0R
      exact guard_else rfl rfl
    · have hi' : i < 8 := by omega
      have hd : a.drop i = a.getD i 0 :: a.drop (i + 1) := by
        rw [List.drop_eq_getElem_cons (by omega)]
        simp [List.getD_eq_getElem?_getD, List.getElem?_eq_getElem (show i < a.length by omega)]
      obtain ⟨g1, g2⟩ := rowN_digs (ha i) b i 0 p hb (by decide) hp
      obtain ⟨k1, k2⟩ := ih (i + 1) _ (by omega) (by omega) (digs_set (i := i + b.length) g2 g1)
      rw [hd]
      simp only [mulN]
      exact ⟨iter_more (mulRoundR0 hi' hbl ha hb hp b4 b5) k1, k2⟩

theorem halvesRound {i : Nat} (hi : i < 8) (p low high : List Nat) (b4 b5 : Nat) :
    ref01MulL2R (i : Int) b4 b5 (cst p) (cst low) (cst high) = some (.inl (((i + 1 : Nat) : Int), b4, b5, cst p, cst (low.set i (p.getD i 0)), cst (high.set i (p.getD (i + 8) 0)))) := by
  have hw : IntKind.wrap .i64 ((i : Int) + 8) = ((i + 8 : Nat) : Int) := by
    have := wrapI (i + 8) (by omega)
    simpa using this
  unfold ref01MulL2R
  rw [hw, toNat_nat, toNat_nat, wi1 _ (by omega), cst_getD, cst_getD, cst_set, cst_set]
  refine guard_step (decide_eq_true (by omega)) ?_
  repeat' first | refine guard_step (nn _) ?_ | refine guard_step (blt_true hi) ?_ | refine guard_step (blt_true (show i < 16 by omega)) ?_ | refine guard_step (blt_true (show i + 8 < 16 by omega)) ?_ | fail
  rfl

theorem halvesLoop (p : List Nat) (b4 b5 : Nat) : ∀ (m i : Nat) (low high : List Nat), i ≤ 8 → 8 - i < m → low.length = 8 → high.length = 8 → (∀ k, k < i → low.getD k 0 = p.getD k 0 ∧ high.getD k 0 = p.getD (k + 8) 0) →
    ∃ low' high', iter (fun p : Int × Nat × Nat × List Int × List Int × List Int => ref01MulL2R p.1 p.2.1 p.2.2.1 p.2.2.2.1 p.2.2.2.2.1 p.2.2.2.2.2) m ((i : Int), b4, b5, cst p, cst low, cst high) = some (b4, b5, cst low', cst high') ∧
      low'.length = 8 ∧ high'.length = 8 ∧ ∀ k, k < 8 → low'.getD k 0 = p.getD k 0 ∧ high'.getD k 0 = p.getD (k + 8) 0 := by
  intro m
  induction m with
  | zero => intro i low high _ h; omega
  | succ m ih =>
    intro i low high hi hm hl hh hk
    by_cases h8 : i = 8
    · subst h8
      refine ⟨low, high, iter_end ?_, hl, hh, hk⟩
      unfold ref01MulL2R
      exact guard_else rfl rfl
    · have hi' : i < 8 := by omega
      obtain ⟨low', high', e, g⟩ := ih (i + 1) (low.set i (p.getD i 0)) (high.set i (p.getD (i + 8) 0)) (by omega) (by omega) (by simp [hl]) (by simp [hh]) (fun k hk' => by
        by_cases h : i = k
        · subst h
          simp [List.getD_eq_getElem?_getD, List.getElem?_set_self (show i < low.length by omega), List.getElem?_set_self (show i < high.length by omega)]
        · rw [getD_set h, getD_set h]; exact hk k (by omega))
      exact ⟨low', high', iter_more (halvesRound hi' p low high b4 b5) e, g⟩

theorem ref01Mul_val {x y : Nat} (hx : x < M256) (hy : y < M256) : ∃ h l : Nat, ref01Mul x y = some (h, l) ∧ h < M256 ∧ l < M256 ∧ l + M256 * h = x * y := by
  have hz : ∀ n, digs 4294967296 (List.replicate n 0) := by
    intro n k
    simp only [List.getD_eq_getElem?_getD, List.getElem?_replicate]
    split <;> simp
  have rp : ∀ n, List.replicate n (0 : Int) = cst (List.replicate n 0) := fun n => by simp [cst]
  obtain ⟨h1, h2⟩ := mulLoopR0 (a := dg x) (b := dg y) rfl rfl (dg_digs x) (dg_digs y) 0 0 1000 0 (List.replicate 16 0) (by decide) (by decide) (hz _)
  have hv := mulN_val 4294967296 (dg y) (dg x) 0 (List.replicate 16 0) (by simp [dg]) (fun k _ => by
    simp only [List.getD_eq_getElem?_getD, List.getElem?_replicate]
    split <;> simp)
  have hl := mulN_len 4294967296 (dg y) (dg x) 0 (List.replicate 16 0)
  simp only [List.drop_zero] at h1 h2
  rw [dg_val hx, dg_val hy] at hv
  generalize mulN 4294967296 (dg y) (dg x) 0 (List.replicate 16 0) = all at *
  rw [show valL 4294967296 (List.replicate 16 0) = 0 by decide] at hv
  obtain ⟨low, high, e, l1, l2, hk⟩ := halvesLoop all 0 0 1000 0 (List.replicate 8 0) (List.replicate 8 0) (by decide) (by decide) (by simp) (by simp) (fun k h => by omega)
  have dl : digs 4294967296 low := fun k => by
    rcases Nat.lt_or_ge k 8 with h | h
    · rw [(hk k h).1]; exact h2 k
    · simp [List.getD_eq_getElem?_getD, List.getElem?_eq_none (show low.length ≤ k by omega)]
  have dh : digs 4294967296 high := fun k => by
    rcases Nat.lt_or_ge k 8 with h | h
    · rw [(hk k h).2]; exact h2 _
    · simp [List.getD_eq_getElem?_getD, List.getElem?_eq_none (show high.length ≤ k by omega)]
  obtain ⟨n1, n2⟩ := number_val l1 dl
  obtain ⟨n3, n4⟩ := number_val l2 dh
  refine ⟨_, _, ?_, n4, n2, ?_⟩
  · rw [ref01Mul_eq]
    unfold ref01MulB
    rw [rp, rp]
    exact bind_step (digits_val x) (bind_step (digits_val y) (bind_step ((ref01MulL0_eq _ _ _ _ _ _).trans h1) (bind_step ((ref01MulL2_eq _ _ _ _ _ _).trans e) (bind_step n3 (bind_step n1 rfl)))))
  · have key : all = low ++ high := by
      refine List.ext_getElem? fun k => ?_
      have g : ∀ (l : List Nat) (k : Nat), k < l.length → l[k]? = some (l.getD k 0) := fun l k h => by
        simp [List.getD_eq_getElem?_getD, List.getElem?_eq_getElem h]
      rcases Nat.lt_or_ge k 8 with h | h
      · rw [List.getElem?_append_left (by omega), g _ _ (by simp at hl; omega), g _ _ (by omega), (hk k h).1]
      · rw [List.getElem?_append_right (by omega), l1]
        rcases Nat.lt_or_ge k 16 with h' | h'
        · rw [g _ _ (by simp at hl; omega), g _ _ (by omega), (hk (k - 8) (by omega)).2, Nat.sub_add_cancel h]
        · rw [List.getElem?_eq_none (by simp at hl; omega), List.getElem?_eq_none (by omega)]
    rw [key] at hv
    have ap : ∀ (l m : List Nat), valL 4294967296 (l ++ m) = valL 4294967296 l + 4294967296 ^ l.length * valL 4294967296 m := by
      intro l
      induction l with
      | nil => intro m; simp [valL]
      | cons d l ih => intro m; simp only [List.cons_append, valL, ih, List.length_cons, Nat.pow_succ, Nat.mul_add]; rw [Nat.mul_comm (4294967296 ^ l.length) 4294967296, Nat.mul_assoc]; omega
    rw [ap, l1, show (4294967296 : Nat) ^ 8 = M256 by decide] at hv
    rw [hv]; simp
end Go.Sy
