/- Points and their bytes: writing; points come back. -/
import Derived.Test.YtmjdciphkjapkaaDoorSyHF
set_option linter.unusedVariables false
set_option linter.unusedSimpArgs false
namespace Go.Sy
open Go

/-! ### Roots -/

theorem rootV_ok {v : Nat} (h : (rootV v).2 = 0) : (rootV v).1 * (rootV v).1 % prP = v % prP ∧ (rootV v).1 % 2 = 0 ∧ (rootV v).1 < prP := by
  have hodd := prP_odd
  have hr : v ^ quaP % prP < prP := Nat.mod_lt _ p_pos
  unfold rootV at h ⊢
  generalize v ^ quaP % prP = r at *
  by_cases h1 : r * r % prP = v % prP
  · rw [if_pos h1] at h ⊢
    by_cases h2 : r % 2 = 1
    · rw [if_pos h2] at h ⊢
      refine ⟨(neg_sq hr).trans h1, ?_, Nat.mod_lt _ p_pos⟩
      show (prP - r % prP) % prP % 2 = 0
      rw [Nat.mod_eq_of_lt hr, Nat.mod_eq_of_lt (show prP - r < prP by omega)]
      omega
    · rw [if_neg h2] at h ⊢
      exact ⟨h1, by show r % 2 = 0; omega, hr⟩
  · rw [if_neg h1] at h
    exact absurd h (by decide)

theorem negN {e : Nat} (h0 : e ≠ 0) (h : e < prP) : (0 + (prP - e % prP) % prP) % prP = prP - e := by
  rw [Nat.zero_add, Nat.mod_mod, Nat.mod_eq_of_lt h, Nat.mod_eq_of_lt (by omega)]

theorem rhs_ne (x : Nat) : rhsN x ≠ 0 := fun h => by
  have h1 : toF (rhsN x) = 0 := by rw [h]; rfl
  rw [toF_rhs] at h1
  exact no2 _ h1

theorem OnN_mk {x y : Nat} (hx : x < prP) (hy : y < prP) (h : y * y % prP = rhsN x) : OnN (x, y, false) := .inr ⟨rfl, hx, hy, h⟩
theorem OnN_y {x y : Nat} (h : OnN (x, y, false)) : x < prP ∧ y < prP ∧ y * y % prP = rhsN x := by
  rcases h with ⟨h0, _⟩ | ⟨_, h1, h2, h3⟩
  · cases h0
  · exact ⟨h1, h2, h3⟩
theorem OnN_ne {x y : Nat} (h : OnN (x, y, false)) : y ≠ 0 := fun e => by
  have := (OnN_y h).2.2
  rw [e] at this
  exact rhs_ne x (by rw [← this]; rfl)

/-- The points of an x. -/
theorem lift_props {x : Nat} {odd : Bool} {q : P3} (h : liftV x odd = (q, 0)) : ∃ y, q = (x, y, false) ∧ OnN q ∧ (decide (y % 2 = 1)) = odd := by
  unfold liftV at h
  have hok := @rootV_ok (rhsN x)
  generalize rootV (rhsN x) = rv at *
  by_cases hx : x < prP
  · rw [if_pos hx] at h
    by_cases h2 : rv.2 = 0
    · rw [if_pos h2] at h
      obtain ⟨k1, k2, k3⟩ := hok h2
      rw [Nat.mod_eq_of_lt (rhsN_lt x)] at k1
      have he : rv.1 ≠ 0 := fun e => by
        rw [e] at k1
        exact rhs_ne x (by rw [← k1]; rfl)
      have hodd := prP_odd
      have h3 := (Prod.mk.inj h).1
      cases odd with
      | true =>
        rw [if_pos rfl, negN he k3] at h3
        refine ⟨prP - rv.1, h3.symm, ?_, ?_⟩
        · rw [← h3]
          refine OnN_mk hx (by omega) ?_
          have := neg_sq k3
          rw [Nat.mod_eq_of_lt k3, Nat.mod_eq_of_lt (show prP - rv.1 < prP by omega)] at this
          rw [this, k1]
        · exact decide_eq_true (by omega)
      | false =>
        rw [if_neg (by decide)] at h3
        exact ⟨rv.1, h3.symm, by rw [← h3]; exact OnN_mk hx k3 k1, decide_eq_false (by omega)⟩
    · rw [if_neg h2] at h
      exact absurd (Prod.mk.inj h).2 (by decide)
  · rw [if_neg hx] at h
    exact absurd (Prod.mk.inj h).2 (by decide)

theorem lift_err {x : Nat} {odd : Bool} (h : (liftV x odd).2 ≠ 0) : (liftV x odd).1 = (0, 0, false) := by
  unfold liftV at h ⊢
  generalize rootV (rhsN x) = rv at *
  by_cases hx : x < prP
  · rw [if_pos hx] at h ⊢
    by_cases h2 : rv.2 = 0
    · rw [if_pos h2] at h; exact absurd rfl h
    · rw [if_neg h2]
  · rw [if_neg hx]

/-- A point comes back from its x and the parity of its y; the other one is its opposite. -/
theorem lift_on {x y : Nat} (h : OnN (x, y, false)) (odd : Bool) : liftV x odd = ((x, if odd = decide (y % 2 = 1) then y else (0 + (prP - y % prP) % prP) % prP, false), 0) := by
  obtain ⟨hx, hy, hv⟩ := OnN_y h
  have hy0 := OnN_ne h
  have hodd := prP_odd
  obtain ⟨e, h1, h2, h3, h4⟩ := root_of_sq y
  rw [Nat.mod_eq_of_lt hy, Nat.mod_eq_of_lt h2] at h4
  rw [hv] at h1
  unfold liftV
  rw [h1, if_pos hx, if_pos rfl, negN hy0 hy]
  have he0 : e ≠ 0 := fun e0 => by
    subst e0
    rcases h4 with h | h
    · exact hy0 h.symm
    · rw [Nat.sub_zero, Nat.mod_self] at h; exact hy0 h.symm
  rw [Nat.mod_eq_of_lt (show prP - e < prP by omega)] at h4
  show ((x, if odd = true then (0 + (prP - e % prP) % prP) % prP else e, false), (0 : Int)) = _
  rw [negN he0 h2]
  congr 2
  congr 1
  rcases h4 with h4 | h4
  · subst h4
    rw [decide_eq_false (by omega)]
    cases odd
    · rw [if_neg (by decide), if_pos rfl]
    · rw [if_pos rfl, if_neg (by decide)]
  · rw [decide_eq_true (by omega)]
    cases odd
    · rw [if_neg (by decide), if_neg (by decide)]; omega
    · rw [if_pos rfl, if_pos rfl]; exact h4

/-! ### Forms -/

def comprV (p : P3) : Int × List Int := if OnN p then (if p.2.2 = true then (51, []) else (0, (2 + ((p.2.1 % 2 : Nat) : Int)) :: put32 p.1)) else (50, [])
def expV (p : P3) : Int × List Int := if OnN p then (if p.2.2 = true then (51, []) else (0, 4 :: (put32 p.1 ++ put32 p.2.1))) else (50, [])

theorem mark_val (y : Nat) : orI .u8 (2 : Int) (IntKind.wrap .u8 (andI .u64 (limb y 0) (1 : Int))) = 2 + ((y % 2 : Nat) : Int) := by
  rw [limb_ln, and1 _ (ln_lt _ _), low_bit, wU8 _ (by omega)]
  rcases (show y % 2 = 0 ∨ y % 2 = 1 by omega) with h | h <;> rw [h] <;> decide

theorem put32_whole (x : Nat) : List.take 32 (List.drop 0 (put32 x)) = put32 x := by
  rw [List.drop_zero, List.take_of_length_le (by rw [put32_length]; omega)]

theorem curveCompress_val {p : P3} (hp : In256 p) : curveCompress p = some (comprV p) := by
  rw [curveCompress_eq]
  unfold curveCompressB comprV
  refine bind_step (curveOn_val hp) ?_
  by_cases h : OnN p
  · rw [if_pos h]
    refine guard_else (nt h) ?_
    by_cases hb : p.2.2 = true
    · rw [if_pos hb]; exact guard_step hb rfl
    · rw [if_neg hb]
      refine guard_else (by simpa using hb) (bind_step (u256Put_val _) ?_)
      rw [mark_val, put32_whole]
      refine guard_step ?_ rfl
      simp only [roomB, Bool.and_eq_true]
      exact ⟨Nat.ble_eq_true_of_le (by simp [put32_length]), Nat.ble_eq_true_of_le (by simp [put32_length])⟩
  · rw [if_neg h]; exact guard_step (nf h) rfl

theorem curveExpand_val {p : P3} (hp : In256 p) : curveExpand p = some (expV p) := by
  rw [curveExpand_eq]
  unfold curveExpandB expV
  refine bind_step (curveOn_val hp) ?_
  by_cases h : OnN p
  · rw [if_pos h]
    refine guard_else (nt h) ?_
    by_cases hb : p.2.2 = true
    · rw [if_pos hb]; exact guard_step hb rfl
    · rw [if_neg hb]
      refine guard_else (by simpa using hb) (bind_step (u256Put_val _) (bind_step (u256Put_val _) ?_))
      rw [put32_whole, put32_whole]
      refine guard_step ?_ (guard_step ?_ rfl)
      · simp only [roomB, Bool.and_eq_true]
        exact ⟨Nat.ble_eq_true_of_le (by simp [put32_length]), Nat.ble_eq_true_of_le (by simp [put32_length])⟩
      · simp only [roomB, Bool.and_eq_true]
        exact ⟨Nat.ble_eq_true_of_le (by simp [put32_length]), Nat.ble_eq_true_of_le (by simp [put32_length])⟩
  · rw [if_neg h]; exact guard_step (nf h) rfl

theorem Bytes.cons {a : Int} {b : List Int} (ha : 0 ≤ a ∧ a < 256) (h : Bytes b) : Bytes (a :: b)
  | 0 => ha
  | j + 1 => by simpa [List.getD_eq_getElem?_getD] using h j
theorem Bytes.app {a b : List Int} (h : Bytes a) (g : Bytes b) : Bytes (a ++ b) := fun j => by
  by_cases hj : j < a.length
  · rw [getD_appL hj]; exact h j
  · have := g (j - a.length)
    rw [List.getD_eq_getElem?_getD] at this ⊢
    rw [List.getElem?_append_right (by omega)]
    exact this

theorem parse_compr {x y : Nat} (h : OnN (x, y, false)) : parseV ((2 + ((y % 2 : Nat) : Int)) :: put32 x) = ((x, y, false), 0) := by
  obtain ⟨hx, hy, hv⟩ := OnN_y h
  have hl : ((2 + ((y % 2 : Nat) : Int)) :: put32 x).length = 33 := by simp [put32_length]
  have e1 : pX ((2 + ((y % 2 : Nat) : Int)) :: put32 x) = x := by
    unfold pX
    rw [show List.drop 1 ((2 + ((y % 2 : Nat) : Int)) :: put32 x) = put32 x from rfl, List.take_of_length_le (by rw [put32_length]; omega), get_put (lt256 hx)]
  have e0 : ((2 + ((y % 2 : Nat) : Int)) :: put32 x).getD 0 (0 : Int) = 2 + ((y % 2 : Nat) : Int) := rfl
  unfold parseV
  rw [e0, e1, hl, if_pos ⟨rfl, by omega⟩, if_pos hx, lift_on h]
  have e2 : (2 + ((y % 2 : Nat) : Int) == (3 : Int)) = decide (y % 2 = 1) := by
    rcases (show y % 2 = 0 ∨ y % 2 = 1 by omega) with h | h <;> rw [h] <;> rfl
  rw [e2, if_pos rfl]

theorem parse_exp {x y : Nat} (h : OnN (x, y, false)) : parseV (4 :: (put32 x ++ put32 y)) = ((x, y, false), 0) := by
  obtain ⟨hx, hy, hv⟩ := OnN_y h
  have hl : ((4 : Int) :: (put32 x ++ put32 y)).length = 65 := by simp [put32_length]
  have e1 : pX ((4 : Int) :: (put32 x ++ put32 y)) = x := by
    unfold pX
    rw [show List.drop 1 ((4 : Int) :: (put32 x ++ put32 y)) = put32 x ++ put32 y from rfl, List.take_left' (put32_length x), get_put (lt256 hx)]
  have e2 : pY ((4 : Int) :: (put32 x ++ put32 y)) = y := by
    unfold pY
    rw [show List.drop 33 ((4 : Int) :: (put32 x ++ put32 y)) = List.drop 32 (put32 x ++ put32 y) from rfl, List.drop_left' (put32_length x), List.take_of_length_le (by rw [put32_length]; omega), get_put (lt256 hy)]
  have e0 : ((4 : Int) :: (put32 x ++ put32 y)).getD 0 (0 : Int) = 4 := rfl
  unfold parseV
  rw [e0, e1, e2, hl, if_neg (fun h => absurd h.1 (by decide)), if_pos ⟨rfl, rfl⟩, if_pos ⟨hx, hy⟩, if_pos h]

theorem compr_bytes {x y : Nat} : Bytes ((2 + ((y % 2 : Nat) : Int)) :: put32 x) := Bytes.cons (by omega) (put32_bytes x)
theorem exp_bytes {x y : Nat} : Bytes ((4 : Int) :: (put32 x ++ put32 y)) := Bytes.cons (by omega) ((put32_bytes x).app (put32_bytes y))

theorem law05CurveBack_true {p : P3} (hp : In256 p) : law05CurveBack p = some true := by
  rw [law05CurveBack_eq]
  unfold law05CurveBackB
  refine bind_step law05IBase_val (guard_else rfl (bind_step (curveOn_val hp) ?_))
  by_cases h : OnN p
  · refine guard_else (nt h) ?_
    obtain ⟨x, y, b⟩ := p
    cases b with
    | true => exact guard_step rfl rfl
    | false =>
      refine guard_else rfl ?_
      have hc : comprV (x, y, false) = (0, (2 + ((y % 2 : Nat) : Int)) :: put32 x) := by
        unfold comprV; rw [if_pos h, if_neg Bool.false_ne_true]
      have he : expV (x, y, false) = (0, 4 :: (put32 x ++ put32 y)) := by
        unfold expV; rw [if_pos h, if_neg Bool.false_ne_true]
      obtain ⟨hx, hy, hv⟩ := OnN_y h
      have hy0 := OnN_ne h
      have hodd := prP_odd
      have hpar : (Int.tmod (limb y 0) (2 : Int) == (1 : Int)) = decide (y % 2 = 1) := by
        have : Int.tmod (limb y 0) (2 : Int) = ((y % 2 : Nat) : Int) := by
          rw [limb_ln, ← low_bit]; rfl
        rw [this]
        rcases (show y % 2 = 0 ∨ y % 2 = 1 by omega) with h | h <;> rw [h] <;> rfl
      have hl1 : liftV x (decide (y % 2 = 1)) = ((x, y, false), 0) := by rw [lift_on h, if_pos rfl]
      have hl2 : liftV x (!decide (y % 2 = 1)) = ((x, (0 + (prP - y % prP) % prP) % prP, false), 0) := by
        rw [lift_on h, if_neg (by cases decide (y % 2 = 1) <;> decide)]
      have hn : negV (x, y, false) = ((x, (0 + (prP - y % prP) % prP) % prP, false), 0) := by
        unfold negV; rw [if_pos h, ← neg_pt h]
      have hin : In256 ((x, (0 + (prP - y % prP) % prP) % prP, false) : P3) := ⟨lt256 hx, mod_p_lt _⟩
      rw [hpar]
      refine bind_step ((curveCompress_val hp).trans (congrArg some hc)) (bind_step ((curveExpand_val hp).trans (congrArg some he)) (bind_step (law05INum_val _) (guard_else rfl (bind_step (law05INum_val _) (guard_else rfl (guard_else ?_ (guard_else ?_ ?_)))))))
      · simp [put32_length]
      · simp [put32_length]
      refine bind_step ((curveParse_val compr_bytes).trans (congrArg some (parse_compr h))) (bind_step ((curveParse_val exp_bytes).trans (congrArg some (parse_exp h))) (bind_step ((curveLift_val (lt256 hx) _).trans (congrArg some hl1)) (bind_step ((curveLift_val (lt256 hx) _).trans (congrArg some hl2)) (bind_step ((curveNeg_val hp).trans (congrArg some hn)) ?_))))
      refine bind_step (law05INum_val _) (guard_else rfl (bind_step (law05INum_val _) (guard_else rfl (bind_step (law05INum_val _) (guard_else rfl (bind_step (law05INum_val _) (guard_else rfl (bind_step (law05INum_val _) (guard_else rfl ?_)))))))))
      refine guard_step (sameP hp) (guard_step (sameP hp) (guard_step (sameP hp) (guard_step (sameP hin) ?_)))
      congr 1
      show (!((u256eq x x) && ((u256eq ((0 + (prP - y % prP) % prP) % prP) y) && (false == false)))) = true
      rw [negN hy0 hy, u256eq_p (by omega) hy, decide_eq_false (by omega)]
      simp
  · exact guard_step (nf h) rfl

/-! ### The law of one form -/

theorem sameBLoop {a : List Int} (hn : a.length < 1152921504606846976) : ∀ (r i fuel : Nat), i + r = a.length → r < fuel →
    iter (fun p : List Int × List Int × Int => law05ISameL0R p.1 p.2.1 p.2.2) fuel (a, a, (i : Int)) = some (.inr ())
  | 0, i, fuel, hi, hf => by
    obtain ⟨fuel, rfl⟩ : ∃ n, fuel = n + 1 := ⟨fuel - 1, by omega⟩
    refine iter_end ?_
    show law05ISameL0R a a (i : Int) = _
    unfold law05ISameL0R
    exact guard_else (decide_eq_false (by omega)) rfl
  | r + 1, i, fuel, hi, hf => by
    obtain ⟨fuel, rfl⟩ : ∃ n, fuel = n + 1 := ⟨fuel - 1, by omega⟩
    refine iter_more ?_ (sameBLoop hn r (i + 1) fuel (by omega) (by omega))
    show law05ISameL0R a a (i : Int) = _
    unfold law05ISameL0R
    have e : Int.toNat (i : Int) = i := rfl
    rw [e]
    refine guard_step (decide_eq_true (by omega)) (guard_step (by simp) (guard_step (blt_of (by omega)) (guard_step (by simp) (guard_step (blt_of (by omega)) (guard_else (by simp) ?_)))))
    rw [wI64z _ (by omega) (by omega)]; rfl

theorem law05ISame_self {a : List Int} (hn : a.length < 1152921504606846976) : law05ISame a a = some true := by
  have hbig := bigFuel_eq
  rw [law05ISame_eq]
  unfold law05ISameB
  exact guard_else (by simp) (bind_step ((law05ISameL0_eq _ _ _).trans (sameBLoop hn a.length 0 bigFuel (by omega) (by omega))) rfl)

theorem parse_err {data : List Int} (h : (parseV data).2 ≠ 0) : (parseV data).1 = (0, 0, false) := by
  unfold parseV at h ⊢
  split
  · rename_i h1
    rw [if_pos h1] at h
    split
    · rename_i h2
      rw [if_pos h2] at h
      exact lift_err h
    · rfl
  · rename_i h1
    rw [if_neg h1] at h
    split
    · rename_i h2
      rw [if_pos h2] at h
      split
      · rename_i h3
        rw [if_pos h3] at h
        split
        · rename_i h4
          rw [if_pos h4] at h
          exact absurd rfl h
        · rfl
      · rfl
    · rfl

theorem head_tail {data : List Int} {n : Nat} (h : data.length = n + 1) : data = data.getD 0 (0 : Int) :: data.drop 1 := by
  cases data with
  | nil => simp at h
  | cons a l => rfl

theorem putX {data : List Int} (hb : Bytes data) {k : Nat} (hl : 32 + k ≤ data.length) : put32 (getV (List.take 32 (List.drop k data))).1 = List.take 32 (List.drop k data) := by
  have h1 : (List.take 32 (List.drop k data)).length = 32 := cut_len (by omega)
  unfold getV
  rw [h1, if_neg (by omega)]
  exact put_get (hb.cut 32 k) h1

theorem law05CurveOne_true {data : List Int} (hn : data.length ≤ 140737488351232) (hb : Bytes data) : law05CurveOne data = some true := by
  rw [law05CurveOne_eq]
  unfold law05CurveOneB
  have k0 : List.take data.length (List.drop 0 (data ++ marks)) = data := by simp
  have c1 : Nat.ble (0 + data.length) (data ++ marks).length = true := Nat.ble_eq_true_of_le (by simp)
  refine bind_step law05IBase_val (bind_step (law05ILent_val hn) (guard_step c1 ?_))
  show (curveParse (List.take data.length (List.drop 0 (data ++ marks)))).bind _ = _
  rw [k0]
  refine bind_step (curveParse_val hb) (guard_else rfl (bind_step (law05INum_val _) ?_))
  have hin := parseV_lt hb
  by_cases he : (parseV data).2 = 0
  · refine guard_else (by simp [he]) ?_
    -- what was read
    have key : (data.length = 33 ∧ ∃ x y, (parseV data).1 = (x, y, false) ∧ OnN (x, y, false) ∧ (2 + ((y % 2 : Nat) : Int)) :: put32 x = data) ∨ (data.length = 65 ∧ ∃ x y, (parseV data).1 = (x, y, false) ∧ OnN (x, y, false) ∧ (4 : Int) :: (put32 x ++ put32 y) = data) := by
      unfold parseV at he ⊢
      by_cases h1 : data.length = 33 ∧ (data.getD 0 (0 : Int) = 2 ∨ data.getD 0 (0 : Int) = 3)
      · rw [if_pos h1] at he ⊢
        obtain ⟨hl, hd⟩ := h1
        by_cases h2 : pX data < prP
        · rw [if_pos h2] at he ⊢
          obtain ⟨y, g1, g2, g3⟩ := lift_props (x := pX data) (odd := data.getD 0 (0 : Int) == (3 : Int)) (q := (liftV (pX data) (data.getD 0 (0 : Int) == (3 : Int))).1) (Prod.ext rfl he)
          refine .inl ⟨hl, pX data, y, g1, by rw [← g1]; exact g2, ?_⟩
          have e1 : put32 (pX data) = List.drop 1 data := by
            unfold pX
            rw [putX hb (by omega), List.take_of_length_le (by simp; omega)]
          have e2 : 2 + ((y % 2 : Nat) : Int) = data.getD 0 (0 : Int) := by
            rcases hd with hd | hd
            · rw [hd] at g3 ⊢
              have : ¬ y % 2 = 1 := of_decide_eq_false g3
              omega
            · rw [hd] at g3 ⊢
              have : y % 2 = 1 := of_decide_eq_true g3
              omega
          rw [e1, e2]
          exact (head_tail (n := 32) hl).symm
        · rw [if_neg h2] at he; exact absurd he (by decide)
      · rw [if_neg h1] at he ⊢
        by_cases h3 : data.length = 65 ∧ data.getD 0 (0 : Int) = 4
        · rw [if_pos h3] at he ⊢
          obtain ⟨hl, hd⟩ := h3
          by_cases h4 : pX data < prP ∧ pY data < prP
          · rw [if_pos h4] at he ⊢
            by_cases h5 : OnN (pX data, pY data, false)
            · rw [if_pos h5] at he ⊢
              refine .inr ⟨hl, pX data, pY data, rfl, h5, ?_⟩
              have e1 : put32 (pX data) = List.take 32 (List.drop 1 data) := putX hb (by omega)
              have e2 : put32 (pY data) = List.drop 33 data := by
                unfold pY
                rw [putX hb (by omega), List.take_of_length_le (by simp; omega)]
              rw [e1, e2, show List.drop 33 data = List.drop 32 (List.drop 1 data) by rw [List.drop_drop], List.take_append_drop, ← hd]
              exact (head_tail (n := 64) hl).symm
            · rw [if_neg h5] at he; exact absurd he (by decide)
          · rw [if_neg h4] at he; exact absurd he (by decide)
        · rw [if_neg h3] at he; exact absurd he (by decide)
    refine bind_step (curveCompress_val hin) ?_
    rcases key with ⟨hl, x, y, g1, g2, g3⟩ | ⟨hl, x, y, g1, g2, g3⟩
    · have hc : comprV (parseV data).1 = (0, data) := by
        rw [g1, ← g3]; unfold comprV; rw [if_pos g2, if_neg Bool.false_ne_true]
      have hon : OnN (parseV data).1 := by rw [g1]; exact g2
      rw [hc]
      refine guard_else (by simp; omega) (bind_step (curveOn_val hin) (guard_step (decide_eq_true hon) (guard_step (by rw [g1]; rfl) (bind_step (law05INum_val _) (guard_step rfl (bind_step (law05ISame_self (by show data.length < _; omega)) rfl))))))
    · have hc : expV (parseV data).1 = (0, data) := by
        rw [g1, ← g3]; unfold expV; rw [if_pos g2, if_neg Bool.false_ne_true]
      have hon : OnN (parseV data).1 := by rw [g1]; exact g2
      refine guard_step (by simp; omega) (bind_step ((curveExpand_val hin).trans (congrArg some hc)) (bind_step (curveOn_val hin) (guard_step (decide_eq_true hon) (guard_step (by rw [g1]; rfl) (bind_step (law05INum_val _) (guard_step rfl (bind_step (law05ISame_self (by show data.length < _; omega)) rfl)))))))
  · refine guard_step (by simp [he]) ?_
    rw [parse_err he]
    exact guard_step rfl rfl
end Go.Sy
