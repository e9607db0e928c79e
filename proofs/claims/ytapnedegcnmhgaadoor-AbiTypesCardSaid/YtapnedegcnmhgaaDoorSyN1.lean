/- Plain laws: what reads a text: bytes, words, numbers; the bases. -/
import Derived.Test.YtapnedegcnmhgaaDoorSyN0
import Derived.Test.YtapnedegcnmhgaaDoorSyVT
set_option linter.unusedVariables false
set_option linter.unusedSimpArgs false
namespace Go.Sy
open Go

theorem fail_val (r : List UInt8 × Int) : abiReaderFail r = some (.inr ()) := by rw [abiReaderFail_eq]; rfl

theorem is_val {s : List UInt8} {p : Nat} (hs : s.length < 4611686018427387904) (hp : p ≤ s.length) (c : Nat) : abiReaderIs (s, (p : Int)) (c : Int) = some (hasB s p c, s, ((if hasB s p c then p + 1 else p : Nat) : Int)) := by
  rw [abiReaderIs_eq]
  unfold abiReaderIsB
  simp only [Int.toNat_natCast]
  by_cases h : p < s.length
  · refine guard_step (dec_t (by omega)) (guard_step (dec_t (by omega)) (guard_step (blt_t h) ?_))
    have e : ((((s.getD p 0).toNat : Nat) : Int) == (c : Int)) = ((s.getD p 0).toNat == c) := by
      rw [Bool.eq_iff_iff]; simp; omega
    rw [e]
    have e2 : hasB s p c = ((s.getD p 0).toNat == c) := by simp [hasB, h]
    rw [e2]
    cases ((s.getD p 0).toNat == c) with
    | true =>
      have := wI_add p 1 (by omega)
      simp only [cond_true, if_true]
      rw [← this]; rfl
    | false => rfl
  · have e2 : hasB s p c = false := by simp [hasB, h]
    refine guard_else (dec_f (by omega)) ?_
    rw [e2]; rfl

theorem starts_val {s : List UInt8} {p : Nat} (hs : s.length < 4611686018427387904) (hp : p ≤ s.length) (w : List UInt8) (hw : w ≠ []) (hl : w.length < 100) : ref22IStarts s (p : Int) w = some (startsB s p w) := by
  rw [ref22IStarts_eq]
  unfold ref22IStartsB
  rw [wI_add p w.length (by omega)]
  simp only [Int.toNat_natCast]
  by_cases h : p + w.length ≤ s.length
  · refine guard_step (dec_t (by omega)) (guard_step (dec_t (by omega)) (guard_step (ble_t h) (guard_step (dec_t (by omega)) (guard_step (ble_t (by omega)) ?_))))
    rw [Nat.add_sub_cancel_left]; rfl
  · refine guard_else (dec_f (by omega)) ?_
    cases hb : startsB s p w
    · rfl
    · exact absurd (startsB_le hb hw) h

theorem hasPrefix_val {s : List UInt8} {p : Nat} (hp : p ≤ s.length) (w : List UInt8) (hw : w ≠ []) : stringsHasPrefix (List.take (s.length - p) (List.drop p s)) w = some (startsB s p w) := by
  have e0 : List.take (s.length - p) (List.drop p s) = s.drop p := List.take_of_length_le (by simp)
  rw [e0, stringsHasPrefix_eq]
  unfold stringsHasPrefixB
  refine bind_step (a := startsB s p w) ?_ rfl
  rw [internalstringsliteHasPrefix_eq]
  unfold internalstringsliteHasPrefixB
  simp only [Int.toNat_natCast, Nat.sub_zero, List.drop_zero]
  by_cases h : w.length ≤ (s.drop p).length
  · exact guard_step (dec_t (by omega)) (guard_step (dec_t (by omega)) (guard_step (ble_t h) rfl))
  · refine guard_else (dec_f (by omega)) ?_
    cases hb : startsB s p w
    · rfl
    · have := startsB_le hb hw
      simp only [List.length_drop] at h
      omega

theorem digit_val (c : UInt8) : ref22IDigit ((c.toNat : Nat) : Int) = some (decide (48 ≤ c.toNat ∧ c.toNat ≤ 57)) := by
  rw [ref22IDigit_eq]
  unfold ref22IDigitB
  by_cases h : 48 ≤ c.toNat
  · refine guard_step (dec_t (by omega)) ?_
    congr 1
    rw [decide_eq_decide]
    omega
  · refine guard_else (dec_f (by omega)) ?_
    congr 1
    exact (dec_f (by omega)).symm

theorem dig_wrap (c : UInt8) (h : 48 ≤ c.toNat) (h2 : c.toNat ≤ 57) : IntKind.wrap .i64 (IntKind.wrap .u8 (((c.toNat : Nat) : Int) - (48 : Int))) = ((c.toNat - 48 : Nat) : Int) := by
  rw [wB _ (by omega) (by omega), wI _ (by omega) (by omega)]
  omega

/-! ### Numbers -/

theorem refNumberL_val {s : List UInt8} (hs : s.length < 4611686018427387904) (a : Int) : ∀ (n m : Nat) (i v : Nat), s.length - i < m → m ≤ n → i ≤ s.length →
    iter (fun p : List UInt8 × Int × Int × Int => ref22INumberL0R p.1 p.2.1 p.2.2.1 p.2.2.2) n (s, a, ((cap v : Nat) : Int), (i : Int)) = some (s, a, ((cap (fold10 v (digsAt s i)) : Nat) : Int), ((i + (digsAt s i).length : Nat) : Int))
  | 0, m, i, v, h1, h2, h3 => by omega
  | n + 1, m, i, v, h1, h2, h3 => by
    by_cases h : i < s.length
    · by_cases hd : 48 ≤ s[i].toNat ∧ s[i].toNat ≤ 57
      · have hc := cap_le v
        refine iter_more (b := (s, a, ((cap (10 * v + (s[i].toNat - 48)) : Nat) : Int), ((i + 1 : Nat) : Int))) ?_ ?_
        · simp only
          unfold ref22INumberL0R
          simp only [Int.toNat_natCast]
          refine guard_step (dec_t (by omega)) (guard_step (dec_t (by omega)) (guard_step (blt_t h) (bind_step (digit_val _) (guard_step (dec_t (by rw [getD_some h]; exact hd)) (guard_step (dec_t (by omega)) (guard_step (blt_t h) ?_))))))
          rw [getD_some h, dig_wrap _ hd.1 hd.2]
          have e1 : IntKind.wrap .i64 ((10 : Int) * ((cap v : Nat) : Int)) = ((10 * cap v : Nat) : Int) := wI_mul 10 (cap v) (by omega)
          rw [e1, wI_add _ _ (by omega), wI_one i (by omega)]
          have e2 : (if (65537 : Int) < ((10 * cap v + (s[i].toNat - 48) : Nat) : Int) then (65537 : Int) else ((10 * cap v + (s[i].toNat - 48) : Nat) : Int)) = ((cap (10 * v + (s[i].toNat - 48)) : Nat) : Int) := by
            have e3 : cap (10 * cap v + (s[i].toNat - 48)) = cap (10 * v + (s[i].toNat - 48)) := by unfold cap; split <;> split <;> (try split) <;> omega
            rw [← e3]
            unfold cap
            split <;> split <;> (try split) <;> (try split) <;> omega
          rw [e2]
        · rw [refNumberL_val hs a n (m - 1) (i + 1) _ (by omega) (by omega) (by omega), digsAt_cons h hd.1 hd.2]
          simp only [List.length_cons, fold10, List.foldl_cons]
          congr 4
          omega
      · rw [digsAt_nil h hd]
        refine iter_end ?_
        simp only
        unfold ref22INumberL0R
        simp only [Int.toNat_natCast]
        refine guard_step (dec_t (by omega)) (guard_step (dec_t (by omega)) (guard_step (blt_t h) (bind_step (digit_val _) (guard_else (dec_f (by rw [getD_some h]; exact hd)) rfl))))
    · rw [digsAt_end h]
      refine iter_end ?_
      simp only
      unfold ref22INumberL0R
      exact guard_else (dec_f (by omega)) rfl

theorem refNumber_val {s : List UInt8} (hs : s.length < 4611686018427387904) (hb : s.length < 1000000000000000000) {p : Nat} (hp : p ≤ s.length) :
    ref22INumber s (p : Int) = some (if digsAt s p = [] ∨ (digsAt s p).head? = some 0 ∨ 65536 < fold10 0 (digsAt s p) then ((0 : Int), (p : Int)) else (((fold10 0 (digsAt s p) : Nat) : Int), ((p + (digsAt s p).length : Nat) : Int))) := by
  rw [ref22INumber_eq]
  unfold ref22INumberB
  have h0 : ref22INumberL0 s (p : Int) (0 : Int) (p : Int) = some (s, (p : Int), ((cap (fold10 0 (digsAt s p)) : Nat) : Int), ((p + (digsAt s p).length : Nat) : Int)) := by
    rw [ref22INumberL0_eq]
    exact refNumberL_val hs (p : Int) bigFuel (s.length - p + 1) p 0 (by omega) (by rw [bigFuel_eq]; omega) hp
  refine bind_step h0 ?_
  simp only
  by_cases hd : digsAt s p = []
  · rw [if_pos (.inl hd), hd]
    exact guard_step (by simp) rfl
  · obtain ⟨hlt, d1, d2, d3⟩ := digsAt_ne hd
    have hlen : 0 < (digsAt s p).length := List.length_pos_iff.2 hd
    refine guard_else (by simp; omega) (guard_step (dec_t (by omega)) ?_)
    simp only [Int.toNat_natCast]
    refine guard_step (blt_t hlt) ?_
    have hh : (digsAt s p).head? = some (s[p].toNat - 48) := by rw [d3]; rfl
    by_cases hz : s[p].toNat = 48
    · rw [if_pos (.inr (.inl (by rw [hh, hz])))]
      exact guard_step (by rw [getD_some hlt, hz]; rfl) rfl
    · have hz' : (digsAt s p).head? ≠ some 0 := by rw [hh]; simp; omega
      refine guard_else (by rw [getD_some hlt]; simp; omega) ?_
      by_cases hv : 65536 < fold10 0 (digsAt s p)
      · rw [if_pos (.inr (.inr hv))]
        refine guard_step (dec_t ?_) rfl
        have : cap (fold10 0 (digsAt s p)) > 65536 := by unfold cap; split <;> omega
        omega
      · have : cap (fold10 0 (digsAt s p)) = fold10 0 (digsAt s p) := by unfold cap; split <;> omega
        rw [if_neg (by simp only [hd, hz', false_or]; exact hv), this]
        exact guard_else (dec_f (by omega)) rfl

theorem numberL_val {s : List UInt8} (hs : s.length < 4611686018427387904) {b f : Nat} (hb : b ≤ 65535) (hf : f < s.length) : ∀ (n m : Nat) (i v : Nat), s.length - i < m → m ≤ n → i ≤ s.length → v ≤ b →
    (if digsAt s i ≠ [] ∧ ((s.getD f 0).toNat = 48 ∨ b < fold10 v (digsAt s i)) then
      ∃ r, iter (fun p : Int × Int × Int × (List UInt8 × Int) => abiReaderNumberL0R p.1 p.2.1 p.2.2.1 p.2.2.2) n ((b : Int), (v : Int), (f : Int), (s, (i : Int))) = some (.inl ((), r))
    else iter (fun p : Int × Int × Int × (List UInt8 × Int) => abiReaderNumberL0R p.1 p.2.1 p.2.2.1 p.2.2.2) n ((b : Int), (v : Int), (f : Int), (s, (i : Int))) = some (.inr (((fold10 v (digsAt s i) : Nat) : Int), s, ((i + (digsAt s i).length : Nat) : Int))))
  | 0, m, i, v, h1, h2, h3, hv => by omega
  | n + 1, m, i, v, h1, h2, h3, hv => by
    by_cases h : i < s.length
    · by_cases hd : 48 ≤ s[i].toNat ∧ s[i].toNat ≤ 57
      · have hc := digsAt_cons h hd.1 hd.2
        have e1 : IntKind.wrap .i64 ((10 : Int) * (v : Int)) = ((10 * v : Nat) : Int) := wI_mul 10 v (by omega)
        have ed := dig_wrap _ hd.1 hd.2
        have e2 : IntKind.wrap .i64 (((10 * v : Nat) : Int) + ((s[i].toNat - 48 : Nat) : Int)) = ((10 * v + (s[i].toNat - 48) : Nat) : Int) := wI_add _ _ (by omega)
        have e3 : IntKind.wrap .i64 ((i : Int) + (1 : Int)) = ((i + 1 : Nat) : Int) := wI_add i 1 (by omega)
        have hge := fold10_ge (digsAt s (i + 1)) (10 * v + (s[i].toNat - 48))
        have hfold : fold10 v (digsAt s i) = fold10 (10 * v + (s[i].toNat - 48)) (digsAt s (i + 1)) := by rw [hc]; rfl
        by_cases hbig : b < 10 * v + (s[i].toNat - 48)
        · rw [if_pos ⟨by rw [hc]; simp, .inr (by omega)⟩]
          refine ⟨(s, (i : Int)), iter_end ?_⟩
          simp only
          unfold abiReaderNumberL0R
          simp only [Int.toNat_natCast, getD_some h, ed, e1, e2, e3]
          refine guard_step (dec_t (by omega)) (guard_step (dec_t (by omega)) (guard_step (blt_t h) (guard_step (dec_t (by omega)) (guard_step (dec_t (by omega)) (guard_step (blt_t h) (guard_step (dec_t (by omega)) (guard_step (dec_t (by omega)) (guard_step (blt_t h) (guard_step (dec_t (by omega)) (bind_step (fail_val _) rfl))))))))))
        · by_cases hz : (s.getD f 0).toNat = 48
          · rw [if_pos ⟨by rw [hc]; simp, .inl hz⟩]
            refine ⟨(s, (i : Int)), iter_end ?_⟩
            simp only
            unfold abiReaderNumberL0R
            simp only [Int.toNat_natCast, getD_some h, ed, e1, e2, e3]
            refine guard_step (dec_t (by omega)) (guard_step (dec_t (by omega)) (guard_step (blt_t h) (guard_step (dec_t (by omega)) (guard_step (dec_t (by omega)) (guard_step (blt_t h) (guard_step (dec_t (by omega)) (guard_step (dec_t (by omega)) (guard_step (blt_t h) (guard_else (dec_f (by omega)) (guard_step (dec_t (by omega)) (guard_step (blt_t hf) (guard_step (by rw [hz]; rfl) (bind_step (fail_val _) rfl)))))))))))))
          · have step : (fun p : Int × Int × Int × (List UInt8 × Int) => abiReaderNumberL0R p.1 p.2.1 p.2.2.1 p.2.2.2) ((b : Int), (v : Int), (f : Int), (s, (i : Int))) = some (.inl ((b : Int), ((10 * v + (s[i].toNat - 48) : Nat) : Int), (f : Int), (s, ((i + 1 : Nat) : Int)))) := by
              simp only
              unfold abiReaderNumberL0R
              simp only [Int.toNat_natCast, getD_some h, ed, e1, e2, e3]
              refine guard_step (dec_t (by omega)) (guard_step (dec_t (by omega)) (guard_step (blt_t h) (guard_step (dec_t (by omega)) (guard_step (dec_t (by omega)) (guard_step (blt_t h) (guard_step (dec_t (by omega)) (guard_step (dec_t (by omega)) (guard_step (blt_t h) (guard_else (dec_f (by omega)) (guard_step (dec_t (by omega)) (guard_step (blt_t hf) (guard_else ?_ rfl))))))))))))
              simp only [beq_eq_false_iff_ne, ne_eq]; omega
            have ih := numberL_val hs hb hf n (m - 1) (i + 1) (10 * v + (s[i].toNat - 48)) (by omega) (by omega) (by omega) (by omega)
            have hlen : i + (digsAt s i).length = i + 1 + (digsAt s (i + 1)).length := by rw [hc]; simp; omega
            by_cases hcond : digsAt s i ≠ [] ∧ ((s.getD f 0).toNat = 48 ∨ b < fold10 v (digsAt s i))
            · rw [if_pos hcond]
              have hb2 : b < fold10 v (digsAt s i) := hcond.2.resolve_left hz
              have hne : digsAt s (i + 1) ≠ [] := fun e => by rw [hfold, e] at hb2; simp [fold10] at hb2; omega
              rw [if_pos ⟨hne, .inr (by rw [← hfold]; exact hb2)⟩] at ih
              obtain ⟨r, hr⟩ := ih
              exact ⟨r, iter_more step hr⟩
            · rw [if_neg hcond]
              have hb2 : ¬ b < fold10 v (digsAt s i) := fun hlt => hcond ⟨by rw [hc]; simp, .inr hlt⟩
              rw [if_neg (fun hh => (hh.2.resolve_left hz |> fun x => hb2 (by rw [hfold]; exact x)))] at ih
              rw [hlen, hfold]
              exact iter_more step ih
      · rw [digsAt_nil h hd, if_neg (by simp)]
        refine iter_end ?_
        simp only
        unfold abiReaderNumberL0R
        simp only [Int.toNat_natCast, getD_some h]
        refine guard_step (dec_t (by omega)) (guard_step (dec_t (by omega)) (guard_step (blt_t h) ?_))
        by_cases h1 : 48 ≤ s[i].toNat
        · exact guard_step (dec_t (by omega)) (guard_step (dec_t (by omega)) (guard_step (blt_t h) (guard_else (dec_f (by omega)) rfl)))
        · exact guard_else (dec_f (by omega)) rfl
    · rw [digsAt_end h, if_neg (by simp)]
      refine iter_end ?_
      simp only
      unfold abiReaderNumberL0R
      exact guard_else (dec_f (by show ¬ ((i : Int) < ((s.length : Nat) : Int)); omega)) rfl

theorem number_val {s : List UInt8} (hs : s.length < 1000000000000000000) {b p : Nat} (hb : b ≤ 65535) (hp : p ≤ s.length) :
    abiReaderNumber (s, (p : Int)) (b : Int) = some (if digsAt s p ≠ [] ∧ ((digsAt s p).head? = some 0 ∨ b < fold10 0 (digsAt s p)) then .inr () else .inl (((fold10 0 (digsAt s p) : Nat) : Int), s, ((p + (digsAt s p).length : Nat) : Int))) := by
  rw [abiReaderNumber_eq]
  unfold abiReaderNumberB
  rw [abiReaderNumberL0_eq]
  by_cases hlt : p < s.length
  · have key := numberL_val (by omega) hb hlt bigFuel (s.length - p + 1) p 0 (by omega) (by rw [bigFuel_eq]; omega) hp (Nat.zero_le _)
    have hh : digsAt s p ≠ [] → ((digsAt s p).head? = some 0 ↔ (s.getD p 0).toNat = 48) := by
      intro hd
      obtain ⟨_, d1, d2, d3⟩ := digsAt_ne hd
      rw [d3, getD_some hlt]
      simp
      omega
    by_cases hc : digsAt s p ≠ [] ∧ ((digsAt s p).head? = some 0 ∨ b < fold10 0 (digsAt s p))
    · rw [if_pos hc]
      rw [if_pos ⟨hc.1, by rw [← hh hc.1]; exact hc.2⟩] at key
      obtain ⟨r, hr⟩ := key
      exact bind_step hr rfl
    · rw [if_neg hc]
      rw [if_neg (fun h => hc ⟨h.1, by rw [hh h.1]; exact h.2⟩)] at key
      exact bind_step key rfl
  · rw [digsAt_end hlt]
    simp only [ne_eq, not_true_eq_false, false_and, if_false]
    obtain ⟨n, hn⟩ := big_pos
    rw [hn]
    refine bind_step (iter_end (r := .inr ((0 : Int), s, (p : Int))) ?_) rfl
    simp only
    unfold abiReaderNumberL0R
    exact guard_else (dec_f (by show ¬ ((p : Int) < ((s.length : Nat) : Int)); omega)) rfl
end Go.Sy
