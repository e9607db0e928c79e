/- Plain laws: the bases, as both read them. -/
import Derived.Test.YtapnedegcnmhgaaDoorSyN3
set_option linter.unusedVariables false
set_option linter.unusedSimpArgs false
namespace Go.Sy
open Go

theorem fold_pos {ds : List Nat} (h1 : ds ≠ []) (h2 : ds.head? ≠ some 0) : 1 ≤ fold10 0 ds := by
  cases ds with
  | nil => exact absurd rfl h1
  | cons d ds =>
    have hd : d ≠ 0 := fun e => h2 (by rw [e]; rfl)
    have := fold10_ge ds (10 * 0 + d)
    simp only [fold10, List.foldl_cons] at this ⊢
    omega

theorem sized_val {s : List UInt8} (hs : s.length < 1000000000000000000) {q : Nat} (hq : q ≤ s.length) (w wo usual : Int) {step most : Nat} (h1 : 1 ≤ step) (h2 : most ≤ 65536) :
    ref22ISized s (q : Int) w wo usual (step : Int) (most : Int) = some (if digsAt s q = [] then (RT.mk wo usual [], (q : Int), true) else if (digsAt s q).head? = some 0 ∨ fold10 0 (digsAt s q) % step ≠ 0 ∨ most < fold10 0 (digsAt s q) then (RT.mk 0 0 [], 0, false) else (RT.mk w ((fold10 0 (digsAt s q) : Nat) : Int) [], ((q + (digsAt s q).length : Nat) : Int), true)) := by
  rw [ref22ISized_eq]
  unfold ref22ISizedB
  by_cases hlt : q < s.length
  · refine guard_else (dec_f (by omega)) (guard_step (dec_t (by omega)) ?_)
    simp only [Int.toNat_natCast]
    refine guard_step (blt_t hlt) (bind_step (digit_val _) ?_)
    rw [getD_some hlt]
    by_cases hd : 48 ≤ s[q].toNat ∧ s[q].toNat ≤ 57
    · have hc := digsAt_cons hlt hd.1 hd.2
      have hne : digsAt s q ≠ [] := by rw [hc]; simp
      have hlen : 0 < (digsAt s q).length := List.length_pos_iff.2 hne
      rw [if_neg hne]
      refine guard_else (by rw [dec_t hd]; rfl) (bind_step (refNumber_val (by omega) hs hq) ?_)
      by_cases hbad : digsAt s q = [] ∨ (digsAt s q).head? = some 0 ∨ 65536 < fold10 0 (digsAt s q)
      · rw [if_pos hbad]
        rw [if_pos (hbad.resolve_left hne |>.imp id fun h => .inr (by omega))]
        exact guard_step (by simp) rfl
      · rw [if_neg hbad]
        simp only
        refine guard_else (by simp; omega) (guard_else (by simp; omega) ?_)
        have em : Int.tmod ((fold10 0 (digsAt s q) : Nat) : Int) (step : Int) = ((fold10 0 (digsAt s q) % step : Nat) : Int) := rfl
        rw [em]
        by_cases hm : fold10 0 (digsAt s q) % step = 0
        · refine guard_else (by rw [hm]; rfl) ?_
          by_cases hv : most < fold10 0 (digsAt s q)
          · rw [if_pos (.inr (.inr hv))]
            exact guard_step (dec_t (by omega)) rfl
          · rw [if_neg (by simp only [hm, ne_eq, not_true_eq_false, false_or, not_or]; exact ⟨fun h => hbad (.inr (.inl h)), hv⟩)]
            exact guard_else (dec_f (by omega)) rfl
        · rw [if_pos (.inr (.inl hm))]
          exact guard_step (by simp; omega) rfl
    · rw [if_pos (digsAt_nil hlt hd)]
      exact guard_step (by rw [dec_f hd]; rfl) rfl
  · rw [if_pos (digsAt_end hlt)]
    exact guard_step (dec_t (by omega)) rfl

theorem restNum_val {s : List UInt8} (hs : s.length < 1000000000000000000) {q : Nat} (hq : q ≤ s.length) (nm : List UInt8) (hn : nm.length < 100) (what : Int) (hw : what ≠ 6) :
    abiReaderRest (s, (q : Int)) (nm, what, 8, 256, 8, 256) = some (if digsAt s q = [] then .inl (KT.mk true what 256 [] (nm ++ decI 256) false 1 1 0, s, (q : Int)) else if (digsAt s q).head? = some 0 ∨ fold10 0 (digsAt s q) % 8 ≠ 0 ∨ 256 < fold10 0 (digsAt s q) then .inr () else .inl (KT.mk true what ((fold10 0 (digsAt s q) : Nat) : Int) [] (nm ++ decI ((fold10 0 (digsAt s q) : Nat) : Int)) false 1 1 0, s, ((q + (digsAt s q).length : Nat) : Int))) := by
  rw [abiReaderRest_eq]
  unfold abiReaderRestB
  have ew : (what == (6 : Int)) = false := by simpa using hw
  refine guard_else rfl (bind_step (number_val (b := 256) hs (by omega) hq) ?_)
  by_cases hnil : digsAt s q = []
  · rw [hnil, if_neg (by simp), if_pos rfl]
    simp only [sumK, fold10, List.foldl_nil, List.length_nil, Nat.add_zero]
    refine guard_step rfl (guard_step rfl (bind_step (itoa_full (n := 256) (by omega) (by omega)) (guard_step (ble_t ?_) ?_)))
    · have := decI_len3 (n := 256) (by omega); omega
    · rw [ew]
  · rw [if_neg hnil]
    by_cases hbad : (digsAt s q).head? = some 0 ∨ 256 < fold10 0 (digsAt s q)
    · rw [if_pos ⟨hnil, hbad⟩, if_pos (hbad.imp id .inr)]; rfl
    · rw [if_neg (fun h => hbad h.2)]
      have hpos := fold_pos hnil (fun h => hbad (.inl h))
      have hz : ((((fold10 0 (digsAt s q) : Nat) : Int)) == (0 : Int)) = false := by simp; omega
      have hle : ¬ 256 < fold10 0 (digsAt s q) := fun h => hbad (.inr h)
      simp only [sumK]
      refine guard_else hz (guard_else hz (guard_else rfl ?_))
      have em : Int.tmod ((fold10 0 (digsAt s q) : Nat) : Int) (8 : Int) = ((fold10 0 (digsAt s q) % 8 : Nat) : Int) := rfl
      rw [em]
      by_cases hm : fold10 0 (digsAt s q) % 8 = 0
      · rw [if_neg (by simp only [hm, ne_eq, not_true_eq_false, false_or, not_or]; exact ⟨fun h => hbad (.inl h), hle⟩)]
        refine guard_else (by rw [hm]; rfl) (guard_else (dec_f (by omega)) (bind_step (itoa_full (by omega) (by omega)) (guard_step (ble_t ?_) (by rw [ew]))))
        have := decI_len3 (n := ((fold10 0 (digsAt s q) : Nat) : Int)) (by omega); omega
      · rw [if_pos (.inr (.inl hm))]
        exact guard_step (by simp; omega) (bind_step (fail_val _) rfl)

theorem restBytes_val {s : List UInt8} (hs : s.length < 1000000000000000000) {q : Nat} (hq : q ≤ s.length) :
    abiReaderRest (s, (q : Int)) (strC8, 4, 1, 32, 1, 0) = some (if digsAt s q = [] then .inl (KT.mk true 5 0 [] strC8 true 1 1 0, s, (q : Int)) else if (digsAt s q).head? = some 0 ∨ fold10 0 (digsAt s q) % 1 ≠ 0 ∨ 32 < fold10 0 (digsAt s q) then .inr () else .inl (KT.mk true 4 ((fold10 0 (digsAt s q) : Nat) : Int) [] (strC8 ++ decI ((fold10 0 (digsAt s q) : Nat) : Int)) false 1 1 0, s, ((q + (digsAt s q).length : Nat) : Int))) := by
  rw [abiReaderRest_eq]
  unfold abiReaderRestB
  have l8 : strC8.length = 5 := rfl
  refine guard_else rfl (bind_step (number_val (b := 32) hs (by omega) hq) ?_)
  by_cases hnil : digsAt s q = []
  · rw [hnil, if_neg (by simp), if_pos rfl]
    simp only [sumK, fold10, List.foldl_nil, List.length_nil, Nat.add_zero]
    exact guard_step rfl (guard_else rfl (guard_step rfl rfl))
  · rw [if_neg hnil]
    by_cases hbad : (digsAt s q).head? = some 0 ∨ 32 < fold10 0 (digsAt s q)
    · rw [if_pos ⟨hnil, hbad⟩, if_pos (hbad.imp id .inr)]; rfl
    · rw [if_neg (fun h => hbad h.2)]
      have hpos := fold_pos hnil (fun h => hbad (.inl h))
      have hz : ((((fold10 0 (digsAt s q) : Nat) : Int)) == (0 : Int)) = false := by simp; omega
      have hle : ¬ 32 < fold10 0 (digsAt s q) := fun h => hbad (.inr h)
      simp only [sumK]
      refine guard_else hz (guard_else hz (guard_else rfl ?_))
      have em : Int.tmod ((fold10 0 (digsAt s q) : Nat) : Int) (1 : Int) = ((fold10 0 (digsAt s q) % 1 : Nat) : Int) := rfl
      rw [em]
      have hm : fold10 0 (digsAt s q) % 1 = 0 := by omega
      rw [if_neg (by simp only [hm, ne_eq, not_true_eq_false, false_or, not_or]; exact ⟨fun h => hbad (.inl h), hle⟩)]
      refine guard_else (by rw [hm]; rfl) (guard_else (dec_f (by omega)) (bind_step (itoa_full (by omega) (by omega)) (guard_step (ble_t ?_) rfl)))
      have := decI_len3 (n := ((fold10 0 (digsAt s q) : Nat) : Int)) (by omega); omega

theorem restPlain_val (r : List UInt8 × Int) (nm : List UInt8) (what : Int) : abiReaderRest r (nm, what, 0, 0, 0, 0) = some (.inl (KT.mk true what 0 [] nm (what == 6) 1 1 0, r)) := by
  rw [abiReaderRest_eq]; rfl

/-! ### The first of the bases that fits -/

theorem firstL_val {g : ringAbiReaderKind} {s : List UInt8} (hs : s.length < 1000000000000000000) {p : Nat} (hp : p ≤ s.length) : ∀ (bs : List (List UInt8 × Int × Int × Int × Int × Int)) (k f : Nat), abiBases.drop k = bs → k + bs.length = 6 → bs.length < f →
    iter (fun p : (List (List UInt8 × Int × Int × Int × Int × Int)) × Int × (List UInt8 × Int) => abiReaderFirstL0R g p.1 p.2.1 p.2.2) f (abiBases, (k : Int), (s, (p : Int))) =
      match bs.find? (fun b => startsB s p b.1) with
      | some b => (abiReaderRest (s, ((p + b.1.length : Nat) : Int)) b).bind fun r => some (sumK r .inl fun _ => .inr (.inl ()))
      | none => some (.inr (.inr (s, (p : Int))))
  | [], k, f, h1, h2, h3 => by
    obtain ⟨f, rfl⟩ : ∃ q, f = q + 1 := ⟨f - 1, by omega⟩
    simp only [List.length_nil, Nat.add_zero] at h2
    refine iter_end ?_
    simp only
    unfold abiReaderFirstL0R
    exact guard_else (dec_f (by omega)) rfl
  | b :: bs, k, f, h1, h2, h3 => by
    simp only [List.length_cons] at h2 h3
    obtain ⟨f, rfl⟩ : ∃ q, f = q + 1 := ⟨f - 1, by omega⟩
    have hk : k < abiBases.length := by show k < 6; omega
    rw [drop_cons hk] at h1
    obtain ⟨hb, hbs⟩ := List.cons.inj h1
    have hne : b.1 ≠ [] ∧ b.1.length < 100 := by
      have hm : b ∈ abiBases := by rw [← hb]; exact List.getElem_mem hk
      have : ∀ x ∈ abiBases, x.1 ≠ [] ∧ x.1.length < 100 := by decide
      exact this b hm
    have hget : abiBases.getD k (([], 0, 0, 0, 0, 0) : List UInt8 × Int × Int × Int × Int × Int) = b := by rw [getD_some hk, hb]
    have round : (fun p : (List (List UInt8 × Int × Int × Int × Int × Int)) × Int × (List UInt8 × Int) => abiReaderFirstL0R g p.1 p.2.1 p.2.2) (abiBases, (k : Int), (s, (p : Int))) =
        cond (startsB s p b.1) ((abiReaderRest (s, ((p + b.1.length : Nat) : Int)) b).bind fun r => some (.inr (sumK r .inl fun _ => .inr (.inl ())))) (some (.inl (abiBases, ((k + 1 : Nat) : Int), (s, (p : Int))))) := by
      simp only
      unfold abiReaderFirstL0R
      simp only [Int.toNat_natCast, hget]
      refine guard_step (dec_t (by omega)) (guard_step (dec_t (by omega)) (guard_step (blt_t (by omega)) (guard_step (blt_t (by omega)) (guard_step (dec_t (by omega)) (guard_step (ble_t hp) (bind_step (hasPrefix_val hp b.1 hne.1) ?_))))))
      rw [wI_one k (by omega)]
      cases hst : startsB s p b.1 with
      | false => rfl
      | true =>
        have hle := startsB_le hst hne.1
        simp only [cond_true]
        rw [wI_add p b.1.length (by omega)]
        cases abiReaderRest (s, ((p + b.1.length : Nat) : Int)) b with
        | none => rfl
        | some r => cases r <;> rfl
    simp only [iter, round, List.find?_cons]
    cases hst : startsB s p b.1 with
    | false =>
      simp only [cond_false, Option.bind_some]
      exact firstL_val hs hp bs (k + 1) f hbs (by omega) (by omega)
    | true =>
      simp only [cond_true]
      cases abiReaderRest (s, ((p + b.1.length : Nat) : Int)) b with
      | none => rfl
      | some r => cases r <;> rfl

/-- Words that do not begin alike. -/
theorem starts_not {s : List UInt8} {p : Nat} {v w : List UInt8} (h : startsB s p v = true) (hvw : (v.take w.length == w) = false) (hwv : (w.take v.length == v) = false) : startsB s p w = false := by
  have h := eq_of_beq h
  cases hb : startsB s p w
  · rfl
  · have hw := eq_of_beq hb
    rcases Nat.le_total w.length v.length with hl | hl
    · have : v.take w.length = w := by rw [← h, List.take_take, Nat.min_eq_left hl]; exact hw
      rw [this] at hvw; simp at hvw
    · have : w.take v.length = v := by rw [← hw, List.take_take, Nat.min_eq_left hl]; exact h
      rw [this] at hwv; simp at hwv
end Go.Sy
