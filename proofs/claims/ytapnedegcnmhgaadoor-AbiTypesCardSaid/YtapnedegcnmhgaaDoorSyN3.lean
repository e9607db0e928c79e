/- Plain laws: a type's own text; types made of types. -/
import Derived.Test.YtapnedegcnmhgaaDoorSyN2
set_option linter.unusedVariables false
set_option linter.unusedSimpArgs false
namespace Go.Sy
open Go

/-! ### Decimals -/

theorem decimal_val (n : Nat) : ∀ f, n < f → n < 1000000000000 → (ringRef22IDecimalI f).ref22IDecimal (n : Int) = some (Lib.decDigits n) := by
  induction n using Nat.strongRecOn with
  | ind n ih =>
    intro f hf hb
    obtain ⟨f, rfl⟩ : ∃ q, f = q + 1 := ⟨f - 1, by omega⟩
    rw [ref22IDecimal_S]
    unfold ref22IDecimalB
    rw [Lib.decDigits]
    by_cases h : n < 10
    · rw [dif_pos h]
      refine guard_step (dec_t (by omega)) ?_
      have e : IntKind.wrap .u8 (IntKind.wrap .i64 ((48 : Int) + (n : Int))) = ((48 + n : Nat) : Int) := by
        rw [wI _ (by omega) (by omega), wB _ (by omega) (by omega)]; omega
      rw [e]; rfl
    · rw [dif_neg h]
      refine guard_else (dec_f (by omega)) ?_
      have e1 : IntKind.wrap .i64 (Int.tdiv (n : Int) (10 : Int)) = ((n / 10 : Nat) : Int) := by
        have : Int.tdiv (n : Int) (10 : Int) = ((n / 10 : Nat) : Int) := rfl
        rw [this, wI _ (by omega) (by omega)]
      have e2 : Int.tmod (n : Int) (10 : Int) = ((n % 10 : Nat) : Int) := rfl
      rw [e1, e2]
      have h1 := ih (n / 10) (by omega) f (by omega) (by omega)
      have h2 := ih (n % 10) (by omega) f (by omega) (by omega)
      refine bind_step h1 (bind_step h2 ?_)
      rw [Lib.decDigits_one (show n % 10 < 10 by omega)]
      refine guard_step (ble_t ?_) rfl
      rw [Lib.decDigits_length]
      have : ∀ m : Nat, Lib.nDigits m ≤ m + 1 := by
        intro m
        induction m using Nat.strongRecOn with
        | ind m ihm =>
          rw [Lib.nDigits]
          split
          · omega
          · have := ihm (m / 10) (by omega); omega
      have := this (n / 10)
      simp only [List.length_singleton]
      omega
theorem decimal_full {n : Int} (h0 : 0 ≤ n) (h : n < 1000000000000) : ref22IDecimal n = some (decI n) := by
  obtain ⟨m, rfl⟩ : ∃ m : Nat, n = m := ⟨n.toNat, by omega⟩
  rw [ref22IDecimal_eq]
  exact decimal_val m _ (by rw [bigFuel_eq]; omega) (by omega)
theorem itoa_full {n : Int} (h0 : 0 ≤ n) (h : n < 1000000000000) : goItoa n = some (decI n) := by
  rw [goItoa_eq]
  refine guard_step ?_ ?_
  · simp only [Bool.and_eq_true, decide_eq_true_eq]; omega
  · unfold Lib.itoa decI
    rw [if_neg (by omega)]

theorem nDigits5 {n : Nat} (h : n ≤ 65535) : Lib.nDigits n ≤ 5 := by
  have s : ∀ m, Lib.nDigits m = if m < 10 then 1 else Lib.nDigits (m / 10) + 1 := by intro m; rw [Lib.nDigits]; split <;> simp_all
  rw [s]; split
  · omega
  rw [s]; split
  · omega
  rw [s]; split
  · omega
  rw [s]; split
  · omega
  rw [s]; split
  · omega
  · omega
theorem nDigits3 {n : Nat} (h : n ≤ 256) : Lib.nDigits n ≤ 3 := by
  have s : ∀ m, Lib.nDigits m = if m < 10 then 1 else Lib.nDigits (m / 10) + 1 := by intro m; rw [Lib.nDigits]; split <;> simp_all
  rw [s]; split
  · omega
  rw [s]; split
  · omega
  rw [s]; split
  · omega
  · omega
theorem decI_len5 {n : Int} (h : n ≤ 65535) : (decI n).length ≤ 5 := by unfold decI; rw [Lib.decDigits_length]; exact nDigits5 (by omega)
theorem decI_len3 {n : Int} (h : n ≤ 256) : (decI n).length ≤ 3 := by unfold decI; rw [Lib.decDigits_length]; exact nDigits3 (by omega)

/-! ### Texts -/

theorem RT.txs_txt (t : RT) (l : List RT) : RT.txs (t :: l) = t.tx ++ RT.txt l := rfl
theorem RT.txt_join : ∀ l : List RT, RT.txt l = Lib.joinTail strC0 (l.map RT.tx)
  | [] => rfl
  | t :: l => by simp [RT.txt, RT.txt_join l, Lib.joinTail]
theorem RT.txs_join : ∀ l : List RT, Lib.join (l.map RT.tx) strC0 = RT.txs l
  | [] => rfl
  | t :: l => by rw [List.map_cons, Lib.join_cons, RT.txs_txt, RT.txt_join]
theorem RT.txt_mem {t : RT} : ∀ {l : List RT}, t ∈ l → t.tx.length ≤ (RT.txt l).length
  | u :: l, h => by
    simp only [RT.txt, List.length_append]
    rcases List.mem_cons.1 h with e | h
    · subst e; omega
    · have := RT.txt_mem h; omega
theorem RT.txs_mem {t : RT} : ∀ {l : List RT}, t ∈ l → t.tx.length ≤ (RT.txs l).length
  | u :: l, h => by
    simp only [RT.txs, List.length_append]
    rcases List.mem_cons.1 h with e | h
    · subst e; omega
    · have := RT.txt_mem h; omega

theorem textsL_val {g : ringRef22Text} {l : List RT} (hl : l.length < 1000000000000) (hg : ∀ t ∈ l, g.ref22Text t = some t.tx) : ∀ (f m i : Nat) (s : List UInt8), l.length - i < m → m ≤ f → i ≤ l.length → s.length + (RT.txt (l.drop i)).length < 1000000000000 →
    iter (fun p : List RT × List UInt8 × Int => ref22ITextsL0R g p.1 p.2.1 p.2.2) f (l, s, (i : Int)) = some (s ++ (if i = 0 then RT.txs (l.drop i) else RT.txt (l.drop i)))
  | 0, m, i, s, h1, h2, h3, h4 => by omega
  | f + 1, m, i, s, h1, h2, h3, h4 => by
    by_cases h : i < l.length
    · have hm := hg _ (List.getElem_mem h)
      have hd := drop_cons h
      rw [hd] at h4 ⊢
      simp only [RT.txt, List.length_append] at h4
      have h0l : strC0.length = 1 := rfl
      by_cases hi : i = 0
      · subst hi
        rw [if_pos rfl]
        refine iter_more (b := (l, s ++ l[0].tx, ((0 + 1 : Nat) : Int))) ?_ ?_
        · simp only
          unfold ref22ITextsL0R
          refine guard_step (dec_t (by omega)) (guard_else (dec_f (by omega)) (guard_step (dec_t (by omega)) ?_))
          simp only [Int.toNat_natCast]
          refine guard_step (blt_t h) (bind_step (by rw [getD_some h]; exact hm) (guard_step (ble_t (by omega)) ?_))
          rw [wI_one 0 (by omega)]
        · rw [textsL_val hl hg f (m - 1) (0 + 1) _ (by omega) (by omega) (by omega) (by simp only [List.length_append]; omega), if_neg (by omega), RT.txs_txt, List.append_assoc]
      · rw [if_neg hi]
        refine iter_more (b := (l, (s ++ strC0) ++ l[i].tx, ((i + 1 : Nat) : Int))) ?_ ?_
        · simp only
          unfold ref22ITextsL0R
          refine guard_step (dec_t (by omega)) (guard_step (dec_t (by omega)) (guard_step (ble_t (by omega)) (guard_step (dec_t (by omega)) ?_)))
          simp only [Int.toNat_natCast]
          refine guard_step (blt_t h) (bind_step (by rw [getD_some h]; exact hm) (guard_step (ble_t (by simp only [List.length_append]; omega)) ?_))
          rw [wI_one i (by omega)]
        · rw [textsL_val hl hg f (m - 1) (i + 1) _ (by omega) (by omega) (by omega) (by simp only [List.length_append]; omega), if_neg (by omega)]
          simp only [RT.txt, List.append_assoc]
    · rw [List.drop_eq_nil_of_le (by omega)]
      refine iter_end ?_
      simp only
      unfold ref22ITextsL0R
      refine guard_else (dec_f (by omega)) ?_
      congr 2
      split <;> simp [RT.txs, RT.txt]

theorem texts_val {g : ringRef22Text} {l : List RT} (hl : l.length < 1000000000000) (hg : ∀ t ∈ l, g.ref22Text t = some t.tx) (ht : (RT.txs l).length < 900000000000) : ref22ITextsB g l = some (RT.txs l) := by
  unfold ref22ITextsB
  rw [ref22ITextsL0_eq]
  have hl2 : (RT.txt l).length ≤ (RT.txs l).length + 1 := by
    cases l with
    | nil => simp [RT.txt]
    | cons t l => simp only [RT.txt, RT.txs, List.length_append]; have : strC0.length = 1 := rfl; omega
  have := textsL_val hl hg bigFuel (l.length + 1) 0 [] (by omega) (by rw [bigFuel_eq]; omega) (by omega) (by simp only [List.drop_zero, List.length_nil]; omega)
  simp only [List.drop_zero, List.nil_append, if_true] at this
  exact bind_step this rfl

theorem RT.WF.n_nonneg {t : RT} (h : t.WF) : 0 ≤ t.n ∧ t.n ≤ 65535 := by
  cases h <;> simp only [RT.n] <;> omega

theorem text_val {t : RT} (hw : t.WF) : ∀ n, 2 * t.sz ≤ n → t.sz < 1000000000000 → t.tx.length < 900000000000 → (ringRef22TextI n).ref22Text t = some t.tx := by
  have l6 : strC6.length = 4 := rfl
  have l7 : strC7.length = 3 := rfl
  have l8 : strC8.length = 5 := rfl
  have l3 : strC3.length = 2 := rfl
  have l4 : strC4.length = 1 := rfl
  have l5 : strC5.length = 1 := rfl
  have l1 : strC1.length = 1 := rfl
  have l2 : strC2.length = 1 := rfl
  induction hw with
  | num k n hk h1 h2 =>
    intro f hf _ _
    simp only [RT.sz, RT.szs] at hf
    obtain ⟨f, rfl⟩ : ∃ q, f = q + 1 := ⟨f - 1, by omega⟩
    rw [ref22Text_S]
    unfold ref22TextB
    have hd := decI_len3 h2
    rcases hk with rfl | rfl
    · exact guard_step rfl (bind_step (decimal_full (by show 0 ≤ n; omega) (by show n < _; omega)) (guard_step (ble_t (by show strC6.length + (decI n).length ≤ _; omega)) rfl))
    · exact guard_else rfl (guard_step rfl (bind_step (decimal_full (by show 0 ≤ n; omega) (by show n < _; omega)) (guard_step (ble_t (by show strC7.length + (decI n).length ≤ _; omega)) rfl)))
  | plain k hk =>
    intro f hf _ _
    simp only [RT.sz, RT.szs] at hf
    obtain ⟨f, rfl⟩ : ∃ q, f = q + 1 := ⟨f - 1, by omega⟩
    rw [ref22Text_S]
    rcases hk with rfl | rfl | rfl | rfl <;> rfl
  | fixed n h1 h2 =>
    intro f hf _ _
    simp only [RT.sz, RT.szs] at hf
    obtain ⟨f, rfl⟩ : ∃ q, f = q + 1 := ⟨f - 1, by omega⟩
    rw [ref22Text_S]
    have hd := decI_len3 (n := n) (by omega)
    unfold ref22TextB
    exact guard_else rfl (guard_else rfl (guard_else rfl (guard_else rfl (guard_step rfl (bind_step (decimal_full (by show 0 ≤ n; omega) (by show n < _; omega)) (guard_step (ble_t (by show strC8.length + (decI n).length ≤ _; omega)) rfl))))))
  | list t h ih =>
    intro f hf hs ht
    simp only [RT.sz, RT.szs] at hf hs
    have e : (RT.mk 8 0 [t]).tx = t.tx ++ strC3 := by simp [RT.tx, RT.txs, RT.txt]
    rw [e] at ht ⊢
    simp only [List.length_append] at ht
    obtain ⟨f, rfl⟩ : ∃ q, f = q + 1 := ⟨f - 1, by omega⟩
    rw [ref22Text_S]
    unfold ref22TextB
    exact guard_else rfl (guard_else rfl (guard_else rfl (guard_else rfl (guard_else rfl (guard_else rfl (guard_else rfl (guard_step rfl (guard_step rfl (bind_step (ih f (by omega) (by omega) (by omega)) (guard_step (ble_t (by omega)) rfl))))))))))
  | arr n t h1 h2 h ih =>
    intro f hf hs ht
    simp only [RT.sz, RT.szs] at hf hs
    have e : (RT.mk 9 n [t]).tx = t.tx ++ strC4 ++ decI n ++ strC5 := by simp [RT.tx, RT.txs, RT.txt]
    rw [e] at ht ⊢
    simp only [List.length_append] at ht
    obtain ⟨f, rfl⟩ : ∃ q, f = q + 1 := ⟨f - 1, by omega⟩
    rw [ref22Text_S]
    have hd := decI_len5 h2
    unfold ref22TextB
    exact guard_else rfl (guard_else rfl (guard_else rfl (guard_else rfl (guard_else rfl (guard_else rfl (guard_else rfl (guard_else rfl (guard_step rfl (guard_step rfl (bind_step (ih f (by omega) (by omega) (by omega)) (guard_step (ble_t (by omega)) (bind_step (decimal_full (by show 0 ≤ n; omega) (by show n < _; omega)) (guard_step (ble_t (by simp only [List.length_append, RT.n]; omega)) (guard_step (ble_t (by simp only [List.length_append, RT.n]; omega)) rfl))))))))))))))
  | tup l hne h ih =>
    intro f hf hs ht
    simp only [RT.sz] at hf hs
    have hlen := RT.szs_len l
    have hl1 : 1 ≤ l.length := List.length_pos_iff.2 hne
    have e : (RT.mk 10 0 l).tx = strC1 ++ RT.txs l ++ strC2 := by simp [RT.tx]
    rw [e] at ht ⊢
    simp only [List.length_append] at ht
    obtain ⟨f, rfl⟩ : ∃ q, f = q + 2 := ⟨f - 2, by omega⟩
    rw [ref22Text_S]
    unfold ref22TextB
    refine guard_else rfl (guard_else rfl (guard_else rfl (guard_else rfl (guard_else rfl (guard_else rfl (guard_else rfl (guard_else rfl (guard_else rfl (bind_step (a := RT.txs l) ?_ (guard_step (ble_t (by omega)) (guard_step (ble_t (by simp only [List.length_append]; omega)) rfl)))))))))))
    rw [ref22ITexts_S]
    exact texts_val (l := l) (by omega) (fun u hu => ih u hu f (by have := RT.szs_mem hu; omega) (by have := RT.szs_mem hu; omega) (by have := RT.txs_mem hu; omega)) (by omega)
theorem text_full {t : RT} (hw : t.WF) (h : t.sz < 1000000000000) (ht : t.tx.length < 900000000000) : ref22Text t = some t.tx := by
  rw [ref22Text_eq]; exact text_val hw _ (by rw [bigFuel_eq]; omega) h ht
theorem texts_full {l : List RT} (hw : ∀ t ∈ l, t.WF) (h : RT.szs l < 1000000000000) (ht : (RT.txs l).length < 900000000000) : ref22ITexts l = some (RT.txs l) := by
  rw [ref22ITexts_eq]
  obtain ⟨n, hn⟩ : ∃ n, bigFuel = n + 1 := big_pos
  have hb := bigFuel_eq
  have hlen := RT.szs_len l
  rw [hn, ref22ITexts_S]
  exact texts_val (by omega) (fun u hu => text_val (hw u hu) n (by have := RT.szs_mem hu; omega) (by have := RT.szs_mem hu; omega) (by have := RT.txs_mem hu; omega)) ht

/-! ### The program's types -/

theorem RT.WF.wd_pos {t : RT} (h : t.WF) : 1 ≤ t.wd := by
  induction h with
  | num k n hk h1 h2 => simp only [RT.wd]; rw [if_neg (by omega), if_neg (by omega)]; exact Nat.le_refl _
  | plain k hk => simp only [RT.wd]; rw [if_neg (by omega), if_neg (by omega)]; exact Nat.le_refl _
  | fixed n h1 h2 => exact Nat.le_refl _
  | list t h ih => exact Nat.le_refl _
  | arr n t h1 h2 h ih =>
    simp only [RT.wd, RT.wds, if_true, Nat.add_zero]
    exact Nat.mul_le_mul (show 1 ≤ n.toNat by omega) ih
  | tup l hne h ih =>
    simp only [RT.wd, if_true]
    rw [if_neg (by decide)]
    cases l with
    | nil => exact absurd rfl hne
    | cons t l => have := ih t (List.mem_cons_self); simp only [RT.wds]; omega
theorem RT.WF.hd_le {t : RT} (h : t.WF) : t.hd ≤ t.wd := by
  have := h.wd_pos
  unfold RT.hd; split <;> omega
theorem RT.hds_le : ∀ {l : List RT}, (∀ t ∈ l, t.WF) → RT.hds l ≤ RT.wds l
  | [], _ => Nat.le_refl _
  | t :: l, h => by
    have h1 := (h t List.mem_cons_self).hd_le
    have h2 := RT.hds_le fun u hu => h u (List.mem_cons_of_mem _ hu)
    simp only [RT.hds, RT.wds]; omega
theorem RT.hds_static : ∀ {l : List RT}, RT.dyns l = false → RT.hds l = RT.wds l
  | [], _ => rfl
  | t :: l, h => by
    simp only [RT.dyns, Bool.or_eq_false_iff] at h
    simp only [RT.hds, RT.wds, RT.hd, h.1, RT.hds_static h.2]; rfl

theorem sound_val (r : List UInt8 × Int) (t : RT) : abiReaderSound r t.kt = some (if 32 < t.dp ∨ 65536 < t.wd then .inr () else .inl ()) := by
  rw [abiReaderSound_eq]
  unfold abiReaderSoundB
  rw [RT.kt_ok, RT.kt_deep, RT.kt_width]
  refine guard_step rfl ?_
  by_cases h1 : 32 < t.dp
  · rw [if_pos (.inl h1)]
    exact guard_step (dec_t (by omega)) (bind_step (fail_val r) rfl)
  · refine guard_else (dec_f (by omega)) (guard_step rfl ?_)
    by_cases h2 : 65536 < t.wd
    · rw [if_pos (.inr h2)]
      exact guard_step (dec_t (by omega)) (bind_step (fail_val r) rfl)
    · rw [if_neg (by omega)]
      exact guard_else (dec_f (by omega)) rfl

theorem listOf0_val {t : RT} (ht : t.tx.length < 900000000000) (hd : t.dp < 1000000000000) : abiIListOf t.kt (0 : Int) = some (RT.mk 8 0 [t]).kt := by
  rw [abiIListOf_eq]
  unfold abiIListOfB
  rw [RT.kt_ok, RT.kt_text, RT.kt_deep]
  have l3 : strC3.length = 2 := rfl
  refine guard_step rfl (guard_step (ble_t (by omega)) (guard_step rfl (guard_else rfl ?_)))
  rw [wI_one _ (by omega)]
  simp only [RT.kt, RT.kts, RT.tx, RT.txs, RT.txt, List.append_nil, RT.dyn, RT.hd, RT.wd, RT.dp, RT.dps]
  simp

theorem listOf_val {t : RT} (ht : t.tx.length < 900000000000) (hd : t.dp < 1000000000000) (hw : t.WF) (hwd : t.wd ≤ 65536) {n : Nat} (h1 : 1 ≤ n) (h2 : n ≤ 65535) : abiIListOf t.kt (n : Int) = some (RT.mk 9 (n : Int) [t]).kt := by
  rw [abiIListOf_eq]
  unfold abiIListOfB
  rw [RT.kt_ok, RT.kt_text, RT.kt_deep, RT.kt_width, RT.kt_head, RT.kt_dyn]
  have l3 : strC3.length = 2 := rfl
  have l4 : strC4.length = 1 := rfl
  have l5 : strC5.length = 1 := rfl
  have hl := decI_len5 (n := (n : Int)) (by omega)
  have hh := hw.hd_le
  have m1 : n * t.wd ≤ 65535 * 65536 := Nat.mul_le_mul h2 hwd
  have m2 : n * t.hd ≤ 65535 * 65536 := Nat.mul_le_mul h2 (by omega)
  rw [wI_one _ (by omega), wI_mul n t.wd (by omega), wI_mul n t.hd (by omega)]
  refine guard_step rfl (guard_step (ble_t (by omega)) (guard_step rfl (guard_step (dec_t (by omega)) (guard_step rfl (guard_step (ble_t (by omega)) (bind_step (itoa_full (by omega) (by omega)) (guard_step (ble_t (by simp only [List.length_append]; omega)) (guard_step (ble_t (by simp only [List.length_append]; omega)) (guard_step rfl (guard_step rfl (guard_step rfl ?_)))))))))))
  cases hdy : t.dyn with
  | false =>
    simp only [Bool.not_false, cond_true]
    simp [RT.kt, RT.kts, RT.tx, RT.txs, RT.txt, RT.dyn, RT.dyns, RT.hd, RT.wd, RT.wds, RT.dp, RT.dps, hdy]
  | true =>
    simp only [Bool.not_true, cond_false]
    simp [RT.kt, RT.kts, RT.tx, RT.txs, RT.txt, RT.dyn, RT.dyns, RT.hd, RT.wd, RT.wds, RT.dp, RT.dps, hdy]

theorem tupleL_val {l : List RT} (hl : l.length < 1000000000000) (hw : ∀ t ∈ l, t.WF) (hwd : RT.wds l < 1000000000000) (a b : Int) (ks : List KT) (tx : List UInt8) : ∀ (f m i : Nat) (dy : Bool) (h w d : Nat) (ts : List (List UInt8)), l.length - i < m → m ≤ f → i ≤ l.length →
    h + RT.hds (l.drop i) < 1000000000000 → w + RT.wds (l.drop i) < 1000000000000 → ts.length + (l.length - i) < 1000000000000 →
    iter (fun p : List KT × Int × Int × (Int × Int × List KT × List UInt8 × Bool × Int × Int × Int) × List (List UInt8) => abiITupleOfL0R p.1 p.2.1 p.2.2.1 p.2.2.2.1 p.2.2.2.2) f (l.map RT.kt, ((l.length : Nat) : Int), (i : Int), (a, b, ks, tx, dy, (h : Int), (w : Int), (d : Int)), ts) =
      some ((a, b, ks, tx, (dy || RT.dyns (l.drop i)), ((h + RT.hds (l.drop i) : Nat) : Int), ((w + RT.wds (l.drop i) : Nat) : Int), ((max d (RT.dps (l.drop i)) : Nat) : Int)), ts ++ (l.drop i).map RT.tx)
  | 0, m, i, dy, h, w, d, ts, h1, h2, h3, h4, h5, h6 => by omega
  | f + 1, m, i, dy, h, w, d, ts, h1, h2, h3, h4, h5, h6 => by
    by_cases hi : i < l.length
    · have hd := drop_cons hi
      rw [hd] at h4 h5 ⊢
      simp only [RT.hds, RT.wds] at h4 h5
      have hi' : i < (l.map RT.kt).length := by simpa using hi
      have hk : (l.map RT.kt).getD i KT.none = l[i].kt := by rw [getD_some hi', List.getElem_map]
      refine iter_more (b := (l.map RT.kt, ((l.length : Nat) : Int), ((i + 1 : Nat) : Int), (a, b, ks, tx, (dy || l[i].dyn), ((h + l[i].hd : Nat) : Int), ((w + l[i].wd : Nat) : Int), ((max d l[i].dp : Nat) : Int)), ts ++ [l[i].tx])) ?_ ?_
      · simp only
        unfold abiITupleOfL0R
        simp only [Int.toNat_natCast, hk, RT.kt_ok, RT.kt_dyn, RT.kt_head, RT.kt_width, RT.kt_deep, RT.kt_text]
        have em : (if (d : Int) < (l[i].dp : Int) then (l[i].dp : Int) else (d : Int)) = ((max d l[i].dp : Nat) : Int) := by split <;> omega
        rw [wI_add h _ (by omega), wI_add w _ (by omega), wI_one i (by omega), em]
        have hroom : roomB 16 (ts.length + [l[i].tx].length) = true := roomB_t (by simp only [List.length_singleton]; omega) (by simp only [List.length_singleton]; omega)
        refine guard_step (dec_t (by omega)) (guard_step (dec_t (by omega)) (guard_step (blt_t hi') ?_))
        cases dy with
        | true => exact guard_step rfl (guard_step rfl (guard_step rfl (guard_step rfl (guard_step rfl (guard_step hroom rfl)))))
        | false => exact guard_else rfl (guard_step rfl (guard_step rfl (guard_step rfl (guard_step rfl (guard_step rfl (guard_step hroom (by rw [Bool.false_or])))))))
      · rw [tupleL_val hl hw hwd a b ks tx f (m - 1) (i + 1) _ _ _ _ _ (by omega) (by omega) (by omega) (by omega) (by omega) (by simp only [List.length_append, List.length_singleton]; omega)]
        simp only [RT.dyns, RT.hds, RT.wds, RT.dps, List.map_cons, List.append_assoc, List.singleton_append, Bool.or_assoc, Nat.add_assoc, Nat.max_assoc]
    · rw [List.drop_eq_nil_of_le (by omega)]
      refine iter_end ?_
      simp only
      unfold abiITupleOfL0R
      refine guard_else (dec_f (by omega)) ?_
      simp [RT.dyns, RT.hds, RT.wds, RT.dps]

/-- A tuple's type. -/
def tupK (l : List RT) : KT := KT.mk true 9 0 (l.map RT.kt) (strC1 ++ RT.txs l ++ strC2) (RT.dyns l) ((if RT.dyns l then 1 else RT.hds l : Nat) : Int) (RT.wds l : Int) ((RT.dps l + 1 : Nat) : Int)
theorem tupK_kt {l : List RT} (hne : l ≠ []) : tupK l = (RT.mk 10 0 l).kt := by
  have he : l.isEmpty = false := by cases l with | nil => exact absurd rfl hne | cons => rfl
  simp only [tupK, RT.kt, RT.kts_map, RT.tx, RT.dyn, RT.hd, RT.wd, RT.dp, he]
  cases hdy : RT.dyns l with
  | true => simp
  | false => simp [RT.hds_static hdy]

theorem tupleOf_val {l : List RT} (hl : l.length < 1000000000000) (hw : ∀ t ∈ l, t.WF) (hwd : RT.wds l < 1000000000000) (ht : (RT.txs l).length < 900000000000) (hdp : RT.dps l < 1000000000000) : abiITupleOf (l.map RT.kt) = some (tupK l) := by
  rw [abiITupleOf_eq]
  unfold abiITupleOfB
  rw [abiITupleOfL0_eq]
  have hh := RT.hds_le hw
  have := tupleL_val hl hw hwd 9 0 (l.map RT.kt) [] bigFuel (l.length + 1) 0 false 0 0 0 [] (by omega) (by rw [bigFuel_eq]; omega) (by omega) (by simp only [List.drop_zero]; omega) (by simp only [List.drop_zero]; omega) (by simp only [List.length_nil]; omega)
  simp only [List.drop_zero, Bool.false_or, Nat.zero_add, Nat.zero_max, List.nil_append] at this
  rw [List.length_map]
  have hj : goJoin (l.map RT.tx) strC0 = some (RT.txs l) := by
    rw [goJoin_eq, RT.txs_join]
    refine guard_step ?_ rfl
    simp only [Bool.and_eq_true, List.length_map]
    exact ⟨ble_t (by omega), ble_t (by omega)⟩
  have l1 : strC1.length = 1 := rfl
  have l2 : strC2.length = 1 := rfl
  refine bind_step this ?_
  simp only
  rw [wI_one _ (by omega)]
  unfold tupK
  cases hdy : RT.dyns l with
  | true => exact guard_step rfl (bind_step hj (guard_step (ble_t (by omega)) (guard_step (ble_t (by simp only [List.length_append]; omega)) rfl)))
  | false => exact guard_else rfl (bind_step hj (guard_step (ble_t (by omega)) (guard_step (ble_t (by simp only [List.length_append]; omega)) rfl)))
end Go.Sy
