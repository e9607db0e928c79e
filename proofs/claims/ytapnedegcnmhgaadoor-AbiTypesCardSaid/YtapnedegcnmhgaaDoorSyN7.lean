/- Plain laws: a type's text is read alike, whole. -/
import Derived.Test.YtapnedegcnmhgaaDoorSyN6
set_option linter.unusedVariables false
set_option linter.unusedSimpArgs false
namespace Go.Sy
open Go

def SndL (l : List RT) : Prop := ∀ t ∈ l, Snd t
instance {t : RT} : Decidable (Snd t) := inferInstanceAs (Decidable (_ ∧ _))
instance {l : List RT} : Decidable (SndL l) := inferInstanceAs (Decidable (∀ t ∈ l, Snd t))
theorem RT.txt_app : ∀ l m : List RT, RT.txt (l ++ m) = RT.txt l ++ RT.txt m
  | [], m => rfl
  | t :: l, m => by simp [RT.txt, RT.txt_app l m]
theorem RT.txs_app_len (l : List RT) (t : RT) : (RT.txs (l ++ [t])).length ≤ (RT.txs l).length + 1 + t.tx.length := by
  have h0 : strC0.length = 1 := rfl
  cases l with
  | nil => simp [RT.txs, RT.txt]
  | cons u l => simp only [List.cons_append, RT.txs, RT.txt_app, RT.txt, List.length_append, List.length_nil, h0]; omega
theorem sndL_app {l : List RT} {t : RT} : SndL (l ++ [t]) ↔ SndL l ∧ Snd t := by
  constructor
  · intro h; exact ⟨fun u hu => h u (List.mem_append_left _ hu), h t (by simp)⟩
  · rintro ⟨h1, h2⟩ u hu
    rcases List.mem_append.1 hu with h | h
    · exact h1 u h
    · rw [List.mem_singleton.1 h]; exact h2
theorem dps_le {l : List RT} {b : Nat} (h : ∀ t ∈ l, t.dp ≤ b) : RT.dps l ≤ b := by
  induction l with
  | nil => exact Nat.zero_le _
  | cons t l ih =>
    have h1 := h t List.mem_cons_self
    have h2 := ih fun u hu => h u (List.mem_cons_of_mem _ hu)
    simp only [RT.dps]; omega
theorem dps_mem {t : RT} : ∀ {l : List RT}, t ∈ l → t.dp ≤ RT.dps l
  | u :: l, h => by
    simp only [RT.dps]
    rcases List.mem_cons.1 h with e | h
    · subst e; omega
    · have := dps_mem h; omega
theorem nars_all : ∀ {l : List RT}, RT.nars l = true ↔ ∀ t ∈ l, t.nar = true
  | [] => by simp [RT.nars]
  | t :: l => by simp only [RT.nars, Bool.and_eq_true, nars_all (l := l), List.mem_cons, forall_eq_or_imp]
theorem wds_le {l : List RT} {b : Nat} (h : ∀ t ∈ l, t.wd ≤ b) : RT.wds l ≤ l.length * b := by
  induction l with
  | nil => simp [RT.wds]
  | cons t l ih =>
    have h1 := h t List.mem_cons_self
    have h2 := ih fun u hu => h u (List.mem_cons_of_mem _ hu)
    simp only [RT.wds, List.length_cons, Nat.add_mul]; omega
theorem snd_tup {l : List RT} (hne : l ≠ []) : Snd (.mk 10 0 l) ↔ SndL l ∧ (RT.mk 10 0 l).dp ≤ 32 ∧ (RT.mk 10 0 l).wd ≤ 65536 := by
  have he : l.isEmpty = false := by cases l with | nil => exact absurd rfl hne | cons => rfl
  have hd : (RT.mk 10 0 l).dp = RT.dps l + 1 := by simp [RT.dp, he]
  have hn : (RT.mk 10 0 l).nar = (decide ((RT.mk 10 0 l).wd ≤ 65536) && RT.nars l) := by simp [RT.nar]
  unfold Snd
  rw [hd, hn, Bool.and_eq_true, decide_eq_true_eq, nars_all]
  constructor
  · rintro ⟨h1, h2, h3⟩; exact ⟨fun t ht => ⟨by have := dps_mem ht; omega, h3 t ht⟩, h1, h2⟩
  · rintro ⟨h1, h2, h3⟩; exact ⟨h2, h3, fun t ht => (h1 t ht).2⟩

def TupRel (s : List UInt8) (p0 : Nat) (ro : (Int × Bool × (Int × Int × Unit) × List RT) ⊕ (Int × Int × Unit)) (rk : (List KT × List UInt8 × Int) ⊕ Unit) : Prop :=
  (((∃ a b c, ro = .inl (a, false, b, c)) ∨ ∃ y, ro = .inr y) ∧ rk = .inr ()) ∨
  ∃ (l : List RT) (e : Nat), ro = .inl ((e : Int), true, (10, 0, ()), l) ∧ p0 < e ∧ e ≤ s.length ∧ (∀ t ∈ l, t.WF) ∧ l ≠ [] ∧ RT.szs l ≤ e - p0 ∧ (RT.txs l).length ≤ 3 * (e - p0) ∧ ((SndL l ∧ rk = .inl (l.map RT.kt, s, (e : Int))) ∨ (¬ SndL l ∧ rk = .inr ()))

theorem rows_rel {gT : ringRef22ITyped} {gK : ringAbiReaderKind} {s : List UInt8} (hs : s.length < 1000000000) {p0 : Nat} (b4 : Int × Int × Unit) (hr : ∀ q, p0 ≤ q → q ≤ s.length → ∃ rt rk, gT.ref22ITyped s (q : Int) = some rt ∧ gK.abiReaderKind (s, (q : Int)) = some rk ∧ TyRel s q rt rk) :
    ∀ (m q : Nat) (acc : List RT), s.length - q < m → p0 ≤ q → q ≤ s.length → (∀ t ∈ acc, t.WF) → RT.szs acc ≤ q - p0 → (RT.txs acc).length ≤ 3 * (q - p0) →
    ∃ ro rk, (∀ f, m ≤ f → iter (fun p : List UInt8 × Int × (Int × Int × Unit) × (Int × Int × Unit) × List RT => ref22ITupleL0R gT p.1 p.2.1 p.2.2.1 p.2.2.2.1 p.2.2.2.2) f (s, (q : Int), (b4.1, b4.2.1, ()), (10, 0, ()), acc) = some ro) ∧
      (SndL acc → ∀ f, m ≤ f → iter (fun p : (List UInt8 × Int) × List KT => abiReaderRowL0R gK p.1 p.2) f ((s, (q : Int)), acc.map RT.kt) = some rk) ∧ (¬ SndL acc → rk = .inr ()) ∧ TupRel s p0 ro rk
  | 0, q, acc, h, _, _, _, _, _ => by omega
  | m + 1, q, acc, hm, hq0, hq, hw, hsz, htx => by
    have hs2 : s.length < 4611686018427387904 := by omega
    have hlen := RT.szs_len acc
    obtain ⟨rt, rk0, t1, k1, hrel⟩ := hr q hq0 hq
    -- both give up
    have give : ∀ x, ((∃ a b c, x = .inl (a, false, b, c)) ∨ ∃ y, x = .inr y) → ref22ITupleL0R gT s (q : Int) (b4.1, b4.2.1, ()) (10, 0, ()) acc = some (.inr x) → (SndL acc → abiReaderRowL0R gK (s, (q : Int)) (acc.map RT.kt) = some (.inr (.inr ()))) →
        ∃ ro rk, (∀ f, m + 1 ≤ f → iter (fun p : List UInt8 × Int × (Int × Int × Unit) × (Int × Int × Unit) × List RT => ref22ITupleL0R gT p.1 p.2.1 p.2.2.1 p.2.2.2.1 p.2.2.2.2) f (s, (q : Int), (b4.1, b4.2.1, ()), (10, 0, ()), acc) = some ro) ∧
          (SndL acc → ∀ f, m + 1 ≤ f → iter (fun p : (List UInt8 × Int) × List KT => abiReaderRowL0R gK p.1 p.2) f ((s, (q : Int)), acc.map RT.kt) = some rk) ∧ (¬ SndL acc → rk = .inr ()) ∧ TupRel s p0 ro rk := by
      intro x hx h1 h2
      refine ⟨x, .inr (), fun f hf => ?_, fun hst f hf => ?_, fun _ => rfl, .inl ⟨hx, rfl⟩⟩
      · obtain ⟨f, rfl⟩ : ∃ q, f = q + 1 := ⟨f - 1, by omega⟩
        exact iter_end h1
      · obtain ⟨f, rfl⟩ : ∃ q, f = q + 1 := ⟨f - 1, by omega⟩
        exact iter_end (h2 hst)
    have kpan : rk0 = .inr () → abiReaderRowL0R gK (s, (q : Int)) (acc.map RT.kt) = some (.inr (.inr ())) := by
      intro h
      unfold abiReaderRowL0R
      refine bind_step k1 ?_
      rw [h]; rfl
    by_cases hql : q < s.length
    · rcases hrel with ⟨h1, h2⟩ | ⟨t, e, h1, ⟨g1, g2, g3, g4, g5⟩, h2⟩
      · refine give (.inl (0, false, (0, 0, ()), [])) (.inl ⟨_, _, _, rfl⟩) ?_ fun _ => kpan h2
        unfold ref22ITupleL0R
        exact guard_step (dec_t (by omega)) (bind_step t1 (guard_step (by rw [h1]; rfl) rfl))
      · subst h1
        have c2 : ref22IStarts s (e : Int) strC2 = some (hasB s e 41) := (starts_val hs2 g2 strC2 (by decide) (by decide)).trans (congrArg some (startsB_one s e 41))
        have c0 : ref22IStarts s (e : Int) strC0 = some (hasB s e 44) := (starts_val hs2 g2 strC0 (by decide) (by decide)).trans (congrArg some (startsB_one s e 44))
        have room : roomB 40 (acc.length + [t].length) = true := roomB_t (by simp only [List.length_singleton]; omega) (by simp only [List.length_singleton]; omega)
        have room8 : roomB 8 ((acc.map RT.kt).length + [t.kt].length) = true := roomB_t (by simp only [List.length_singleton, List.length_map]; omega) (by simp only [List.length_singleton, List.length_map]; omega)
        have hta := RT.txs_app_len acc t
        have hsa : RT.szs (acc ++ [t]) = RT.szs acc + t.sz := by rw [RT.szs_app]; simp [RT.szs]
        have hwa : ∀ u ∈ acc ++ [t], u.WF := fun u hu => by
          rcases List.mem_append.1 hu with h | h
          · exact hw u h
          · rw [List.mem_singleton.1 h]; exact g3
        have e1 : IntKind.wrap .i64 ((e : Int) + (1 : Int)) = ((e + 1 : Nat) : Int) := wI_one e (by omega)
        have emap : acc.map RT.kt ++ [t.kt] = (acc ++ [t]).map RT.kt := by simp
        -- the program's round where the type is sound
        have kr : Snd t → abiReaderRowL0R gK (s, (q : Int)) (acc.map RT.kt) = cond (hasB s e 41) (some (.inr (.inl ((acc ++ [t]).map RT.kt, s, ((e + 1 : Nat) : Int))))) (cond (hasB s e 44) (some (.inl ((s, ((e + 1 : Nat) : Int)), (acc ++ [t]).map RT.kt))) (some (.inr (.inr ())))) := by
          intro hst
          have h2 := (h2.resolve_right fun h => h.1 hst).2
          unfold abiReaderRowL0R
          refine bind_step k1 ?_
          rw [h2]
          simp only [sumK]
          refine guard_step room8 (bind_step (is_val hs2 g2 41) ?_)
          rw [emap]
          cases h41 : hasB s e 41 with
          | true => rfl
          | false =>
            refine guard_else rfl (bind_step (is_val hs2 g2 44) ?_)
            cases h44 : hasB s e 44 with
            | true => rfl
            | false => exact guard_step rfl (bind_step (fail_val _) rfl)
        by_cases h41 : hasB s e 41 = true
        · have hlt := hasB_lt h41
          have hro : ref22ITupleL0R gT s (q : Int) (b4.1, b4.2.1, ()) (10, 0, ()) acc = some (.inr (.inl (((e + 1 : Nat) : Int), true, (10, 0, ()), acc ++ [t]))) := by
            unfold ref22ITupleL0R
            refine guard_step (dec_t (by omega)) (bind_step t1 (guard_else rfl (guard_step room (bind_step c2 (guard_step h41 ?_)))))
            simp only
            rw [e1]
          refine ⟨.inl (((e + 1 : Nat) : Int), true, (10, 0, ()), acc ++ [t]), if Snd t ∧ SndL acc then .inl ((acc ++ [t]).map RT.kt, s, ((e + 1 : Nat) : Int)) else .inr (), fun f hf => ?_, fun hst f hf => ?_, fun hst => if_neg fun h => hst h.2, .inr ⟨acc ++ [t], e + 1, rfl, by omega, by omega, hwa, by simp, by omega, by omega, ?_⟩⟩
          · obtain ⟨f, rfl⟩ : ∃ q, f = q + 1 := ⟨f - 1, by omega⟩
            exact iter_end hro
          · obtain ⟨f, rfl⟩ : ∃ q, f = q + 1 := ⟨f - 1, by omega⟩
            by_cases ht : Snd t
            · rw [if_pos ⟨ht, hst⟩]
              refine iter_end ?_
              simp only
              rw [kr ht, h41]; rfl
            · rw [if_neg fun h => ht h.1]
              exact iter_end (kpan (h2.resolve_left fun h => ht h.1).2)
          · by_cases ht : Snd t ∧ SndL acc
            · rw [if_pos ht]; exact .inl ⟨sndL_app.2 ⟨ht.2, ht.1⟩, rfl⟩
            · rw [if_neg ht]; exact .inr ⟨fun h => ht ⟨(sndL_app.1 h).2, (sndL_app.1 h).1⟩, rfl⟩
        · have h41 : hasB s e 41 = false := by simpa using h41
          by_cases h44 : hasB s e 44 = true
          · have hlt := hasB_lt h44
            obtain ⟨ro, rk, i1, i2, i3, i4⟩ := rows_rel (gT := gT) (gK := gK) hs b4 hr m (e + 1) (acc ++ [t]) (by omega) (by omega) (by omega) hwa (by omega) (by omega)
            refine ⟨ro, rk, fun f hf => ?_, fun hst f hf => ?_, fun hst => i3 fun h => hst (sndL_app.1 h).1, i4⟩
            · obtain ⟨f, rfl⟩ : ∃ q, f = q + 1 := ⟨f - 1, by omega⟩
              refine iter_more ?_ (i1 f (by omega))
              simp only
              unfold ref22ITupleL0R
              refine guard_step (dec_t (by omega)) (bind_step t1 (guard_else rfl (guard_step room (bind_step c2 (guard_else h41 (bind_step c0 (guard_else (by rw [h44]; rfl) ?_)))))))
              simp only
              rw [e1]
            · obtain ⟨f, rfl⟩ : ∃ q, f = q + 1 := ⟨f - 1, by omega⟩
              by_cases ht : Snd t
              · refine iter_more ?_ (i2 (sndL_app.2 ⟨hst, ht⟩) f (by omega))
                simp only
                rw [kr ht, h41, h44]; rfl
              · rw [i3 fun h => ht (sndL_app.1 h).2]
                exact iter_end (kpan (h2.resolve_left fun h => ht h.1).2)
          · have h44 : hasB s e 44 = false := by simpa using h44
            refine give (.inl (0, false, (0, 0, ()), [])) (.inl ⟨_, _, _, rfl⟩) ?_ fun _ => ?_
            · unfold ref22ITupleL0R
              exact guard_step (dec_t (by omega)) (bind_step t1 (guard_else rfl (guard_step room (bind_step c2 (guard_else h41 (bind_step c0 (guard_step (by rw [h44]; rfl) rfl)))))))
            · by_cases ht : Snd t
              · rw [kr ht, h41, h44]; rfl
              · exact kpan (h2.resolve_left fun h => ht h.1).2
    · refine give (.inr (b4.1, b4.2.1, ())) (.inr ⟨_, rfl⟩) ?_ fun _ => kpan ?_
      · unfold ref22ITupleL0R
        exact guard_else (dec_f (by omega)) rfl
      · rcases hrel with ⟨_, h2⟩ | ⟨t, e, _, ⟨g1, g2, _⟩, _⟩
        · exact h2
        · omega

/-- Behind a parenthesis another one that closes: no type. -/
theorem typed_close {n : Nat} {s : List UInt8} (hs : s.length < 1000000000) {q : Nat} (h : hasB s q 41 = true) : ∃ rt, (ringRef22ITypedI (n + 2)).ref22ITyped s (q : Int) = some rt ∧ rt.2.2 = false := by
  have hlt := hasB_lt h
  have hw : ∀ (w : List UInt8) (c : UInt8) (l : List UInt8), w = c :: l → c.toNat ≠ 41 → startsB s q w = false := by
    intro w c l hw hc
    cases hb : startsB s q w
    · rfl
    · have := hasB_ne (chars_of hb hw) hc
      rw [h] at this; cases this
  have S : ∀ w : List UInt8, w ≠ [] → w.length < 100 → ref22IStarts s (q : Int) w = some (startsB s q w) := fun w h1 h2 => starts_val (by omega) (by omega) w h1 h2
  refine ⟨(RT.mk 0 0 [], 0, false), ?_, rfl⟩
  rw [ref22ITyped_S]
  unfold ref22ITypedB
  rw [ref22IBase_S]
  refine bind_step (a := (RT.mk 0 0 [], 0, false)) ?_ rfl
  unfold ref22IBaseB
  exact bind_step (S strC6 (by decide) (by decide)) (guard_else (hw strC6 _ _ rfl (by decide)) (bind_step (S strC7 (by decide) (by decide)) (guard_else (hw strC7 _ _ rfl (by decide)) (bind_step (S strC8 (by decide) (by decide)) (guard_else (hw strC8 _ _ rfl (by decide)) (bind_step (S strC9 (by decide) (by decide)) (guard_else (hw strC9 _ _ rfl (by decide)) (bind_step (S strC10 (by decide) (by decide)) (guard_else (hw strC10 _ _ rfl (by decide)) (bind_step (S strC11 (by decide) (by decide)) (guard_else (hw strC11 _ _ rfl (by decide)) (bind_step (S strC1 (by decide) (by decide)) (guard_else (hw strC1 _ _ rfl (by decide)) rfl)))))))))))))

/-- **Types are read alike.** -/
theorem typed_rel {s : List UInt8} (hs : s.length < 1000000) : ∀ (m p : Nat), s.length - p < m → p ≤ s.length → ∀ n n' : Nat, 3 * m ≤ n → 3 * m ≤ n' →
    ∃ rt rk, (ringRef22ITypedI n).ref22ITyped s (p : Int) = some rt ∧ (ringAbiReaderKindI n').abiReaderKind (s, (p : Int)) = some rk ∧ TyRel s p rt rk
  | 0, p, h, _, _, _, _, _ => by omega
  | m + 1, p, hm, hp, n, n', hn, hn' => by
    obtain ⟨n, rfl⟩ : ∃ q, n = q + 3 := ⟨n - 3, by omega⟩
    obtain ⟨n', rfl⟩ : ∃ q, n' = q + 3 := ⟨n' - 3, by omega⟩
    have hs2 : s.length < 4611686018427387904 := by omega
    have hs9 : s.length < 1000000000 := by omega
    -- the base
    have hbase : ∃ rt rk, (ringRef22ITypedI (n + 2)).ref22IBase s (p : Int) = some rt ∧ (ringAbiReaderKindI (n' + 2)).abiReaderFirst (s, (p : Int)) = some rk ∧ TyRel s p rt rk := by
      rw [ref22IBase_S, abiReaderFirst_S]
      by_cases h40 : hasB s p 40 = true
      · have hlt := hasB_lt h40
        have hno : ∀ (w : List UInt8) (c : UInt8) (l : List UInt8), w = c :: l → c.toNat ≠ 40 → startsB s p w = false := by
          intro w c l hw hc
          cases hb : startsB s p w
          · rfl
          · have := hasB_ne (chars_of hb hw) hc
            rw [h40] at this; cases this
        have S : ∀ w : List UInt8, w ≠ [] → w.length < 100 → ref22IStarts s (p : Int) w = some (startsB s p w) := fun w h1 h2 => starts_val hs2 hp w h1 h2
        have hch : (s.getD p 0).toNat = 40 := by
          simp only [hasB, dec_t hlt, Bool.true_and, beq_iff_eq] at h40; exact h40
        have tb : ref22IBaseB (ringRef22ITypedI (n + 1)) s (p : Int) = (ringRef22ITypedI (n + 1)).ref22ITuple s ((p + 1 : Nat) : Int) := by
          unfold ref22IBaseB
          refine bind_step (S strC6 (by decide) (by decide)) (guard_else (hno strC6 _ _ rfl (by decide)) (bind_step (S strC7 (by decide) (by decide)) (guard_else (hno strC7 _ _ rfl (by decide)) (bind_step (S strC8 (by decide) (by decide)) (guard_else (hno strC8 _ _ rfl (by decide)) (bind_step (S strC9 (by decide) (by decide)) (guard_else (hno strC9 _ _ rfl (by decide)) (bind_step (S strC10 (by decide) (by decide)) (guard_else (hno strC10 _ _ rfl (by decide)) (bind_step (S strC11 (by decide) (by decide)) (guard_else (hno strC11 _ _ rfl (by decide)) (bind_step (S strC1 (by decide) (by decide)) (guard_step ((startsB_one s p 40).trans h40) ?_)))))))))))))
          rw [wI_one p (by omega)]
          cases (ringRef22ITypedI (n + 1)).ref22ITuple s ((p + 1 : Nat) : Int) <;> rfl
        have fb : abiReaderFirstB (ringAbiReaderKindI (n' + 1)) (s, (p : Int)) = ((ringAbiReaderKindI (n' + 1)).abiReaderRow (s, (p : Int))).bind fun r1 => sumK r1 (fun r2 => (abiITupleOf r2.1).bind fun r4 => bif (KT.ok r4) then bif ((((KT.of r4).length : Nat) : Int) == (0 : Int)) then some (.inr ()) else (abiReaderSound r2.2 r4).bind fun r11 => sumK r11 (fun r12 => some (.inl (r4, r2.2))) (fun r13 => some (.inr ())) else none) (fun r3 => some (.inr ())) := by
          unfold abiReaderFirstB
          simp only [Int.toNat_natCast]
          refine guard_step (dec_t (by omega)) (guard_step (dec_t (by omega)) (guard_step (blt_t hlt) (guard_step (by rw [hch]; rfl) ?_)))
          congr 1
          funext r1
          congr 1
          funext r2
          congr 1
          funext r4
          congr 1
          congr 1
          rw [fail_val]; rfl
        rw [tb, fb, ref22ITuple_S, abiReaderRow_S]
        have his : abiReaderIs (s, (p : Int)) (40 : Int) = some (true, s, ((p + 1 : Nat) : Int)) := by
          have := is_val hs2 hp 40
          rw [h40] at this; exact this
        have his2 := is_val hs2 (show p + 1 ≤ s.length by omega) 41
        by_cases h41 : hasB s (p + 1) 41 = true
        · -- nothing within
          have hl1 := hasB_lt h41
          rw [h41] at his2
          refine ⟨(RT.mk 0 0 [], 0, false), .inr (), ?_, ?_, .inl ⟨rfl, rfl⟩⟩
          · unfold ref22ITupleB
            obtain ⟨b, hb⟩ := big_pos
            obtain ⟨n2, rfl⟩ : ∃ q, n = q + 2 := ⟨n - 2, by omega⟩
            obtain ⟨rt, hrt, hok⟩ := typed_close (n := n2) hs9 h41
            refine bind_step (a := .inl (0, false, (0, 0, ()), [])) ?_ rfl
            rw [ref22ITupleL0_eq, hb]
            refine iter_end ?_
            simp only
            unfold ref22ITupleL0R
            exact guard_step (dec_t (by omega)) (bind_step hrt (guard_step (by rw [hok]; rfl) rfl))
          · refine bind_step (a := .inl (([] : List KT), s, ((p + 1 + 1 : Nat) : Int))) ?_ ?_
            · unfold abiReaderRowB
              exact bind_step his (guard_else rfl (bind_step his2 rfl))
            · have ht : abiITupleOf ([] : List KT) = some (tupK []) := tupleOf_val (l := []) (by decide) (fun t ht => by cases ht) (by decide) (by decide) (by decide)
              exact bind_step ht rfl
        · have h41 : hasB s (p + 1) 41 = false := by simpa using h41
          rw [h41] at his2
          obtain ⟨ro, rk, i1, i2, i3, i4⟩ := rows_rel (gT := ringRef22ITypedI n) (gK := ringAbiReaderKindI n') hs9 (p0 := p + 1) (0, 0, ()) (fun q h1 h2 => typed_rel hs m q (by omega) h2 n n' (by omega) (by omega)) (s.length + 1) (p + 1) [] (by omega) (Nat.le_refl _) (by omega) (fun t ht => by cases ht) (Nat.zero_le _) (Nat.zero_le _)
          have hto : ref22ITupleL0 (ringRef22ITypedI n) s ((p + 1 : Nat) : Int) ((0 : Int), (0 : Int), ()) ((10 : Int), (0 : Int), ()) ([] : List RT) = some ro := by
            rw [ref22ITupleL0_eq]; exact i1 _ (by rw [bigFuel_eq]; omega)
          have hrow : abiReaderRowB (ringAbiReaderKindI n') (s, (p : Int)) = some rk := by
            unfold abiReaderRowB
            refine bind_step his (guard_else rfl (bind_step his2 (guard_else rfl ?_)))
            have : abiReaderRowL0 (ringAbiReaderKindI n') (s, ((p + 1 : Nat) : Int)) ([] : List KT) = some rk := by
              rw [abiReaderRowL0_eq]; exact i2 (fun t ht => by cases ht) _ (by rw [bigFuel_eq]; omega)
            refine bind_step this ?_
            cases rk <;> rfl
          rcases i4 with ⟨hf, hrk⟩ | ⟨l, e, hl, g1, g2, g3, g4, g5, g6, g7⟩
          · have : ∃ rt, ref22ITupleB (ringRef22ITypedI n) s ((p + 1 : Nat) : Int) = some rt ∧ rt.2.2 = false := by
              unfold ref22ITupleB
              rcases hf with ⟨a, b, c, rfl⟩ | ⟨y, rfl⟩
              · exact ⟨_, bind_step hto rfl, rfl⟩
              · exact ⟨_, bind_step hto rfl, rfl⟩
            obtain ⟨rt, h1, h2⟩ := this
            refine ⟨rt, .inr (), h1, ?_, .inl ⟨h2, rfl⟩⟩
            refine bind_step hrow ?_
            rw [hrk]; rfl
          · subst hl
            refine ⟨(RT.mk 10 0 l, (e : Int), true), if Snd (.mk 10 0 l) then .inl ((RT.mk 10 0 l).kt, s, (e : Int)) else .inr (), ?_, ?_, .inr ⟨.mk 10 0 l, e, rfl, ⟨by omega, g2, .tup l g4 g3, by simp only [RT.sz]; omega, ?_⟩, ?_⟩⟩
            · unfold ref22ITupleB
              exact bind_step hto rfl
            · refine bind_step hrow ?_
              rcases g7 with ⟨h1, h2⟩ | ⟨h1, h2⟩
              · rw [h2]
                simp only [sumK]
                have hlen := RT.szs_len l
                have hd32 := dps_le (l := l) (b := 32) fun t ht => (h1 t ht).1
                have htup : abiITupleOf (l.map RT.kt) = some (tupK l) := by
                  refine tupleOf_val (by omega) g3 ?_ (by omega) (by omega)
                  have := wds_le (l := l) (b := 65536) fun t ht => (h1 t ht).wd
                  omega
                rw [tupK_kt g4] at htup
                refine bind_step htup (guard_step (RT.kt_ok _) (guard_else ?_ ?_))
                · rw [RT.kt_of]
                  simp only [RT.ins, List.length_map, beq_eq_false_iff_ne]
                  have := List.length_pos_iff.2 g4
                  omega
                · refine bind_step (sound_val _ _) ?_
                  by_cases hc : 32 < (RT.mk 10 0 l).dp ∨ 65536 < (RT.mk 10 0 l).wd
                  · have hn : ¬ Snd (.mk 10 0 l) := fun h => by
                      have := (snd_tup g4).1 h
                      omega
                    rw [if_pos hc, if_neg hn]
                  · have hy : Snd (.mk 10 0 l) := (snd_tup g4).2 ⟨h1, by omega, by omega⟩
                    rw [if_neg hc, if_pos hy]
              · rw [h2, if_neg fun h => h1 ((snd_tup g4).1 h).1]; rfl
            · have : (RT.mk 10 0 l).tx = strC1 ++ RT.txs l ++ strC2 := by simp [RT.tx]
              have l1 : strC1.length = 1 := rfl
              have l2 : strC2.length = 1 := rfl
              rw [this]
              simp only [List.length_append]; omega
            · by_cases h : Snd (.mk 10 0 l)
              · exact .inl ⟨h, if_pos h⟩
              · exact .inr ⟨h, if_neg h⟩
      · have h40 : hasB s p 40 = false := by simpa using h40
        exact rel_base hs9 hp h40
    obtain ⟨rt, rk, t1, k1, hrel⟩ := hbase
    rw [ref22ITyped_S, abiReaderKind_S]
    unfold ref22ITypedB abiReaderKindB
    rcases hrel with ⟨h1, h2⟩ | ⟨t, e, h1, hg, h2⟩
    · refine ⟨(RT.mk 0 0 [], 0, false), .inr (), bind_step t1 (guard_step (by rw [h1]; rfl) rfl), bind_step k1 (by rw [h2]; rfl), .inl ⟨rfl, rfl⟩⟩
    · subst h1
      obtain ⟨ro, rk2, i1, i2, i3, i4⟩ := loops_rel (gT := ringRef22ITypedI (n + 2)) (gK := ringAbiReaderKindI (n' + 2)) hs9 (p := p) (RT.mk 0 0 []) (s.length + 1) e t (by omega) hg
      have hto : ref22ITypedL0 (ringRef22ITypedI (n + 2)) s (e : Int) (RT.mk (0 : Int) (0 : Int) ([] : List RT)) t = some ro := by
        rw [ref22ITypedL0_eq]; exact i1 _ (by rw [bigFuel_eq]; omega)
      have hko : ((fun r1 => sumK r1 (fun r2 : KT × List UInt8 × Int => (abiReaderKindL0 (ringAbiReaderKindI (n' + 2)) r2.1 r2.2).bind fun q36 => sumK q36 (fun q37 => some (.inr ())) (fun q38 => some (.inl q38))) (fun r3 => some (.inr ()))) rk : Option ((KT × List UInt8 × Int) ⊕ Unit)) = some (sumK rk2 (fun _ => .inr ()) .inl) := by
        rcases h2 with ⟨hst, hrk⟩ | ⟨hst, hrk⟩
        · rw [hrk]
          simp only [sumK]
          have : abiReaderKindL0 (ringAbiReaderKindI (n' + 2)) t.kt (s, (e : Int)) = some rk2 := by
            rw [abiReaderKindL0_eq]; exact i2 hst _ (by rw [bigFuel_eq]; omega)
          refine bind_step this ?_
          cases rk2 <;> rfl
        · rw [hrk, i3 hst]; rfl
      rcases i4 with ⟨⟨x, hx⟩, hk⟩ | ⟨t', e', b, hx, hg', hk⟩
      · subst hx
        refine ⟨_, .inr (), bind_step t1 (guard_else rfl (bind_step hto rfl)), bind_step k1 (hko.trans (by rw [hk]; rfl)), .inl ⟨rfl, rfl⟩⟩
      · subst hx
        refine ⟨(t', (e' : Int), true), _, bind_step t1 (guard_else rfl (bind_step hto rfl)), bind_step k1 hko, .inr ⟨t', e', rfl, hg', ?_⟩⟩
        rcases hk with ⟨h1, h2⟩ | ⟨h1, h2⟩
        · exact .inl ⟨h1, by rw [h2]; rfl⟩
        · exact .inr ⟨h1, by rw [h2]; rfl⟩
end Go.Sy
