/- Plain laws: types of types: both read them alike. -/
import Derived.Test.YtapnedegcnmhgaaDoorSyN5
set_option linter.unusedVariables false
set_option linter.unusedSimpArgs false
namespace Go.Sy
open Go

theorem snd_child {k n : Int} {t : RT} : Snd (.mk k n [t]) ↔ Snd t ∧ (RT.mk k n [t]).dp ≤ 32 ∧ (RT.mk k n [t]).wd ≤ 65536 := by
  have hd : (RT.mk k n [t]).dp = t.dp + 1 := by simp [RT.dp, RT.dps]
  have hn : (RT.mk k n [t]).nar = (decide ((RT.mk k n [t]).wd ≤ 65536) && t.nar) := by simp [RT.nar, RT.nars]
  unfold Snd
  rw [hd, hn, Bool.and_eq_true, decide_eq_true_eq]
  constructor
  · rintro ⟨h1, h2, h3⟩; exact ⟨⟨by omega, h3⟩, h1, h2⟩
  · rintro ⟨⟨h1, h2⟩, h3, h4⟩; exact ⟨h3, h4, h2⟩

def LoopRel (s : List UInt8) (p : Nat) (ro : (Int × Int × Unit) ⊕ (Int × RT × RT)) (rk : Unit ⊕ (KT × List UInt8 × Int)) : Prop :=
  ((∃ x, ro = .inl x) ∧ rk = .inl ()) ∨ ∃ (t : RT) (e : Nat) (b : RT), ro = .inr ((e : Int), b, t) ∧ TyGood s p e t ∧ ((Snd t ∧ rk = .inr (t.kt, s, (e : Int))) ∨ (¬ Snd t ∧ rk = .inl ()))

theorem kind_round {g : ringAbiReaderKind} {s : List UInt8} (hs : s.length < 1000000000) {e q : Nat} {n : Int} {t t1 : RT} (he : hasB s e 91 = true) (hq : hasB s q 93 = true) (hn : abiReaderNumber (s, ((e + 1 : Nat) : Int)) (65535 : Int) = some (.inl (n, s, (q : Int)))) (hl : abiIListOf t.kt n = some t1.kt) :
    abiReaderKindL0R g t.kt (s, (e : Int)) = some (if 32 < t1.dp ∨ 65536 < t1.wd then .inr (.inl ()) else .inl (t1.kt, (s, ((q + 1 : Nat) : Int)))) := by
  have h1 := hasB_lt he
  have h2 := hasB_lt hq
  unfold abiReaderKindL0R
  refine bind_step (is_val (by omega) (by omega) 91) ?_
  rw [he]
  refine guard_step rfl (bind_step hn ?_)
  simp only [sumK]
  refine bind_step (is_val (by omega) (by omega) 93) ?_
  rw [hq]
  refine guard_else rfl (bind_step hl (bind_step (sound_val _ t1) ?_))
  by_cases hc : 32 < t1.dp ∨ 65536 < t1.wd
  · rw [if_pos hc, if_pos hc] <;> try rfl
  · rw [if_neg hc, if_neg hc] <;> try rfl

theorem loops_rel {gT : ringRef22ITyped} {gK : ringAbiReaderKind} {s : List UInt8} (hs : s.length < 1000000000) {p : Nat} (b4 : RT) : ∀ (m e : Nat) (t : RT), s.length - e < m → TyGood s p e t →
    ∃ ro rk, (∀ f, m ≤ f → iter (fun p : List UInt8 × Int × RT × RT => ref22ITypedL0R gT p.1 p.2.1 p.2.2.1 p.2.2.2) f (s, (e : Int), b4, t) = some ro) ∧
      (Snd t → ∀ f, m ≤ f → iter (fun p : KT × (List UInt8 × Int) => abiReaderKindL0R gK p.1 p.2) f (t.kt, (s, (e : Int))) = some rk) ∧ (¬ Snd t → rk = .inl ()) ∧ LoopRel s p ro rk
  | 0, e, t, h, _ => by omega
  | m + 1, e, t, hm, hg => by
    obtain ⟨g1, g2, g3, g4, g5⟩ := hg
    have hs2 : s.length < 4611686018427387904 := by omega
    have c4 : ref22IStarts s (e : Int) strC4 = some (hasB s e 91) := (starts_val hs2 g2 strC4 (by decide) (by decide)).trans (congrArg some (startsB_one s e 91))
    have c3 : ref22IStarts s (e : Int) strC3 = some (hasB s e 91 && hasB s (e + 1) 93) := (starts_val hs2 g2 strC3 (by decide) (by decide)).trans (congrArg some (startsB_two s e 91 93))
    -- one more type around, at a place
    have grow : ∀ (t1 : RT) (q : Nat) (n : Int), e < q → hasB s q 93 = true → (∀ f, m + 1 ≤ f → iter (fun p : List UInt8 × Int × RT × RT => ref22ITypedL0R gT p.1 p.2.1 p.2.2.1 p.2.2.2) f (s, (e : Int), b4, t) = iter (fun p : List UInt8 × Int × RT × RT => ref22ITypedL0R gT p.1 p.2.1 p.2.2.1 p.2.2.2) (f - 1) (s, ((q + 1 : Nat) : Int), b4, t1)) →
        TyGood s p (q + 1) t1 → (Snd t1 ↔ Snd t ∧ t1.dp ≤ 32 ∧ t1.wd ≤ 65536) → (Snd t → abiReaderKindL0R gK t.kt (s, (e : Int)) = some (if 32 < t1.dp ∨ 65536 < t1.wd then .inr (.inl ()) else .inl (t1.kt, (s, ((q + 1 : Nat) : Int))))) →
        ∃ ro rk, (∀ f, m + 1 ≤ f → iter (fun p : List UInt8 × Int × RT × RT => ref22ITypedL0R gT p.1 p.2.1 p.2.2.1 p.2.2.2) f (s, (e : Int), b4, t) = some ro) ∧
          (Snd t → ∀ f, m + 1 ≤ f → iter (fun p : KT × (List UInt8 × Int) => abiReaderKindL0R gK p.1 p.2) f (t.kt, (s, (e : Int))) = some rk) ∧ (¬ Snd t → rk = .inl ()) ∧ LoopRel s p ro rk := by
      intro t1 q n heq hq hstep hgood hsnd hround
      have hql := hasB_lt hq
      obtain ⟨ro, rk, i1, i2, i3, i4⟩ := loops_rel (gT := gT) (gK := gK) hs (p := p) b4 m (q + 1) t1 (by omega) hgood
      refine ⟨ro, rk, fun f hf => ?_, fun hst f hf => ?_, fun hst => i3 fun h => hst (hsnd.1 h).1, i4⟩
      · rw [hstep f hf]; exact i1 _ (by omega)
      · obtain ⟨f, rfl⟩ : ∃ q, f = q + 1 := ⟨f - 1, by omega⟩
        by_cases h1 : Snd t1
        · have := (hsnd.1 h1).2
          refine iter_more ?_ (i2 h1 f (by omega))
          simp only
          rw [hround hst, if_neg (by omega)]
        · rw [i3 h1]
          refine iter_end ?_
          simp only
          rw [hround hst, if_pos]
          by_cases hd : t1.dp ≤ 32
          · by_cases hw : t1.wd ≤ 65536
            · exact absurd (hsnd.2 ⟨hst, hd, hw⟩) h1
            · exact .inr (by omega)
          · exact .inl (by omega)
    -- both give up
    have give : ∀ x, ref22ITypedL0R gT s (e : Int) b4 t = some (.inr (.inl x)) → (Snd t → abiReaderKindL0R gK t.kt (s, (e : Int)) = some (.inr (.inl ()))) →
        ∃ ro rk, (∀ f, m + 1 ≤ f → iter (fun p : List UInt8 × Int × RT × RT => ref22ITypedL0R gT p.1 p.2.1 p.2.2.1 p.2.2.2) f (s, (e : Int), b4, t) = some ro) ∧
          (Snd t → ∀ f, m + 1 ≤ f → iter (fun p : KT × (List UInt8 × Int) => abiReaderKindL0R gK p.1 p.2) f (t.kt, (s, (e : Int))) = some rk) ∧ (¬ Snd t → rk = .inl ()) ∧ LoopRel s p ro rk := by
      intro x h1 h2
      refine ⟨.inl x, .inl (), fun f hf => ?_, fun hst f hf => ?_, fun _ => rfl, .inl ⟨⟨x, rfl⟩, rfl⟩⟩
      · obtain ⟨f, rfl⟩ : ∃ q, f = q + 1 := ⟨f - 1, by omega⟩
        exact iter_end h1
      · obtain ⟨f, rfl⟩ : ∃ q, f = q + 1 := ⟨f - 1, by omega⟩
        exact iter_end (h2 hst)
    by_cases hb : hasB s e 91 = true
    · have hlt := hasB_lt hb
      have hnum := number_val (s := s) (b := 65535) (p := e + 1) (by omega) (by omega) (by omega)
      by_cases hb1 : hasB s (e + 1) 93 = true
      · -- any number
        have hlt1 := hasB_lt hb1
        have hch : (s.getD (e + 1) 0).toNat = 93 := by
          simp only [hasB, dec_t hlt1, Bool.true_and, beq_iff_eq] at hb1; exact hb1
        have hnil : digsAt s (e + 1) = [] := digsAt_nil hlt1 (by rw [← getD_some (d := 0) hlt1, hch]; omega)
        have hn0 : abiReaderNumber (s, ((e + 1 : Nat) : Int)) (65535 : Int) = some (.inl ((0 : Int), s, ((e + 1 : Nat) : Int))) := by
          rw [hnil] at hnum
          exact hnum
        refine grow (.mk 8 0 [t]) (e + 1) 0 (by omega) hb1 ?_ ⟨by omega, by omega, .list t g3, by simp only [RT.sz, RT.szs]; omega, ?_⟩ snd_child (fun hst => kind_round hs hb hb1 hn0 (listOf0_val (by omega) (by have := hst.1; omega)))
        · intro f hf
          obtain ⟨f, rfl⟩ : ∃ q, f = q + 1 := ⟨f - 1, by omega⟩
          refine iter_more (b := (s, ((e + 1 + 1 : Nat) : Int), b4, RT.mk 8 0 [t])) ?_ rfl
          simp only
          unfold ref22ITypedL0R
          refine bind_step c4 (guard_step hb (bind_step c3 (guard_step (by rw [hb, hb1]; rfl) ?_)))
          have := wI_add e 2 (by omega)
          rw [show ((e : Int) + (2 : Int)) = (e : Int) + ((2 : Nat) : Int) from rfl, this]
        · have : (RT.mk 8 0 [t]).tx = t.tx ++ strC3 := by simp [RT.tx, RT.txs, RT.txt]
          have l3 : strC3.length = 2 := rfl
          rw [this, List.length_append]; omega
      · have hb1 : hasB s (e + 1) 93 = false := by simpa using hb1
        have hrn := refNumber_val hs2 (by omega) (p := e + 1) (by omega)
        -- the program's round, down to the number
        have kfail : (digsAt s (e + 1) ≠ [] ∧ ((digsAt s (e + 1)).head? = some 0 ∨ 65535 < fold10 0 (digsAt s (e + 1)))) ∨ hasB s (e + 1 + (digsAt s (e + 1)).length) 93 = false → abiReaderKindL0R gK t.kt (s, (e : Int)) = some (.inr (.inl ())) := by
          intro hc
          unfold abiReaderKindL0R
          refine bind_step (is_val hs2 (by omega) 91) ?_
          rw [hb]
          refine guard_step rfl (bind_step hnum ?_)
          by_cases h1 : digsAt s (e + 1) ≠ [] ∧ ((digsAt s (e + 1)).head? = some 0 ∨ 65535 < fold10 0 (digsAt s (e + 1)))
          · rw [if_pos h1]; rfl
          · have h2 := hc.resolve_left h1
            have hle := digsAt_le s (e + 1) (by omega)
            rw [if_neg h1]
            simp only [sumK]
            refine bind_step (is_val hs2 hle 93) ?_
            rw [h2]
            exact guard_step rfl (bind_step (fail_val _) rfl)
        have tstep : ref22ITypedL0R gT s (e : Int) b4 t = ((ref22INumber s ((e + 1 : Nat) : Int)).bind fun r8 => bif (r8.2 == ((e + 1 : Nat) : Int)) then some (.inr (.inl ((0 : Int), (0 : Int), ()))) else bif (decide (r8.1 > (65535 : Int))) then some (.inr (.inl ((0 : Int), (0 : Int), ()))) else (ref22IStarts s r8.2 strC5).bind fun r9 => bif (!r9) then some (.inr (.inl ((0 : Int), (0 : Int), ()))) else some (.inl (s, (IntKind.wrap .i64 (r8.2 + (1 : Int))), b4, (RT.mk (9 : Int) r8.1 [t])))) := by
          unfold ref22ITypedL0R
          refine bind_step c4 (guard_step hb (bind_step c3 (guard_else (by rw [hb1, Bool.and_false]) ?_)))
          rw [wI_one e (by omega)]
        by_cases hbad : digsAt s (e + 1) = [] ∨ (digsAt s (e + 1)).head? = some 0 ∨ 65536 < fold10 0 (digsAt s (e + 1))
        · refine give (0, 0, ()) ?_ fun _ => kfail ?_
          · rw [tstep]
            refine bind_step hrn ?_
            rw [if_pos hbad]
            exact guard_step (by simp) rfl
          · by_cases hnil : digsAt s (e + 1) = []
            · right; rw [hnil]; exact hb1
            · left
              exact ⟨hnil, (hbad.resolve_left hnil).imp id fun h => by omega⟩
        · rw [if_neg hbad] at hrn
          simp only [not_or] at hbad
          have hlen : 0 < (digsAt s (e + 1)).length := List.length_pos_iff.2 hbad.1
          have hle := digsAt_le s (e + 1) (by omega)
          have hpos := fold_pos hbad.1 hbad.2.1
          by_cases hv : 65535 < fold10 0 (digsAt s (e + 1))
          · refine give (0, 0, ()) ?_ fun _ => kfail (.inl ⟨hbad.1, .inr hv⟩)
            rw [tstep]
            exact bind_step hrn (guard_else (by simp only [beq_eq_false_iff_ne]; omega) (guard_step (dec_t (by simp only; omega)) rfl))
          · have c5 : ref22IStarts s ((e + 1 + (digsAt s (e + 1)).length : Nat) : Int) strC5 = some (hasB s (e + 1 + (digsAt s (e + 1)).length) 93) := (starts_val hs2 hle strC5 (by decide) (by decide)).trans (congrArg some (startsB_one s _ 93))
            by_cases hq : hasB s (e + 1 + (digsAt s (e + 1)).length) 93 = true
            · have hql := hasB_lt hq
              have hn1 : abiReaderNumber (s, ((e + 1 : Nat) : Int)) (65535 : Int) = some (.inl (((fold10 0 (digsAt s (e + 1)) : Nat) : Int), s, ((e + 1 + (digsAt s (e + 1)).length : Nat) : Int))) := by
                rw [if_neg (by rintro ⟨_, h | h⟩; exact hbad.2.1 h; exact hv h)] at hnum
                exact hnum
              refine grow (.mk 9 ((fold10 0 (digsAt s (e + 1)) : Nat) : Int) [t]) _ 0 (by omega) hq ?_ ⟨by omega, by omega, .arr _ t (by omega) (by omega) g3, by simp only [RT.sz, RT.szs]; omega, ?_⟩ snd_child (fun hst => kind_round hs hb hq hn1 (listOf_val (by omega) (by have := hst.1; omega) g3 hst.wd hpos (by omega)))
              · intro f hf
                obtain ⟨f, rfl⟩ : ∃ q, f = q + 1 := ⟨f - 1, by omega⟩
                refine iter_more ?_ rfl
                simp only
                rw [tstep]
                refine bind_step hrn (guard_else (by simp only [beq_eq_false_iff_ne]; omega) (guard_else (dec_f (by simp only; omega)) (bind_step c5 (guard_else (by rw [hq]; rfl) ?_))))
                simp only
                rw [wI_one _ (by omega)]
              · have : (RT.mk 9 ((fold10 0 (digsAt s (e + 1)) : Nat) : Int) [t]).tx = t.tx ++ strC4 ++ decI ((fold10 0 (digsAt s (e + 1)) : Nat) : Int) ++ strC5 := by simp [RT.tx, RT.txs, RT.txt]
                have l4 : strC4.length = 1 := rfl
                have l5 : strC5.length = 1 := rfl
                have hd := decI_len5 (n := ((fold10 0 (digsAt s (e + 1)) : Nat) : Int)) (by omega)
                rw [this]
                simp only [List.length_append]; omega
            · have hq : hasB s (e + 1 + (digsAt s (e + 1)).length) 93 = false := by simpa using hq
              refine give (0, 0, ()) ?_ fun _ => kfail (.inr hq)
              rw [tstep]
              exact bind_step hrn (guard_else (by simp only [beq_eq_false_iff_ne]; omega) (guard_else (dec_f (by simp only; omega)) (bind_step c5 (guard_step (by rw [hq]; rfl) rfl))))
    · have hb : hasB s e 91 = false := by simpa using hb
      by_cases hst : Snd t
      · refine ⟨.inr ((e : Int), b4, t), .inr (t.kt, s, (e : Int)), fun f hf => ?_, fun _ f hf => ?_, fun h => absurd hst h, .inr ⟨t, e, b4, rfl, ⟨g1, g2, g3, g4, g5⟩, .inl ⟨hst, rfl⟩⟩⟩
        · obtain ⟨f, rfl⟩ : ∃ q, f = q + 1 := ⟨f - 1, by omega⟩
          refine iter_end ?_
          simp only
          unfold ref22ITypedL0R
          exact bind_step c4 (guard_else hb rfl)
        · obtain ⟨f, rfl⟩ : ∃ q, f = q + 1 := ⟨f - 1, by omega⟩
          refine iter_end ?_
          simp only
          unfold abiReaderKindL0R
          refine bind_step (is_val hs2 g2 91) ?_
          rw [hb]; rfl
      · refine ⟨.inr ((e : Int), b4, t), .inl (), fun f hf => ?_, fun h => absurd h hst, fun _ => rfl, .inr ⟨t, e, b4, rfl, ⟨g1, g2, g3, g4, g5⟩, .inr ⟨hst, rfl⟩⟩⟩
        obtain ⟨f, rfl⟩ : ∃ q, f = q + 1 := ⟨f - 1, by omega⟩
        refine iter_end ?_
        simp only
        unfold ref22ITypedL0R
        exact bind_step c4 (guard_else hb rfl)
end Go.Sy
