/- Plain law: a text read behind its beginning is as the rest read alone. -/
import Derived.Test.YtapnedegcnmhgaaDoorSyNg
import Derived.Test.YtapnedegcnmhgaaDoorSyVN
import Derived.Test.YtapnedegcnmhgaaDoorSyNh
set_option linter.unusedVariables false
set_option linter.unusedSimpArgs false
namespace Go.Sy
open Go
theorem startsB_drop (s : List UInt8) (k p : Nat) (w : List UInt8) : startsB s (k + p) w = startsB (s.drop k) p w := by
 unfold startsB; rw [List.drop_drop]
theorem digsAt_drop (s : List UInt8) (k p : Nat) : digsAt s (k + p) = digsAt (s.drop k) p := by
 unfold digsAt; rw [List.drop_drop]
def shR (k : Nat) (r : RT × Int × Bool) : RT × Int × Bool := bif r.2.2 then (r.1, r.2.1 + (k : Int), true) else r
def PosOK (S : List UInt8) (r : RT × Int × Bool) : Prop := r.2.2 = true → ∃ e : Nat, r.2.1 = (e : Int) ∧ e ≤ S.length
theorem shR_ok {k : Nat} {t : RT} {e : Nat} : shR k (t, (e : Int), true) = (t, ((k + e : Nat) : Int), true) := by
 show (t, (e : Int) + (k : Int), true) = _
 have : (e : Int) + (k : Int) = ((k + e : Nat) : Int) := by omega
 rw [this]
theorem pos_ok {S : List UInt8} {t : RT} {e : Nat} {b : Bool} (h : e ≤ S.length) : PosOK S (t, (e : Int), b) := fun _ => ⟨e, rfl, h⟩
theorem pos_bad {S : List UInt8} {t : RT} {e : Int} : PosOK S (t, e, false) := fun h => by cases h
theorem iter_sim {α ρ α' ρ' : Type} {f : α → Option (α ⊕ ρ)} {f' : α' → Option (α' ⊕ ρ')} (R : α → α' → Prop) (Q : ρ → ρ' → Prop)
  (h1 : ∀ a a' b, R a a' → f a = some (.inl b) → ∃ b', f' a' = some (.inl b') ∧ R b b') (h2 : ∀ a a' r, R a a' → f a = some (.inr r) → ∃ r', f' a' = some (.inr r') ∧ Q r r') :
  ∀ (n : Nat) (a : α) (a' : α') (r : ρ), R a a' → iter f n a = some r → ∃ r', iter f' n a' = some r' ∧ Q r r'
 | 0, a, a', r, _, h => by cases h
 | n + 1, a, a', r, hR, h => by
  simp only [iter] at h ⊢
  cases hf : f a with
  | none => rw [hf] at h; cases h
  | some x =>
   rw [hf] at h
   cases x with
   | inl b =>
    obtain ⟨b', e1, e2⟩ := h1 a a' b hR hf
    rw [e1]
    exact iter_sim R Q h1 h2 n b b' r e2 h
   | inr q =>
    obtain ⟨q', e1, e2⟩ := h2 a a' q hR hf
    rw [e1]
    simp only [Option.bind_some, Option.some.injEq] at h ⊢
    subst h
    exact ⟨q', rfl, e2⟩
section
variable {s : List UInt8} {k : Nat}
theorem st_both (hs : s.length < 1000000) (hk : k ≤ s.length) {p : Nat} (hp : p ≤ (s.drop k).length) (w : List UInt8) (hw : w ≠ []) (hl : w.length < 100) :
  ref22IStarts (s.drop k) (p : Int) w = some (startsB (s.drop k) p w) ∧ ref22IStarts s ((k + p : Nat) : Int) w = some (startsB (s.drop k) p w) := by
 have e : (s.drop k).length = s.length - k := List.length_drop
 refine ⟨starts_val (by omega) hp w hw hl, ?_⟩
 rw [starts_val (by omega) (by omega) w hw hl, startsB_drop]
theorem num_both (hs : s.length < 1000000) (hk : k ≤ s.length) {p : Nat} (hp : p ≤ (s.drop k).length) :
  ∃ v e : Nat, p ≤ e ∧ e ≤ (s.drop k).length ∧ ref22INumber (s.drop k) (p : Int) = some ((v : Int), (e : Int)) ∧ ref22INumber s ((k + p : Nat) : Int) = some ((v : Int), ((k + e : Nat) : Int)) := by
 have e : (s.drop k).length = s.length - k := List.length_drop
 rw [refNumber_val (by omega) (by omega) hp, refNumber_val (s := s) (by omega) (by omega) (p := k + p) (by omega), digsAt_drop]
 have hle := digsAt_le (s.drop k) p hp
 split
 ·exact ⟨0, p, Nat.le_refl _, hp, rfl, rfl⟩
 ·exact ⟨_, p + (digsAt (s.drop k) p).length, by omega, hle, rfl, by rw [Nat.add_assoc]⟩
theorem sized_both (hs : s.length < 1000000) (hk : k ≤ s.length) {q : Nat} (hq : q ≤ (s.drop k).length) (w wo usual : Int) {step most : Nat} (h1 : 1 ≤ step) (h2 : most ≤ 65536) :
  ∃ r, ref22ISized (s.drop k) (q : Int) w wo usual (step : Int) (most : Int) = some r ∧ ref22ISized s ((k + q : Nat) : Int) w wo usual (step : Int) (most : Int) = some (shR k r) ∧ PosOK (s.drop k) r := by
 have e : (s.drop k).length = s.length - k := List.length_drop
 have hle := digsAt_le (s.drop k) q hq
 rw [sized_val (by omega) hq w wo usual h1 h2, sized_val (s := s) (by omega) (q := k + q) (by omega) w wo usual h1 h2, digsAt_drop]
 split
 ·exact ⟨_, rfl, by rw [shR_ok], pos_ok hq⟩
 ·split
  ·exact ⟨_, rfl, rfl, pos_bad⟩
  ·exact ⟨_, rfl, by rw [shR_ok, Nat.add_assoc], pos_ok hle⟩
theorem base_sim {g : ringRef22ITyped} (hs : s.length < 1000000) (hk : k ≤ s.length)
  (hT : ∀ p r, p ≤ (s.drop k).length → g.ref22ITuple (s.drop k) (p : Int) = some r → g.ref22ITuple s ((k + p : Nat) : Int) = some (shR k r) ∧ PosOK (s.drop k) r) :
  ∀ (p : Nat) r, p ≤ (s.drop k).length → ref22IBaseB g (s.drop k) (p : Int) = some r → ref22IBaseB g s ((k + p : Nat) : Int) = some (shR k r) ∧ PosOK (s.drop k) r := by
 intro p r hp
 have e : (s.drop k).length = s.length - k := List.length_drop
 have n4 : ∀ n : Nat, n < 100 → IntKind.wrap .i64 ((p : Int) + (n : Int)) = ((p + n : Nat) : Int) := fun n hn => wI_add p n (by omega)
 have m4 : ∀ n : Nat, n < 100 → IntKind.wrap .i64 (((k + p : Nat) : Int) + (n : Int)) = ((k + (p + n) : Nat) : Int) := fun n hn => by
  rw [wI_add (k + p) n (by omega), Nat.add_assoc]
 have S := fun w h1 h2 => st_both hs hk hp w h1 h2
 have hle := fun (w : List UInt8) (h : startsB (s.drop k) p w = true) (hw : w ≠ []) => startsB_le h hw
 unfold ref22IBaseB
 rw [(S strC6 (by decide) (by decide)).1, (S strC6 (by decide) (by decide)).2]
 simp only [Option.bind_some]
 cases b6 : startsB (s.drop k) p strC6
 case true =>
  simp only [cond_true]
  have hq := hle _ b6 (by decide)
  have l6 : strC6.length = 4 := rfl
  obtain ⟨r', x1, x2, x3⟩ := sized_both (k := k) hs hk (q := p + 4) (by omega) 1 1 256 (step := 8) (most := 256) (by decide) (by decide)
  intro h
  have g1 := n4 4 (by decide)
  have g2 := m4 4 (by decide)
  simp only [Int.cast_ofNat_Int] at g1 g2 x1 x2
  rw [g1, x1] at h
  rw [g2, x2]
  simp only [Option.bind_some, Option.some.injEq] at h ⊢
  subst h
  exact ⟨rfl, x3⟩
 simp only [cond_false]
 rw [(S strC7 (by decide) (by decide)).1, (S strC7 (by decide) (by decide)).2]
 simp only [Option.bind_some]
 cases b7 : startsB (s.drop k) p strC7
 case true =>
  simp only [cond_true]
  have hq := hle _ b7 (by decide)
  have l7 : strC7.length = 3 := rfl
  obtain ⟨r', x1, x2, x3⟩ := sized_both (k := k) hs hk (q := p + 3) (by omega) 2 2 256 (step := 8) (most := 256) (by decide) (by decide)
  intro h
  have g1 := n4 3 (by decide)
  have g2 := m4 3 (by decide)
  simp only [Int.cast_ofNat_Int] at g1 g2 x1 x2
  rw [g1, x1] at h
  rw [g2, x2]
  simp only [Option.bind_some, Option.some.injEq] at h ⊢
  subst h
  exact ⟨rfl, x3⟩
 simp only [cond_false]
 rw [(S strC8 (by decide) (by decide)).1, (S strC8 (by decide) (by decide)).2]
 simp only [Option.bind_some]
 cases b8 : startsB (s.drop k) p strC8
 case true =>
  simp only [cond_true]
  have hq := hle _ b8 (by decide)
  have l8 : strC8.length = 5 := rfl
  obtain ⟨r', x1, x2, x3⟩ := sized_both (k := k) hs hk (q := p + 5) (by omega) 5 6 0 (step := 1) (most := 32) (by decide) (by decide)
  intro h
  have g1 := n4 5 (by decide)
  have g2 := m4 5 (by decide)
  simp only [Int.cast_ofNat_Int] at g1 g2 x1 x2
  rw [g1, x1] at h
  rw [g2, x2]
  simp only [Option.bind_some, Option.some.injEq] at h ⊢
  subst h
  exact ⟨rfl, x3⟩
 simp only [cond_false]
 rw [(S strC9 (by decide) (by decide)).1, (S strC9 (by decide) (by decide)).2]
 simp only [Option.bind_some]
 cases b9 : startsB (s.drop k) p strC9
 case true =>
  simp only [cond_true]
  have hq := hle _ b9 (by decide)
  have l9 : strC9.length = 7 := rfl
  intro h
  have g1 := n4 7 (by decide)
  have g2 := m4 7 (by decide)
  simp only [Int.cast_ofNat_Int] at g1 g2
  rw [g1] at h
  rw [g2]
  simp only [Option.some.injEq] at h ⊢
  subst h
  exact ⟨shR_ok.symm, pos_ok (by omega)⟩
 simp only [cond_false]
 rw [(S strC10 (by decide) (by decide)).1, (S strC10 (by decide) (by decide)).2]
 simp only [Option.bind_some]
 cases b10 : startsB (s.drop k) p strC10
 case true =>
  simp only [cond_true]
  have hq := hle _ b10 (by decide)
  have l10 : strC10.length = 4 := rfl
  intro h
  have g1 := n4 4 (by decide)
  have g2 := m4 4 (by decide)
  simp only [Int.cast_ofNat_Int] at g1 g2
  rw [g1] at h
  rw [g2]
  simp only [Option.some.injEq] at h ⊢
  subst h
  exact ⟨shR_ok.symm, pos_ok (by omega)⟩
 simp only [cond_false]
 rw [(S strC11 (by decide) (by decide)).1, (S strC11 (by decide) (by decide)).2]
 simp only [Option.bind_some]
 cases b11 : startsB (s.drop k) p strC11
 case true =>
  simp only [cond_true]
  have hq := hle _ b11 (by decide)
  have l11 : strC11.length = 6 := rfl
  intro h
  have g1 := n4 6 (by decide)
  have g2 := m4 6 (by decide)
  simp only [Int.cast_ofNat_Int] at g1 g2
  rw [g1] at h
  rw [g2]
  simp only [Option.some.injEq] at h ⊢
  subst h
  exact ⟨shR_ok.symm, pos_ok (by omega)⟩
 simp only [cond_false]
 rw [(S strC1 (by decide) (by decide)).1, (S strC1 (by decide) (by decide)).2]
 simp only [Option.bind_some]
 cases b1 : startsB (s.drop k) p strC1
 case true =>
  simp only [cond_true]
  have hq := hle _ b1 (by decide)
  have l1 : strC1.length = 1 := rfl
  intro h
  have g1 := n4 1 (by decide)
  have g2 := m4 1 (by decide)
  simp only [Int.cast_ofNat_Int] at g1 g2
  rw [g1] at h
  rw [g2]
  cases hg : g.ref22ITuple (s.drop k) ((p + 1 : Nat) : Int) with
  | none => rw [hg] at h; cases h
  | some q =>
   rw [hg] at h
   simp only [Option.bind_some, Option.some.injEq] at h
   subst h
   obtain ⟨y1, y2⟩ := hT (p + 1) q (by omega) hg
   rw [y1]
   exact ⟨rfl, y2⟩
 simp only [cond_false]
 intro h
 simp only [Option.some.injEq] at h ⊢
 subst h
 exact ⟨rfl, pos_bad⟩
theorem typedL_sim {g : ringRef22ITyped} (hs : s.length < 1000000) (hk : k ≤ s.length) (b4 : RT) (n e : Nat) (t : RT) (he : e ≤ (s.drop k).length) (r) (h : iter (fun p : List UInt8 × Int × RT × RT => ref22ITypedL0R g p.1 p.2.1 p.2.2.1 p.2.2.2) n (s.drop k, (e : Int), b4, t) = some r) :
  ∃ r', iter (fun p : List UInt8 × Int × RT × RT => ref22ITypedL0R g p.1 p.2.1 p.2.2.1 p.2.2.2) n (s, ((k + e : Nat) : Int), b4, t) = some r' ∧
   ((∃ x, r = .inl x ∧ r' = .inl x) ∨ ∃ (u : RT) (f : Nat), r = .inr ((f : Int), b4, u) ∧ r' = .inr (((k + f : Nat) : Int), b4, u) ∧ f ≤ (s.drop k).length) := by
 have el : (s.drop k).length = s.length - k := List.length_drop
 have key : ∀ (e : Nat) (t : RT), e ≤ (s.drop k).length → ∀ x, ref22ITypedL0R g (s.drop k) (e : Int) b4 t = some x →
   (∃ y, x = .inr (.inl y) ∧ ref22ITypedL0R g s ((k + e : Nat) : Int) b4 t = some (.inr (.inl y))) ∨ (x = .inr (.inr ((e : Int), b4, t)) ∧ ref22ITypedL0R g s ((k + e : Nat) : Int) b4 t = some (.inr (.inr (((k + e : Nat) : Int), b4, t)))) ∨
    ∃ (f : Nat) (u : RT), f ≤ (s.drop k).length ∧ x = .inl (s.drop k, (f : Int), b4, u) ∧ ref22ITypedL0R g s ((k + e : Nat) : Int) b4 t = some (.inl (s, ((k + f : Nat) : Int), b4, u)) := by
  intro e t he x
  have S := fun w h1 h2 => st_both hs hk he w h1 h2
  unfold ref22ITypedL0R
  rw [(S strC4 (by decide) (by decide)).1, (S strC4 (by decide) (by decide)).2]
  simp only [Option.bind_some]
  cases c4 : startsB (s.drop k) e strC4
  ·simp only [cond_false]
   intro h
   simp only [Option.some.injEq] at h
   exact .inr (.inl ⟨h.symm, by trivial⟩)
  simp only [cond_true]
  have h4 := startsB_le c4 (by decide)
  have l4 : strC4.length = 1 := rfl
  rw [(S strC3 (by decide) (by decide)).1, (S strC3 (by decide) (by decide)).2]
  simp only [Option.bind_some]
  cases c3 : startsB (s.drop k) e strC3
  case true =>
   simp only [cond_true]
   have h3 := startsB_le c3 (by decide)
   have l3 : strC3.length = 2 := rfl
   intro h
   simp only [Option.some.injEq] at h
   refine .inr (.inr ⟨e + 2, RT.mk 8 0 [t], by omega, ?_, ?_⟩)
   ·rw [← h]
    have := wI_add e 2 (by omega)
    simp only [Int.cast_ofNat_Int] at this
    rw [this]
   ·have := wI_add (k + e) 2 (by omega)
    simp only [Int.cast_ofNat_Int] at this
    rw [this, Nat.add_assoc]
  simp only [cond_false]
  rw [wI_one e (by omega), wI_one (k + e) (by omega)]
  obtain ⟨v, f, f1, f2, f3, f4⟩ := num_both hs hk (p := e + 1) (by omega)
  rw [Nat.add_assoc k e 1, f3, f4]
  simp only [Option.bind_some]
  have hb : ((((f : Nat) : Int) == ((e + 1 : Nat) : Int)) = decide (f = e + 1)) ∧ (((((k + f : Nat) : Int)) == ((k + (e + 1) : Nat) : Int)) = decide (f = e + 1)) := by
   constructor <;> (apply Bool.eq_iff_iff.2; simp only [beq_iff_eq, decide_eq_true_eq]; omega)
  rw [hb.1, hb.2]
  cases c5 : decide (f = e + 1)
  case true =>
   simp only [cond_true]
   intro h
   simp only [Option.some.injEq] at h
   exact .inl ⟨_, h.symm, rfl⟩
  simp only [cond_false]
  cases c6 : decide ((v : Int) > (65535 : Int))
  case true =>
   simp only [cond_true]
   intro h
   simp only [Option.some.injEq] at h
   exact .inl ⟨_, h.symm, rfl⟩
  simp only [cond_false]
  have S2 := st_both hs hk f2 strC5 (by decide) (by decide)
  rw [S2.1, S2.2]
  simp only [Option.bind_some]
  cases c7 : startsB (s.drop k) f strC5
  ·simp only [Bool.not_false, cond_true]
   intro h
   simp only [Option.some.injEq] at h
   exact .inl ⟨_, h.symm, rfl⟩
  simp only [Bool.not_true, cond_false]
  have h7 := startsB_le c7 (by decide)
  have l7 : strC5.length = 1 := rfl
  intro h
  simp only [Option.some.injEq] at h
  refine .inr (.inr ⟨f + 1, RT.mk 9 (v : Int) [t], by omega, ?_, ?_⟩)
  ·rw [← h, wI_one f (by omega)]
  ·rw [wI_one (k + f) (by omega), Nat.add_assoc]
 refine iter_sim (fun a a' => ∃ (e : Nat) (t : RT), e ≤ (s.drop k).length ∧ a = (s.drop k, (e : Int), b4, t) ∧ a' = (s, ((k + e : Nat) : Int), b4, t))
  (fun (r r' : (Int × Int × Unit) ⊕ (Int × RT × RT)) => (∃ x, r = .inl x ∧ r' = .inl x) ∨ ∃ (u : RT) (f : Nat), r = .inr ((f : Int), b4, u) ∧ r' = .inr (((k + f : Nat) : Int), b4, u) ∧ f ≤ (s.drop k).length) ?_ ?_ n _ _ r ⟨e, t, he, rfl, rfl⟩ h
 ·rintro a a' b ⟨e, t, he, rfl, rfl⟩ hb
  rcases key e t he _ hb with ⟨y, h1, _⟩ | ⟨h1, _⟩ | ⟨f, u, h1, h2, h3⟩
  ·cases h1
  ·cases h1
  ·simp only [Sum.inl.injEq] at h2
   exact ⟨_, h3, f, u, h1, h2, rfl⟩
 ·rintro a a' q ⟨e, t, he, rfl, rfl⟩ hb
  rcases key e t he _ hb with ⟨y, h1, h2⟩ | ⟨h1, h2⟩ | ⟨f, u, _, h2, _⟩
  ·simp only [Sum.inr.injEq] at h1
   exact ⟨_, h2, .inl ⟨y, h1, rfl⟩⟩
  ·simp only [Sum.inr.injEq] at h1
   exact ⟨_, h2, .inr ⟨t, e, h1, rfl, he⟩⟩
  ·cases h2
theorem typed_sim {g : ringRef22ITyped} (hs : s.length < 1000000) (hk : k ≤ s.length)
  (hB : ∀ p r, p ≤ (s.drop k).length → g.ref22IBase (s.drop k) (p : Int) = some r → g.ref22IBase s ((k + p : Nat) : Int) = some (shR k r) ∧ PosOK (s.drop k) r) :
  ∀ (p : Nat) r, p ≤ (s.drop k).length → ref22ITypedB g (s.drop k) (p : Int) = some r → ref22ITypedB g s ((k + p : Nat) : Int) = some (shR k r) ∧ PosOK (s.drop k) r := by
 intro p r hp h
 unfold ref22ITypedB at h ⊢
 cases hb : g.ref22IBase (s.drop k) (p : Int) with
 | none => rw [hb] at h; cases h
 | some q =>
  obtain ⟨y1, y2⟩ := hB p q hp hb
  rw [hb] at h
  rw [y1]
  simp only [Option.bind_some] at h ⊢
  obtain ⟨u, e, ok⟩ := q
  cases ok
  ·simp only [Bool.not_false, cond_true, Option.some.injEq] at h
   subst h
   exact ⟨rfl, pos_bad⟩
  ·obtain ⟨e, rfl, he⟩ := y2 rfl
   rw [shR_ok]
   simp only [Bool.not_true, cond_false] at h ⊢
   rw [ref22ITypedL0_eq] at h
   cases hl : iter (fun p : List UInt8 × Int × RT × RT => ref22ITypedL0R g p.1 p.2.1 p.2.2.1 p.2.2.2) bigFuel (s.drop k, (e : Int), RT.mk 0 0 [], u) with
   | none => rw [hl] at h; cases h
   | some r0 =>
    rw [hl] at h
    obtain ⟨r1, z1, z2⟩ := typedL_sim hs hk (RT.mk 0 0 []) bigFuel e u he r0 hl
    rw [ref22ITypedL0_eq, z1]
    rcases z2 with ⟨x, rfl, rfl⟩ | ⟨v, f, rfl, rfl, hf⟩
    ·simp only [Option.bind_some, sumK, Option.some.injEq] at h ⊢
     subst h
     exact ⟨rfl, pos_bad⟩
    ·simp only [Option.bind_some, sumK, Option.some.injEq] at h ⊢
     subst h
     exact ⟨shR_ok.symm, pos_ok hf⟩
theorem tupL_sim {g : ringRef22ITyped} (hs : s.length < 1000000) (hk : k ≤ s.length)
  (hT : ∀ p r, p ≤ (s.drop k).length → g.ref22ITyped (s.drop k) (p : Int) = some r → g.ref22ITyped s ((k + p : Nat) : Int) = some (shR k r) ∧ PosOK (s.drop k) r)
  (n e : Nat) (b t : Int × Int × Unit) (l : List RT) (he : e ≤ (s.drop k).length) (r) (h : iter (fun p : List UInt8 × Int × (Int × Int × Unit) × (Int × Int × Unit) × List RT => ref22ITupleL0R g p.1 p.2.1 p.2.2.1 p.2.2.2.1 p.2.2.2.2) n (s.drop k, (e : Int), b, t, l) = some r) :
  ∃ r', iter (fun p : List UInt8 × Int × (Int × Int × Unit) × (Int × Int × Unit) × List RT => ref22ITupleL0R g p.1 p.2.1 p.2.2.1 p.2.2.2.1 p.2.2.2.2) n (s, ((k + e : Nat) : Int), b, t, l) = some r' ∧
   ((∃ x, r = .inr x ∧ r' = .inr x) ∨ (∃ x, r = .inl ((0 : Int), false, x) ∧ r' = .inl ((0 : Int), false, x)) ∨ ∃ (f : Nat) (x : (Int × Int × Unit) × List RT), r = .inl ((f : Int), true, x) ∧ r' = .inl (((k + f : Nat) : Int), true, x) ∧ f ≤ (s.drop k).length) := by
 have el : (s.drop k).length = s.length - k := List.length_drop
 have key : ∀ (e : Nat) (b t : Int × Int × Unit) (l : List RT), e ≤ (s.drop k).length → ∀ x, ref22ITupleL0R g (s.drop k) (e : Int) b t l = some x →
   (∃ y, x = .inr (.inr y) ∧ ref22ITupleL0R g s ((k + e : Nat) : Int) b t l = some (.inr (.inr y))) ∨ (∃ y, x = .inr (.inl ((0 : Int), false, y)) ∧ ref22ITupleL0R g s ((k + e : Nat) : Int) b t l = some (.inr (.inl ((0 : Int), false, y)))) ∨
   (∃ (f : Nat) (y : (Int × Int × Unit) × List RT), f ≤ (s.drop k).length ∧ x = .inr (.inl ((f : Int), true, y)) ∧ ref22ITupleL0R g s ((k + e : Nat) : Int) b t l = some (.inr (.inl (((k + f : Nat) : Int), true, y)))) ∨
    ∃ (f : Nat) (b' t' : Int × Int × Unit) (l' : List RT), f ≤ (s.drop k).length ∧ x = .inl (s.drop k, (f : Int), b', t', l') ∧ ref22ITupleL0R g s ((k + e : Nat) : Int) b t l = some (.inl (s, ((k + f : Nat) : Int), b', t', l')) := by
  intro e b t l he x
  unfold ref22ITupleL0R
  have hd : decide (((k + e : Nat) : Int) < ((s.length : Nat) : Int)) = decide (((e : Nat) : Int) < (((s.drop k).length : Nat) : Int)) := by
   rw [el]
   apply Bool.eq_iff_iff.2
   simp only [decide_eq_true_eq]
   omega
  rw [hd]
  cases decide (((e : Nat) : Int) < (((s.drop k).length : Nat) : Int))
  case false =>
   simp only [cond_false]
   intro h
   simp only [Option.some.injEq] at h
   exact .inl ⟨_, h.symm, rfl⟩
  simp only [cond_true]
  intro h
  cases ht : g.ref22ITyped (s.drop k) (e : Int) with
  | none => rw [ht] at h; cases h
  | some q =>
   obtain ⟨y1, y2⟩ := hT e q he ht
   rw [ht] at h
   rw [y1]
   simp only [Option.bind_some] at h ⊢
   obtain ⟨u, f, ok⟩ := q
   cases ok
   ·simp only [Bool.not_false, cond_true, Option.some.injEq] at h
    exact .inr (.inl ⟨_, h.symm, rfl⟩)
   ·obtain ⟨f, rfl, hf⟩ := y2 rfl
    rw [shR_ok]
    simp only [Bool.not_true, cond_false] at h ⊢
    cases hr : roomB 40 (l.length + [u].length)
    ·rw [hr] at h; cases h
    rw [hr] at h
    simp only [cond_true] at h ⊢
    have S := fun w h1 h2 => st_both hs hk hf w h1 h2
    rw [(S strC2 (by decide) (by decide)).1] at h
    rw [(S strC2 (by decide) (by decide)).2]
    simp only [Option.bind_some] at h ⊢
    cases c2 : startsB (s.drop k) f strC2
    case true =>
     rw [c2] at h
     simp only [cond_true, Option.some.injEq] at h ⊢
     have h2 := startsB_le c2 (by decide)
     have l2 : strC2.length = 1 := rfl
     rw [wI_one f (by omega)] at h
     rw [wI_one (k + f) (by omega)]
     exact .inr (.inr (.inl ⟨f + 1, _, by omega, h.symm, by rw [Nat.add_assoc]⟩))
    rw [c2] at h
    simp only [cond_false] at h ⊢
    rw [(S strC0 (by decide) (by decide)).1] at h
    rw [(S strC0 (by decide) (by decide)).2]
    simp only [Option.bind_some] at h ⊢
    cases c0 : startsB (s.drop k) f strC0
    case false =>
     rw [c0] at h
     simp only [Bool.not_false, cond_true, Option.some.injEq] at h ⊢
     exact .inr (.inl ⟨_, h.symm, rfl⟩)
    rw [c0] at h
    simp only [Bool.not_true, cond_false, Option.some.injEq] at h ⊢
    have h2 := startsB_le c0 (by decide)
    have l2 : strC0.length = 1 := rfl
    rw [wI_one f (by omega)] at h
    rw [wI_one (k + f) (by omega)]
    exact .inr (.inr (.inr ⟨f + 1, _, _, _, by omega, h.symm, by rw [Nat.add_assoc]⟩))
 refine iter_sim (fun a a' => ∃ (e : Nat) (b t : Int × Int × Unit) (l : List RT), e ≤ (s.drop k).length ∧ a = (s.drop k, (e : Int), b, t, l) ∧ a' = (s, ((k + e : Nat) : Int), b, t, l))
  (fun (r r' : (Int × Bool × (Int × Int × Unit) × List RT) ⊕ (Int × Int × Unit)) => (∃ x, r = .inr x ∧ r' = .inr x) ∨ (∃ x, r = .inl ((0 : Int), false, x) ∧ r' = .inl ((0 : Int), false, x)) ∨ ∃ (f : Nat) (x : (Int × Int × Unit) × List RT), r = .inl ((f : Int), true, x) ∧ r' = .inl (((k + f : Nat) : Int), true, x) ∧ f ≤ (s.drop k).length) ?_ ?_ n _ _ r ⟨e, b, t, l, he, rfl, rfl⟩ h
 ·rintro a a' z ⟨e, b, t, l, he, rfl, rfl⟩ hb
  rcases key e b t l he _ hb with ⟨y, h1, _⟩ | ⟨y, h1, _⟩ | ⟨f, y, _, h1, _⟩ | ⟨f, b', t', l', h1, h2, h3⟩
  ·cases h1
  ·cases h1
  ·cases h1
  ·simp only [Sum.inl.injEq] at h2
   exact ⟨_, h3, f, b', t', l', h1, h2, rfl⟩
 ·rintro a a' z ⟨e, b, t, l, he, rfl, rfl⟩ hb
  rcases key e b t l he _ hb with ⟨y, h1, h2⟩ | ⟨y, h1, h2⟩ | ⟨f, y, h0, h1, h2⟩ | ⟨f, b', t', l', h1, h2, h3⟩
  ·simp only [Sum.inr.injEq] at h1
   exact ⟨_, h2, .inl ⟨y, h1, rfl⟩⟩
  ·simp only [Sum.inr.injEq] at h1
   exact ⟨_, h2, .inr (.inl ⟨y, h1, rfl⟩)⟩
  ·simp only [Sum.inr.injEq] at h1
   exact ⟨_, h2, .inr (.inr ⟨f, y, h1, rfl, h0⟩)⟩
  ·cases h2
theorem tuple_sim {g : ringRef22ITyped} (hs : s.length < 1000000) (hk : k ≤ s.length)
  (hT : ∀ p r, p ≤ (s.drop k).length → g.ref22ITyped (s.drop k) (p : Int) = some r → g.ref22ITyped s ((k + p : Nat) : Int) = some (shR k r) ∧ PosOK (s.drop k) r) :
  ∀ (p : Nat) r, p ≤ (s.drop k).length → ref22ITupleB g (s.drop k) (p : Int) = some r → ref22ITupleB g s ((k + p : Nat) : Int) = some (shR k r) ∧ PosOK (s.drop k) r := by
 intro p r hp h
 unfold ref22ITupleB at h ⊢
 rw [ref22ITupleL0_eq] at h ⊢
 cases hl : iter (fun p : List UInt8 × Int × (Int × Int × Unit) × (Int × Int × Unit) × List RT => ref22ITupleL0R g p.1 p.2.1 p.2.2.1 p.2.2.2.1 p.2.2.2.2) bigFuel (s.drop k, (p : Int), (0, 0, ()), (10, 0, ()), []) with
 | none => rw [hl] at h; cases h
 | some r0 =>
  rw [hl] at h
  obtain ⟨r1, z1, z2⟩ := tupL_sim hs hk hT bigFuel p (0, 0, ()) (10, 0, ()) [] hp r0 hl
  rw [z1]
  rcases z2 with ⟨x, rfl, rfl⟩ | ⟨x, rfl, rfl⟩ | ⟨f, x, rfl, rfl, hf⟩
  ·simp only [Option.bind_some, sumK, Option.some.injEq] at h ⊢
   subst h
   exact ⟨rfl, pos_bad⟩
  ·simp only [Option.bind_some, sumK, Option.some.injEq] at h ⊢
   subst h
   exact ⟨rfl, pos_bad⟩
  ·simp only [Option.bind_some, sumK, Option.some.injEq] at h ⊢
   subst h
   exact ⟨shR_ok.symm, pos_ok hf⟩
theorem ring_sim (hs : s.length < 1000000) (hk : k ≤ s.length) : ∀ n : Nat,
  (∀ (p : Nat) r, p ≤ (s.drop k).length → (ringRef22ITypedI n).ref22ITyped (s.drop k) (p : Int) = some r → (ringRef22ITypedI n).ref22ITyped s ((k + p : Nat) : Int) = some (shR k r) ∧ PosOK (s.drop k) r) ∧
  (∀ (p : Nat) r, p ≤ (s.drop k).length → (ringRef22ITypedI n).ref22IBase (s.drop k) (p : Int) = some r → (ringRef22ITypedI n).ref22IBase s ((k + p : Nat) : Int) = some (shR k r) ∧ PosOK (s.drop k) r) ∧
  (∀ (p : Nat) r, p ≤ (s.drop k).length → (ringRef22ITypedI n).ref22ITuple (s.drop k) (p : Int) = some r → (ringRef22ITypedI n).ref22ITuple s ((k + p : Nat) : Int) = some (shR k r) ∧ PosOK (s.drop k) r)
 | 0 => ⟨fun p r _ h => (by cases h), fun p r _ h => (by cases h), fun p r _ h => (by cases h)⟩
 | n + 1 => by
  obtain ⟨h1, h2, h3⟩ := ring_sim hs hk n
  rw [ref22ITyped_S, ref22IBase_S, ref22ITuple_S]
  exact ⟨typed_sim hs hk h2, base_sim hs hk h3, tuple_sim hs hk h1⟩
end
end Go.Sy
set_option linter.unusedVariables false
set_option linter.unusedSimpArgs false
namespace Go.Sy
open Go
def isL (c : Nat) : Bool := decide (97 ≤ c ∧ c ≤ 122) || decide (65 ≤ c ∧ c ≤ 90) || c == 95 || c == 36
def isD (c : Nat) : Bool := decide (48 ≤ c ∧ c ≤ 57)
def nmLen : List UInt8 → Nat
 | [] => 0
 | c :: l => if isL c.toNat || isD c.toNat then nmLen l + 1 else 0
theorem letterB_val : ∀ n, n < 256 → abiILetterB ((n : Nat) : Int) = some (isL n) := by decide +kernel
theorem letterB2_val : ∀ n, n < 256 → ref22ILetterB ((n : Nat) : Int) = some (isL n) := by decide +kernel
theorem letter_val (c : UInt8) : abiILetter ((c.toNat : Nat) : Int) = some (isL c.toNat) := by
 rw [abiILetter_eq]; exact letterB_val _ c.toNat_lt
theorem letter2_val (c : UInt8) : ref22ILetter ((c.toNat : Nat) : Int) = some (isL c.toNat) := by
 rw [ref22ILetter_eq]; exact letterB2_val _ c.toNat_lt
theorem nmLen_le : ∀ l, nmLen l ≤ l.length
 | [] => Nat.le_refl _
 | c :: l => by
  have := nmLen_le l
  simp only [nmLen, List.length_cons]
  split <;> omega
theorem get_at {s : List UInt8} {p : Nat} (h : p < s.length) : List.getD s p 0 = s[p] := getD_some h
theorem scanR {s : List UInt8} (hs : s.length < 100000000000000000) : ∀ (m p fuel : Nat), s.length - p < m → m ≤ fuel → p ≤ s.length →
  iter (fun p : List UInt8 × Int => ref22NamedL0R p.1 p.2) fuel (s, (p : Int)) = some (s, ((p + nmLen (s.drop p) : Nat) : Int))
 | 0, p, fuel, h, _, _ => by omega
 | m + 1, p, fuel + 1, h, hf, hp => by
  by_cases hlt : p < s.length
  ·have hd : List.drop p s = List.getD s p 0 :: List.drop (p + 1) s := by rw [get_at hlt]; exact drop_cons hlt
   by_cases hc : isL (List.getD s p 0).toNat || isD (List.getD s p 0).toNat
   ·have hn : nmLen (s.drop p) = nmLen (s.drop (p + 1)) + 1 := by
     rw [hd]; simp only [nmLen]; rw [if_pos hc]
    refine iter_more (b := (s, ((p + 1 : Nat) : Int))) ?_ ?_
    ·show ref22NamedL0R s (p : Int) = _
     unfold ref22NamedL0R
     refine guard_step (dec_t (by omega)) (guard_step (dec_t (by omega)) ?_)
     simp only [Int.toNat_natCast]
     refine guard_step (blt_t hlt) ?_
     refine bind_step (letter2_val _) ?_
     rw [wI_one p (by omega)]
     cases h1 : isL (List.getD s p 0).toNat
     ·refine guard_else rfl ?_
      refine guard_step (dec_t (by omega)) (guard_step (blt_t hlt) ?_)
      refine bind_step (digit_val _) ?_
      rw [h1] at hc
      refine guard_step (by simpa [isD] using hc) rfl
     ·exact guard_step rfl rfl
    ·rw [scanR hs m (p + 1) fuel (by omega) (by omega) (by omega), hn]
     congr 3
     omega
   ·have hn : nmLen (s.drop p) = 0 := by
     rw [hd]; simp only [nmLen]; rw [if_neg hc]
    rw [hn]
    refine iter_end ?_
    show ref22NamedL0R s (p : Int) = _
    unfold ref22NamedL0R
    refine guard_step (dec_t (by omega)) (guard_step (dec_t (by omega)) ?_)
    simp only [Int.toNat_natCast]
    refine guard_step (blt_t hlt) ?_
    simp only [Bool.or_eq_true, not_or, Bool.not_eq_true] at hc
    refine bind_step (letter2_val _) ?_
    rw [hc.1]
    refine guard_else rfl ?_
    refine guard_step (dec_t (by omega)) (guard_step (blt_t hlt) ?_)
    refine bind_step (digit_val _) ?_
    have := hc.2
    simp only [isD] at this
    exact guard_else this rfl
  ·have hn : nmLen (s.drop p) = 0 := by rw [List.drop_of_length_le (by omega)]; rfl
   rw [hn]
   refine iter_end ?_
   show ref22NamedL0R s (p : Int) = _
   unfold ref22NamedL0R
   exact guard_else (dec_f (by omega)) rfl
theorem scanP {s b0 : List UInt8} {b1 : List KT} {nm : Int} (hs : s.length < 100000000000000000) : ∀ (m p fuel : Nat), s.length - p < m → m ≤ fuel → 1 ≤ p → p ≤ s.length →
  iter (fun p : List UInt8 × List UInt8 × List KT × Int × (List UInt8 × Int) => abiISignatureL0R p.1 p.2.1 p.2.2.1 p.2.2.2.1 p.2.2.2.2) fuel (s, b0, b1, nm, (s, (p : Int))) = some (s, b0, b1, nm, s, ((p + nmLen (s.drop p) : Nat) : Int))
 | 0, p, fuel, h, _, _, _ => by omega
 | m + 1, p, fuel + 1, h, hf, hp1, hp => by
  by_cases hlt : p < s.length
  ·have hd : List.drop p s = List.getD s p 0 :: List.drop (p + 1) s := by rw [get_at hlt]; exact drop_cons hlt
   by_cases hc : isL (List.getD s p 0).toNat || isD (List.getD s p 0).toNat
   ·have hn : nmLen (s.drop p) = nmLen (s.drop (p + 1)) + 1 := by
     rw [hd]; simp only [nmLen]; rw [if_pos hc]
    refine iter_more (b := (s, b0, b1, nm, (s, ((p + 1 : Nat) : Int)))) ?_ ?_
    ·show abiISignatureL0R s b0 b1 nm (s, (p : Int)) = _
     unfold abiISignatureL0R
     refine guard_step (dec_t (by omega)) (guard_step (dec_t (by omega)) ?_)
     simp only [Int.toNat_natCast]
     refine guard_step (blt_t hlt) ?_
     refine bind_step (letter_val _) ?_
     rw [wI_one p (by omega)]
     cases h1 : isL (List.getD s p 0).toNat
     ·refine guard_else rfl ?_
      rw [h1] at hc
      simp only [isD, Bool.false_or, decide_eq_true_eq] at hc
      refine guard_step (dec_t (by omega)) (guard_step (dec_t (by omega)) (guard_step (blt_t hlt) (guard_step (dec_t (by omega)) (guard_step (dec_t (by omega)) (guard_step (blt_t hlt) (guard_step (dec_t (by omega)) rfl))))))
     ·exact guard_step rfl rfl
    ·rw [scanP hs m (p + 1) fuel (by omega) (by omega) (by omega) (by omega), hn]
     congr 7
     omega
   ·have hn : nmLen (s.drop p) = 0 := by
     rw [hd]; simp only [nmLen]; rw [if_neg hc]
    rw [hn]
    refine iter_end ?_
    show abiISignatureL0R s b0 b1 nm (s, (p : Int)) = _
    unfold abiISignatureL0R
    refine guard_step (dec_t (by omega)) (guard_step (dec_t (by omega)) ?_)
    simp only [Int.toNat_natCast]
    refine guard_step (blt_t hlt) ?_
    simp only [Bool.or_eq_true, not_or, Bool.not_eq_true] at hc
    refine bind_step (letter_val _) ?_
    rw [hc.1]
    refine guard_else rfl ?_
    have := hc.2
    simp only [isD, decide_eq_false_iff_not] at this
    refine guard_step (dec_t (by omega)) (guard_step (dec_t (by omega)) (guard_step (blt_t hlt) ?_))
    by_cases h48 : 48 ≤ (List.getD s p 0).toNat
    ·exact guard_step (dec_t (by omega)) (guard_step (dec_t (by omega)) (guard_step (blt_t hlt) (guard_else (dec_f (by omega)) rfl)))
    ·exact guard_else (dec_f (by omega)) rfl
  ·have hn : nmLen (s.drop p) = 0 := by rw [List.drop_of_length_le (by omega)]; rfl
   rw [hn]
   refine iter_end ?_
   show abiISignatureL0R s b0 b1 nm (s, (p : Int)) = _
   unfold abiISignatureL0R
   exact guard_else (dec_f (by simp only; omega)) rfl
def nmEnd : List UInt8 → Nat
 | [] => 0
 | c :: l => if isL c.toNat then nmLen l + 1 else 0
theorem nmEnd_le (s : List UInt8) : nmEnd s ≤ s.length := by
 cases s with
 | nil => exact Nat.le_refl _
 | cons c l =>
  have := nmLen_le l
  simp only [nmEnd, List.length_cons]
  split <;> omega
theorem scan_val {s : List UInt8} (hs : s.length < 100000000000000000) : abiISignatureL0 s [] [] 0 (s, 0) = some (s, [], [], 0, s, ((nmEnd s : Nat) : Int)) := by
 rw [abiISignatureL0_eq]
 obtain ⟨b, hb⟩ : ∃ b, bigFuel = b + 1 := ⟨1152921504606846975, bigFuel_eq⟩
 have hb2 : s.length + 1 ≤ b := by rw [bigFuel_eq] at hb; omega
 rw [hb]
 cases s with
 | nil => exact iter_end rfl
 | cons c l =>
  have hg : List.getD (c :: l) (0 : Int).toNat 0 = c := rfl
  by_cases hc : isL c.toNat = true
  ·refine iter_more (b := (c :: l, [], [], 0, (c :: l, ((1 : Nat) : Int)))) ?_ ?_
   ·show abiISignatureL0R (c :: l) [] [] 0 (c :: l, 0) = _
    unfold abiISignatureL0R
    refine guard_step (dec_t (by simp only [List.length_cons]; omega)) (guard_step rfl (guard_step (blt_t (by simp)) ?_))
    rw [hg]
    refine bind_step (letter_val c) ?_
    rw [hc]
    exact guard_step rfl rfl
   ·rw [scanP hs (c :: l).length 1 b (by simp) (by omega) (Nat.le_refl _) (by simp)]
    simp only [nmEnd, List.drop_succ_cons, List.drop_zero]
    rw [if_pos hc]
    congr 7
    omega
  ·have hc : isL c.toNat = false := by simpa using hc
   refine iter_end ?_
   show abiISignatureL0R (c :: l) [] [] 0 (c :: l, 0) = _
   unfold abiISignatureL0R
   refine guard_step (dec_t (by simp only [List.length_cons]; omega)) (guard_step rfl (guard_step (blt_t (by simp)) ?_))
   rw [hg]
   refine bind_step (letter_val c) ?_
   rw [hc]
   refine guard_else rfl (guard_else rfl ?_)
   simp only [nmEnd, hc]
   rfl
theorem read_at {s : List UInt8} {k : Nat} (hs : s.length ≤ 4096) (hk : k ≤ s.length) :
  (∃ t, ref22ITyped s (k : Int) = some (t, (s.length : Int), true) ∧ ref22Read (s.drop k) = some (t, 0) ∧ t.WF ∧ Snd t ∧ t.sz ≤ 4096 ∧ t.tx.length ≤ 12288) ∨
  (ref22Read (s.drop k) = some (RT.mk 0 0 [], 220) ∧ ∀ t, ref22ITyped s (k : Int) = some (t, (s.length : Int), true) → ¬ Snd t) := by
 have el : (s.drop k).length = s.length - k := List.length_drop
 obtain ⟨rt, rk, h1, h2, hrel⟩ := typed_rel (s := s.drop k) (by omega) ((s.drop k).length + 1) 0 (by omega) (Nat.zero_le _) bigFuel bigFuel (by rw [bigFuel_eq]; omega) (by rw [bigFuel_eq]; omega)
 obtain ⟨y1, y2⟩ := (ring_sim (s := s) (k := k) (by omega) hk bigFuel).1 0 rt (Nat.zero_le _) h1
 have h1 : ref22ITyped (s.drop k) (0 : Int) = some rt := by rw [ref22ITyped_eq]; exact h1
 have y1 : ref22ITyped s (k : Int) = some (shR k rt) := by rw [ref22ITyped_eq]; exact y1
 rw [ref22Read_eq, y1]
 unfold ref22ReadB
 rcases hrel with ⟨e1, e2⟩ | ⟨t, e, rfl, ⟨g1, g2, g3, g4, g5⟩, e2⟩
 ·obtain ⟨t, e, ok⟩ := rt
  simp only at e1
  subst e1
  refine .inr ⟨guard_else (dec_f (by omega)) (bind_step h1 (guard_step rfl rfl)), fun t h => by cases h⟩
 ·rw [shR_ok]
  have hdeep : ref22IDeep t = some ((t.dp : Nat) : Int) := by rw [ref22IDeep_eq]; exact deep_val g3 _ (by rw [bigFuel_eq]; omega) (by omega)
  have hnar : ref22INarrow t = some t.nar := by rw [ref22INarrow_eq]; exact narrow_val g3 _ (by rw [bigFuel_eq]; omega) (by omega)
  by_cases he : e = (s.drop k).length
  ·by_cases hsn : Snd t
   ·refine .inl ⟨t, ?_, guard_else (dec_f (by omega)) (bind_step h1 (guard_else rfl (guard_else (by simp [he]) (bind_step hdeep (guard_else (dec_f (by have := hsn.1; omega)) (bind_step hnar (guard_else (by rw [hsn.2]; rfl) rfl))))))), g3, hsn, by omega, by omega⟩
    have : k + e = s.length := by omega
    rw [this]
   ·refine .inr ⟨guard_else (dec_f (by omega)) (bind_step h1 (guard_else rfl (guard_else (by simp [he]) (bind_step hdeep ?_)))), fun t' h => ?_⟩
    ·by_cases hd : 32 < t.dp
     ·exact guard_step (dec_t (by omega)) rfl
     ·refine guard_else (dec_f (by omega)) (bind_step hnar (guard_step ?_ rfl))
      cases hn : t.nar with
      | false => rfl
      | true => exact absurd ⟨by omega, hn⟩ hsn
    ·simp only [Option.some.injEq, Prod.mk.injEq] at h
     rw [← h.1]; exact hsn
  ·refine .inr ⟨guard_else (dec_f (by omega)) (bind_step h1 (guard_else rfl (guard_step ?_ rfl))), fun t' h => ?_⟩
   ·have : ((e : Nat) : Int) ≠ (((s.drop k).length : Nat) : Int) := by omega
    simpa using this
   ·simp only [Option.some.injEq, Prod.mk.injEq] at h
    have := h.2.1
    omega
theorem typedL_kind {g : ringRef22ITyped} {s : List UInt8} (b4 : RT) : ∀ (n : Nat) (e : Int) (t : RT) (e' : Int) (b t' : RT), iter (fun p : List UInt8 × Int × RT × RT => ref22ITypedL0R g p.1 p.2.1 p.2.2.1 p.2.2.2) n (s, e, b4, t) = some (.inr (e', b, t')) →
  (t' = t ∧ e' = e) ∨ (t'.kind = 8 ∨ t'.kind = 9)
 | 0, e, t, e', b, t', h => by cases h
 | n + 1, e, t, e', b, t', h => by
  have key : ∀ x, ref22ITypedL0R g s e b4 t = some x → (x = .inr (.inr (e, b4, t))) ∨ (∃ y, x = .inr (.inl y)) ∨ ∃ f u, x = .inl (s, f, b4, u) ∧ (u.kind = 8 ∨ u.kind = 9) := by
   intro x
   unfold ref22ITypedL0R
   cases h6 : ref22IStarts s e strC4 with
   | none => intro h; cases h
   | some b6 =>
    cases b6
    ·intro h
     exact .inl (Option.some.inj h).symm
    ·cases h7 : ref22IStarts s e strC3 with
     | none => intro h; cases h
     | some b7 =>
      cases b7
      ·simp only [Option.bind_some, cond_true, cond_false]
       cases h8 : ref22INumber s (IntKind.wrap .i64 (e + 1)) with
       | none => intro h; cases h
       | some r8 =>
        simp only [Option.bind_some]
        cases (r8.2 == IntKind.wrap .i64 (e + 1))
        ·simp only [cond_false]
         cases (decide (r8.1 > 65535))
         ·simp only [cond_false]
          cases h9 : ref22IStarts s r8.2 strC5 with
          | none => intro h; cases h
          | some b9 =>
           cases b9
           ·intro h
            exact .inr (.inl ⟨_, (Option.some.inj h).symm⟩)
           ·intro h
            exact .inr (.inr ⟨_, _, (Option.some.inj h).symm, .inr rfl⟩)
         ·intro h
          exact .inr (.inl ⟨_, (Option.some.inj h).symm⟩)
        ·intro h
         exact .inr (.inl ⟨_, (Option.some.inj h).symm⟩)
      ·intro h
       exact .inr (.inr ⟨_, _, (Option.some.inj h).symm, .inl rfl⟩)
  simp only [iter] at h
  cases hf : ref22ITypedL0R g s e b4 t with
  | none => rw [hf] at h; cases h
  | some x =>
   rw [hf] at h
   rcases key x hf with rfl | ⟨y, rfl⟩ | ⟨f, u, rfl, hu⟩
   ·simp only [Option.bind_some, Option.some.injEq, Sum.inr.injEq, Prod.mk.injEq] at h
    exact .inl ⟨h.2.2.symm, h.1.symm⟩
   ·simp only [Option.bind_some, Option.some.injEq, Sum.inr.injEq] at h
    cases h
   ·simp only [Option.bind_some] at h
    rcases typedL_kind b4 n f u e' b t' h with ⟨h1, _⟩ | h1
    ·rw [h1]; exact .inr hu
    ·exact .inr h1
theorem base_kind {g : ringRef22ITyped} {s : List UInt8} (hs : s.length < 1000000) {p : Nat} (hp : p ≤ s.length) {t : RT} {e : Int} (h : ref22IBaseB g s (p : Int) = some (t, e, true)) (hk : t.kind = 10) :
  hasB s p 40 = true ∧ g.ref22ITuple s ((p + 1 : Nat) : Int) = some (t, e, true) := by
 revert h
 have S : ∀ w : List UInt8, w ≠ [] → w.length < 100 → ref22IStarts s (p : Int) w = some (startsB s p w) := fun w h1 h2 => starts_val (by omega) hp w h1 h2
 have n4 : ∀ n : Nat, n < 100 → IntKind.wrap .i64 ((p : Int) + (n : Int)) = ((p + n : Nat) : Int) := fun n hn => wI_add p n (by omega)
 have Z : ∀ (q : Nat) (w wo usual : Int) (step most : Nat), q ≤ s.length → 1 ≤ step → most ≤ 65536 → w ≠ 10 → wo ≠ 10 → ∀ r, ref22ISized s (q : Int) w wo usual (step : Int) (most : Int) = some r → r = (t, e, true) → False := by
  intro q w wo usual step most hq h1 h2 hw hwo r hr hre
  rw [sized_val (by omega) hq w wo usual h1 h2] at hr
  subst hre
  simp only [Option.some.injEq] at hr
  split at hr
  ·simp only [Prod.mk.injEq] at hr
   rw [← hr.1] at hk
   exact hwo hk
  ·split at hr
   ·simp only [Prod.mk.injEq] at hr
    cases hr.2.2
   ·simp only [Prod.mk.injEq] at hr
    rw [← hr.1] at hk
    exact hw hk
 have Z2 : ∀ (n : Nat) (w wo usual : Int) (step most : Nat), n < 100 → p + n ≤ s.length → 1 ≤ step → most ≤ 65536 → w ≠ 10 → wo ≠ 10 → ((ref22ISized s (IntKind.wrap .i64 ((p : Int) + (n : Int))) w wo usual (step : Int) (most : Int)).bind fun r2 => some r2) = some (t, e, true) → False := by
  intro n w wo usual step most hn hq h1 h2 hw hwo h
  rw [n4 n hn] at h
  cases hr : ref22ISized s ((p + n : Nat) : Int) w wo usual (step : Int) (most : Int) with
  | none => rw [hr] at h; cases h
  | some r => rw [hr] at h; exact Z (p + n) w wo usual step most hq h1 h2 hw hwo r hr (Option.some.inj h)
 unfold ref22IBaseB
 rw [S strC6 (by decide) (by decide)]
 simp only [Option.bind_some]
 cases b6 : startsB s p strC6
 case true =>
  intro h
  have := startsB_le b6 (by decide)
  have l6 : strC6.length = 4 := rfl
  exact (Z2 4 1 1 256 8 256 (by decide) (by omega) (by decide) (by decide) (by decide) (by decide) h).elim
 simp only [cond_false]
 rw [S strC7 (by decide) (by decide)]
 simp only [Option.bind_some]
 cases b7 : startsB s p strC7
 case true =>
  intro h
  have := startsB_le b7 (by decide)
  have l6 : strC7.length = 3 := rfl
  exact (Z2 3 2 2 256 8 256 (by decide) (by omega) (by decide) (by decide) (by decide) (by decide) h).elim
 simp only [cond_false]
 rw [S strC8 (by decide) (by decide)]
 simp only [Option.bind_some]
 cases b8 : startsB s p strC8
 case true =>
  intro h
  have := startsB_le b8 (by decide)
  have l6 : strC8.length = 5 := rfl
  exact (Z2 5 5 6 0 1 32 (by decide) (by omega) (by decide) (by decide) (by decide) (by decide) h).elim
 simp only [cond_false]
 rw [S strC9 (by decide) (by decide)]
 simp only [Option.bind_some]
 cases b9 : startsB s p strC9
 case true =>
  intro h
  have h := Option.some.inj h
  simp only [Prod.mk.injEq] at h
  rw [← h.1] at hk
  cases hk
 simp only [cond_false]
 rw [S strC10 (by decide) (by decide)]
 simp only [Option.bind_some]
 cases b10 : startsB s p strC10
 case true =>
  intro h
  have h := Option.some.inj h
  simp only [Prod.mk.injEq] at h
  rw [← h.1] at hk
  cases hk
 simp only [cond_false]
 rw [S strC11 (by decide) (by decide)]
 simp only [Option.bind_some]
 cases b11 : startsB s p strC11
 case true =>
  intro h
  have h := Option.some.inj h
  simp only [Prod.mk.injEq] at h
  rw [← h.1] at hk
  cases hk
 simp only [cond_false]
 rw [S strC1 (by decide) (by decide)]
 simp only [Option.bind_some]
 cases b1 : startsB s p strC1
 case true =>
  intro h
  have e1 : startsB s p strC1 = hasB s p 40 := startsB_one s p 40
  refine ⟨e1 ▸ b1, ?_⟩
  simp only [cond_true] at h
  rw [wI_one p (by omega)] at h
  cases hg : g.ref22ITuple s ((p + 1 : Nat) : Int) with
  | none => rw [hg] at h; cases h
  | some r => rw [hg] at h; exact h
 intro h
 have h := Option.some.inj h
 simp only [Prod.mk.injEq] at h
 cases h.2.2
theorem kind10 {n : Nat} {s : List UInt8} (hs : s.length < 1000000) {p : Nat} (hp : p ≤ s.length) {t : RT} {e : Int} (h : (ringRef22ITypedI (n + 2)).ref22ITyped s (p : Int) = some (t, e, true)) (hk : t.kind = 10) :
  hasB s p 40 = true ∧ (ringRef22ITypedI n).ref22ITuple s ((p + 1 : Nat) : Int) = some (t, e, true) := by
 rw [ref22ITyped_S] at h
 unfold ref22ITypedB at h
 cases hb : (ringRef22ITypedI (n + 1)).ref22IBase s (p : Int) with
 | none => rw [hb] at h; cases h
 | some q =>
  rw [hb] at h
  obtain ⟨u, f, ok⟩ := q
  simp only [Option.bind_some] at h
  cases ok
  ·simp only [Bool.not_false, cond_true, Option.some.injEq, Prod.mk.injEq] at h
   cases h.2.2
  ·simp only [Bool.not_true, cond_false] at h
   rw [ref22ITypedL0_eq] at h
   cases hl : iter (fun p : List UInt8 × Int × RT × RT => ref22ITypedL0R (ringRef22ITypedI (n + 1)) p.1 p.2.1 p.2.2.1 p.2.2.2) bigFuel (s, f, RT.mk 0 0 [], u) with
   | none => rw [hl] at h; cases h
   | some r =>
    rw [hl] at h
    cases r with
    | inl x =>
     simp only [Option.bind_some, sumK, Option.some.injEq, Prod.mk.injEq] at h
     cases h.2.2
    | inr x =>
     obtain ⟨e', b, t'⟩ := x
     simp only [Option.bind_some, sumK, Option.some.injEq, Prod.mk.injEq] at h
     obtain ⟨rfl, rfl, _⟩ := h
     rcases typedL_kind (RT.mk 0 0 []) bigFuel f u e' b t' hl with ⟨rfl, rfl⟩ | h8 | h9
     ·rw [ref22IBase_S] at hb
      exact base_kind hs hp hb hk
     ·rw [h8] at hk; cases hk
     ·rw [h9] at hk; cases hk
end Go.Sy
set_option linter.unusedVariables false
set_option linter.unusedSimpArgs false
namespace Go.Sy
open Go
theorem sc1a_val (a : List UInt8) (b : List KT) (e : Int) : abiISignatureC1a a b e () = some (a, b, e) := by rw [abiISignatureC1a_eq]; rfl
theorem sc1b_val (a : List UInt8) (b : List KT) (e : Int) : abiISignatureC1b a b e () = some ([], [], 220) := by rw [abiISignatureC1b_eq]; rfl
noncomputable def sigTail (s : List UInt8) (k : Nat) (r : (List KT × List UInt8 × Int) ⊕ Unit) : Option (List UInt8 × List KT × Int) :=
 sumK r (fun r55 =>
  bif (decide (((r55.1.length : Nat) : Int) > (0 : Int))) then
   (abiITupleOf r55.1).bind fun r57 =>
   (abiReaderSound r55.2 r57).bind fun r58 =>
   sumK r58 (fun r59 => bif (decide (r55.2.2 < ((s.length : Nat) : Int))) then some ([], [], 220) else some (s.take k, r55.1, 0)) (fun r60 => some ([], [], 220))
  else
   bif (decide (r55.2.2 < ((s.length : Nat) : Int))) then some ([], [], 220) else some (s.take k, r55.1, 0))
  (fun _ => some ([], [], 220))
theorem prog_ok {s : List UInt8} (hs : s.length ≤ 4096) (hk : nmEnd s ≠ 0) : abiISignature s = (abiReaderRow (s, ((nmEnd s : Nat) : Int))).bind (sigTail s (nmEnd s)) := by
 rw [abiISignature_eq]
 unfold abiISignatureB
 have hle := nmEnd_le s
 refine bind_step (scan_val (by omega)) (guard_else ?_ (guard_else (dec_f (by simp only; omega)) (guard_step (dec_t (Int.natCast_nonneg _)) (guard_step ?_ ?_))))
 ·have : ((nmEnd s : Nat) : Int) ≠ 0 := by omega
  simpa using this
 ·simp only [Int.toNat_natCast]
  exact ble_t hle
 ·congr 1
  funext r
  unfold sigTail
  simp only [sc1a_val, sc1b_val, fail_val, Option.bind_some, sum_l, sum_r, Int.toNat_natCast, Nat.sub_zero, List.drop_zero]
theorem prog_bad {s : List UInt8} (hs : s.length < 100000000000000000) (h : nmEnd s = 0 ∨ 4096 < s.length) : abiISignature s = some ([], [], 220) := by
 rw [abiISignature_eq]
 unfold abiISignatureB
 refine bind_step (scan_val hs) ?_
 by_cases hk : nmEnd s = 0
 ·rw [hk]
  refine guard_step rfl (bind_step (fail_val _) ?_)
  simp only [sum_r]
  exact bind_step (sc1b_val _ _ _) rfl
 ·refine guard_else ?_ (guard_step (dec_t (by simp only; omega)) (bind_step (fail_val _) ?_))
  ·have : ((nmEnd s : Nat) : Int) ≠ 0 := by omega
   simpa using this
  ·simp only [sum_r]
   exact bind_step (sc1b_val _ _ _) rfl
theorem ref_bad {s : List UInt8} (h : nmEnd s = 0 ∨ 4096 < s.length) : ref22Named s = some ([], [], 220) := by
 rw [ref22Named_eq]
 unfold ref22NamedB
 by_cases hl : 4096 < s.length
 ·exact guard_step (dec_t (by omega)) rfl
 ·have hk := h.resolve_right hl
  refine guard_else (dec_f (by omega)) ?_
  cases s with
  | nil => exact guard_step rfl rfl
  | cons c l =>
   refine guard_else ?_ (guard_step (blt_t (by simp)) (bind_step (letter2_val c) (guard_step ?_ rfl)))
   ·have : (((c :: l).length : Nat) : Int) ≠ 0 := by simp only [List.length_cons]; omega
    simpa using this
   ·simp only [nmEnd] at hk
    cases hc : isL c.toNat
    ·rfl
    ·rw [hc] at hk
     simp at hk
theorem ref_ok {s : List UInt8} (hs : s.length ≤ 4096) (hk : nmEnd s ≠ 0) : ref22Named s =
  bif (s.drop (nmEnd s) == strC12) then some (s.take (nmEnd s), [], 0) else (ref22Read (s.drop (nmEnd s))).bind fun r7 =>
   bif (r7.2 != (0 : Int)) then some ([], [], 220) else bif (RT.kind r7.1 != (10 : Int)) then some ([], [], 220) else some (s.take (nmEnd s), RT.ins r7.1, 0) := by
 rw [ref22Named_eq]
 unfold ref22NamedB
 have hle := nmEnd_le s
 refine guard_else (dec_f (by omega)) ?_
 cases s with
 | nil => exact absurd rfl hk
 | cons c l =>
  have hc : isL c.toNat = true := by
   cases hc : isL c.toNat
   ·simp only [nmEnd, hc] at hk
    exact absurd rfl hk
   ·rfl
  have hn : nmEnd (c :: l) = 1 + nmLen ((c :: l).drop 1) := by
   simp only [nmEnd, List.drop_succ_cons, List.drop_zero]
   rw [if_pos hc]
   omega
  have hsc : ref22NamedL0 (c :: l) 1 = some (c :: l, ((nmEnd (c :: l) : Nat) : Int)) := by
   rw [ref22NamedL0_eq, hn]
   exact scanR (by omega) (c :: l).length 1 bigFuel (by simp) (by rw [bigFuel_eq]; omega) (by simp)
  have htake : List.take ((c :: l).length - nmEnd (c :: l)) ((c :: l).drop (nmEnd (c :: l))) = (c :: l).drop (nmEnd (c :: l)) := List.take_of_length_le (by rw [List.length_drop]; exact Nat.le_refl _)
  refine guard_else ?_ (guard_step (blt_t (by simp)) (bind_step (letter2_val c) (guard_else (by rw [hc]; rfl) (bind_step hsc ?_))))
  ·have : (((c :: l).length : Nat) : Int) ≠ 0 := by simp only [List.length_cons]; omega
   simpa using this
  ·generalize hS : c :: l = S at *
   simp only [Int.toNat_natCast, Nat.sub_zero, List.drop_zero, htake]
   refine guard_step (dec_t (Int.natCast_nonneg _)) (guard_step (ble_t hle) ?_)
   cases hq : (S.drop (nmEnd S) == strC12)
   ·simp only [cond_false]
    refine guard_step (dec_t (Int.natCast_nonneg _)) (guard_step (ble_t hle) ?_)
    congr 1
    funext r7
    congr 1
    congr 1
    exact guard_step (dec_t (Int.natCast_nonneg _)) (guard_step (ble_t hle) rfl)
   ·simp only [cond_true]
    exact guard_step (dec_t (Int.natCast_nonneg _)) (guard_step (ble_t hle) rfl)
theorem getD_drop' (s : List UInt8) (k i : Nat) : (s.drop k).getD i 0 = s.getD (k + i) 0 := by
 rw [List.getD_eq_getElem?_getD, List.getElem?_drop, List.getD_eq_getElem?_getD]
theorem par_iff {s : List UInt8} {k : Nat} (hk : k ≤ s.length) : (s.drop k == strC12) = (hasB s k 40 && hasB s (k + 1) 41 && decide (s.length = k + 2)) := by
 apply Bool.eq_iff_iff.2
 simp only [beq_iff_eq, Bool.and_eq_true, decide_eq_true_eq]
 constructor
 ·intro h
  have hl := congrArg List.length h
  rw [List.length_drop] at hl
  have l2 : strC12.length = 2 := rfl
  have h0 := congrArg (fun l : List UInt8 => l.getD 0 0) h
  have h1 := congrArg (fun l : List UInt8 => l.getD 1 0) h
  simp only [getD_drop'] at h0 h1
  refine ⟨⟨?_, ?_⟩, by omega⟩
  ·unfold hasB
   simp only [Bool.and_eq_true, decide_eq_true_eq]
   refine ⟨by omega, ?_⟩
   have h0 : s.getD k 0 = 40 := h0
   rw [h0]; rfl
  ·unfold hasB
   simp only [Bool.and_eq_true, decide_eq_true_eq]
   refine ⟨by omega, ?_⟩
   have h1 : s.getD (k + 1) 0 = 41 := h1
   rw [h1]; rfl
 ·rintro ⟨⟨h0, h1⟩, hl⟩
  unfold hasB at h0 h1
  simp only [Bool.and_eq_true, decide_eq_true_eq, beq_iff_eq] at h0 h1
  have e0 : s[k]'(by omega) = 40 := by
   have := h0.2
   rw [getD_some h0.1] at this
   exact UInt8.toNat_inj.1 this
  have e1 : s[k + 1]'(by omega) = 41 := by
   have := h1.2
   rw [getD_some h1.1] at this
   exact UInt8.toNat_inj.1 this
  rw [drop_cons h0.1, drop_cons h1.1, e0, e1, List.drop_of_length_le (by omega)]
  rfl
theorem sig_rel {s : List UInt8} (hs : s.length < 100000000000000000) :
  (∃ l : List RT, ref22Named s = some (s.take (nmEnd s), l, 0) ∧ abiISignature s = some (s.take (nmEnd s), l.map RT.kt, 0) ∧ s.length ≤ 4096 ∧ (∀ t ∈ l, t.WF) ∧ RT.szs l ≤ 4096 ∧ (RT.txs l).length ≤ 12288) ∨
  (ref22Named s = some ([], [], 220) ∧ abiISignature s = some ([], [], 220)) := by
 by_cases hbad : nmEnd s = 0 ∨ 4096 < s.length
 ·exact .inr ⟨ref_bad hbad, prog_bad hs hbad⟩
 have hk0 : nmEnd s ≠ 0 := fun h => hbad (.inl h)
 have hl : s.length ≤ 4096 := by omega
 have hle := nmEnd_le s
 rw [ref_ok hl hk0, prog_ok hl hk0, par_iff hle]
 generalize nmEnd s = k at *
 have hread := read_at hl hle
 obtain ⟨b, hb⟩ : ∃ b, bigFuel = b + 3 := ⟨1152921504606846973, bigFuel_eq⟩
 have hb2 : 100000 ≤ b := by rw [bigFuel_eq] at hb; omega
 have inv : ∀ t, ref22ITyped s (k : Int) = some (t, (s.length : Int), true) → t.kind = 10 → hasB s k 40 = true ∧ (ringRef22ITypedI (b + 1)).ref22ITuple s ((k + 1 : Nat) : Int) = some (t, (s.length : Int), true) := by
  intro t h1 h2
  rw [ref22ITyped_eq, hb] at h1
  exact kind10 (by omega) hle h1 h2
 have refuse : (∀ t, ref22ITyped s (k : Int) = some (t, (s.length : Int), true) → Snd t → t.kind ≠ 10) → ((ref22Read (s.drop k)).bind fun r7 =>
   bif (r7.2 != (0 : Int)) then (some ([], [], 220) : Option (List UInt8 × List RT × Int)) else bif (RT.kind r7.1 != (10 : Int)) then some ([], [], 220) else some (s.take k, RT.ins r7.1, 0)) = some ([], [], 220) := by
  intro hno
  rcases hread with ⟨t, h1, h2, h3, h4, h5, h6⟩ | ⟨h1, _⟩
  ·have := hno t h1 h4
   exact bind_step h2 (guard_else rfl (guard_step (by simpa using this) rfl))
  ·exact bind_step h1 (guard_step rfl rfl)
 have his := is_val (s := s) (p := k) (by omega) hle 40
 cases h40 : hasB s k 40
 case false =>
  right
  refine ⟨?_, ?_⟩
  ·simp only [Bool.false_and, cond_false]
   exact refuse fun t h1 _ h2 => by
    have := (inv t h1 h2).1
    rw [h40] at this; cases this
  ·have hrow : abiReaderRow (s, (k : Int)) = some (.inr ()) := by
    rw [abiReaderRow_eq, hb, abiReaderRow_S]
    unfold abiReaderRowB
    rw [h40] at his
    exact bind_step his (guard_step rfl (bind_step (fail_val _) rfl))
   exact bind_step hrow rfl
 case true =>
 rw [h40] at his
 have hlt := hasB_lt h40
 have his2 := is_val (s := s) (p := k + 1) (by omega) (by omega) 41
 cases h41 : hasB s (k + 1) 41
 case true =>
  have hlt1 := hasB_lt h41
  rw [h41] at his2
  have hrow : abiReaderRow (s, (k : Int)) = some (.inl ([], s, ((k + 1 + 1 : Nat) : Int))) := by
   rw [abiReaderRow_eq, hb, abiReaderRow_S]
   unfold abiReaderRowB
   exact bind_step his (guard_else rfl (bind_step his2 rfl))
  by_cases he : s.length = k + 2
  ·left
   refine ⟨[], guard_step (by rw [dec_t he]; rfl) rfl, bind_step hrow ?_, hl, fun t h => (by cases h), by decide, by decide⟩
   show (bif decide (((k + 1 + 1 : Nat) : Int) < ((s.length : Nat) : Int)) then _ else _) = _
   exact guard_else (dec_f (by omega)) rfl
  ·right
   refine ⟨guard_else (by rw [dec_f he]; rfl) (refuse fun t h1 _ h2 => ?_), bind_step hrow ?_⟩
   ·have ht := (inv t h1 h2).2
    obtain ⟨b', rfl⟩ : ∃ b', b = b' + 2 := ⟨b - 2, by omega⟩
    rw [ref22ITuple_S] at ht
    unfold ref22ITupleB at ht
    obtain ⟨rt, hrt, hok⟩ := typed_close (n := b') (by omega) h41
    have : ref22ITupleL0 (ringRef22ITypedI (b' + 2)) s ((k + 1 : Nat) : Int) (0, 0, ()) (10, 0, ()) [] = some (.inl (0, false, (0, 0, ()), [])) := by
     rw [ref22ITupleL0_eq, hb]
     refine iter_end ?_
     simp only
     unfold ref22ITupleL0R
     exact guard_step (dec_t (by omega)) (bind_step hrt (guard_step (by rw [hok]; rfl) rfl))
    rw [this] at ht
    simp only [Option.bind_some, sum_l, Option.some.injEq, Prod.mk.injEq] at ht
    cases ht.2.2
   ·show (bif decide (((k + 1 + 1 : Nat) : Int) < ((s.length : Nat) : Int)) then _ else _) = _
    exact guard_step (dec_t (by omega)) rfl
 case false =>
 rw [h41] at his2
 simp only [Bool.and_false, Bool.false_and, cond_false]
 obtain ⟨ro, rk, i1, i2, i3, i4⟩ := rows_rel (gT := ringRef22ITypedI b) (gK := ringAbiReaderKindI (b + 2)) (s := s) (by omega) (p0 := k + 1) (0, 0, ()) (fun q h1 h2 => typed_rel (by omega) (s.length + 1) q (by omega) h2 b (b + 2) (by omega) (by omega)) (s.length + 1) (k + 1) [] (by omega) (Nat.le_refl _) (by omega) (fun t ht => by cases ht) (by simp [RT.szs]) (by simp [RT.txs])
 have hto : ref22ITupleL0 (ringRef22ITypedI b) s ((k + 1 : Nat) : Int) ((0 : Int), (0 : Int), ()) ((10 : Int), (0 : Int), ()) ([] : List RT) = some ro := by
  rw [ref22ITupleL0_eq]; exact i1 _ (by rw [bigFuel_eq]; omega)
 have hrow : abiReaderRow (s, (k : Int)) = some rk := by
  rw [abiReaderRow_eq, hb, abiReaderRow_S]
  unfold abiReaderRowB
  refine bind_step his (guard_else rfl (bind_step his2 (guard_else rfl ?_)))
  have : abiReaderRowL0 (ringAbiReaderKindI (b + 2)) (s, ((k + 1 : Nat) : Int)) ([] : List KT) = some rk := by
   rw [abiReaderRowL0_eq]; exact i2 (fun t ht => by cases ht) _ (by rw [bigFuel_eq]; omega)
  refine bind_step this ?_
  cases rk <;> rfl
 have htup : ∀ t, (ringRef22ITypedI (b + 1)).ref22ITuple s ((k + 1 : Nat) : Int) = some (t, (s.length : Int), true) → ∃ l, ro = .inl ((s.length : Int), true, (10, 0, ()), l) ∧ t = .mk 10 0 l ∨ (∃ x y, ro = .inl ((s.length : Int), true, x, y)) := by
  intro t ht
  rw [ref22ITuple_S] at ht
  unfold ref22ITupleB at ht
  rw [hto] at ht
  cases ro with
  | inr x =>
   simp only [Option.bind_some, sum_r, Option.some.injEq, Prod.mk.injEq] at ht
   cases ht.2.2
  | inl x =>
   obtain ⟨e, ok, x, y⟩ := x
   simp only [Option.bind_some, sum_l, Option.some.injEq, Prod.mk.injEq] at ht
   obtain ⟨_, rfl, rfl⟩ := ht
   exact ⟨y, .inr ⟨x, y, rfl⟩⟩
 rcases i4 with ⟨hf, hrk⟩ | ⟨l, e, hlr, g1, g2, g3, g4, g5, g6, g7⟩
 ·right
  refine ⟨refuse fun t h1 _ h2 => ?_, bind_step hrow (by rw [hrk]; rfl)⟩
  obtain ⟨l, h3⟩ := htup t (inv t h1 h2).2
  rcases hf with ⟨a, b0, c, hf⟩ | ⟨y, hf⟩
  ·rcases h3 with ⟨h3, _⟩ | ⟨x, y, h3⟩
   ·rw [hf] at h3; cases h3
   ·rw [hf] at h3; cases h3
  ·rcases h3 with ⟨h3, _⟩ | ⟨x, y, h3⟩
   ·rw [hf] at h3; cases h3
   ·rw [hf] at h3; cases h3
 ·subst hlr
  have hlen := RT.szs_len l
  have fwd : e = s.length → ref22ITyped s (k : Int) = some (RT.mk 10 0 l, (s.length : Int), true) := by
   intro he
   subst he
   have ht : (ringRef22ITypedI (b + 1)).ref22ITuple s ((k + 1 : Nat) : Int) = some (RT.mk 10 0 l, (s.length : Int), true) := by
    rw [ref22ITuple_S]
    unfold ref22ITupleB
    exact bind_step hto rfl
   have hno : ∀ (w : List UInt8) (c : UInt8) (l : List UInt8), w = c :: l → c.toNat ≠ 40 → startsB s k w = false := by
    intro w c l hw hc
    cases hb : startsB s k w
    ·rfl
    ·have := hasB_ne (chars_of hb hw) hc
     rw [h40] at this; cases this
   have S : ∀ w : List UInt8, w ≠ [] → w.length < 100 → ref22IStarts s (k : Int) w = some (startsB s k w) := fun w h1 h2 => starts_val (by omega) hle w h1 h2
   rw [ref22ITyped_eq, hb, ref22ITyped_S]
   unfold ref22ITypedB
   refine bind_step (a := (RT.mk 10 0 l, (s.length : Int), true)) ?_ (guard_else rfl ?_)
   ·rw [ref22IBase_S]
    unfold ref22IBaseB
    refine bind_step (S strC6 (by decide) (by decide)) (guard_else (hno strC6 _ _ rfl (by decide)) (bind_step (S strC7 (by decide) (by decide)) (guard_else (hno strC7 _ _ rfl (by decide)) (bind_step (S strC8 (by decide) (by decide)) (guard_else (hno strC8 _ _ rfl (by decide)) (bind_step (S strC9 (by decide) (by decide)) (guard_else (hno strC9 _ _ rfl (by decide)) (bind_step (S strC10 (by decide) (by decide)) (guard_else (hno strC10 _ _ rfl (by decide)) (bind_step (S strC11 (by decide) (by decide)) (guard_else (hno strC11 _ _ rfl (by decide)) (bind_step (S strC1 (by decide) (by decide)) (guard_step ((startsB_one s k 40).trans h40) ?_)))))))))))))
    rw [wI_one k (by omega)]
    exact bind_step ht rfl
   ·have : ref22ITypedL0 (ringRef22ITypedI (b + 2)) s (s.length : Int) (RT.mk 0 0 []) (RT.mk 10 0 l) = some (.inr ((s.length : Int), RT.mk 0 0 [], RT.mk 10 0 l)) := by
     rw [ref22ITypedL0_eq, hb]
     refine iter_end ?_
     simp only
     unfold ref22ITypedL0R
     refine bind_step (starts_val (by omega) (Nat.le_refl _) strC4 (by decide) (by decide)) (guard_else ?_ rfl)
     cases hq : startsB s s.length strC4
     ·rfl
     ·have := startsB_le hq (by decide)
      have l4 : strC4.length = 1 := rfl
      omega
    exact bind_step this rfl
  have tupSnd : ∀ t, ref22ITyped s (k : Int) = some (t, (s.length : Int), true) → t.kind = 10 → t = .mk 10 0 l ∧ e = s.length := by
   intro t h1 h2
   have ht := (inv t h1 h2).2
   rw [ref22ITuple_S] at ht
   unfold ref22ITupleB at ht
   rw [hto] at ht
   simp only [Option.bind_some, sum_l, Option.some.injEq, Prod.mk.injEq] at ht
   exact ⟨ht.1.symm, by have := ht.2.1; omega⟩
  rcases g7 with ⟨h1, h2⟩ | ⟨h1, h2⟩
  ·have hd32 := dps_le (l := l) (b := 32) fun t ht => (h1 t ht).1
   have htup : abiITupleOf (l.map RT.kt) = some (tupK l) := by
    refine tupleOf_val (by omega) g3 ?_ (by omega) (by omega)
    have := wds_le (l := l) (b := 65536) fun t ht => (h1 t ht).wd
    have h9 : l.length * 65536 ≤ 4096 * 65536 := Nat.mul_le_mul_right _ (by omega)
    omega
   rw [tupK_kt g4] at htup
   have hpos : 0 < l.length := List.length_pos_iff.2 g4
   by_cases hc : 32 < (RT.mk 10 0 l).dp ∨ 65536 < (RT.mk 10 0 l).wd
   ·right
    have hn : ¬ Snd (.mk 10 0 l) := fun h => by
     have := (snd_tup g4).1 h
     omega
    refine ⟨refuse fun t h3 h4 h5 => ?_, bind_step hrow ?_⟩
    ·rw [(tupSnd t h3 h5).1] at h4
     exact hn h4
    ·rw [h2]
     unfold sigTail
     simp only [sum_l]
     refine guard_step (dec_t (by rw [List.length_map]; omega)) (bind_step htup (bind_step (sound_val _ _) ?_))
     rw [if_pos hc]
     rfl
   ·have hy : Snd (.mk 10 0 l) := (snd_tup g4).2 ⟨h1, by omega, by omega⟩
    by_cases he : e = s.length
    ·left
     rcases hread with ⟨t, r1, r2, r3, r4, r5, r6⟩ | ⟨r1, r2⟩
     ·have : t = .mk 10 0 l := by
       have := (fwd he).symm.trans r1
       simp only [Option.some.injEq, Prod.mk.injEq] at this
       exact this.1.symm
      subst this
      refine ⟨l, bind_step r2 (guard_else rfl (guard_else rfl rfl)), bind_step hrow ?_, hl, g3, by omega, by omega⟩
      rw [h2]
      unfold sigTail
      simp only [sum_l]
      refine guard_step (dec_t (by rw [List.length_map]; omega)) (bind_step htup (bind_step (sound_val _ _) ?_))
      rw [if_neg hc]
      exact guard_else (dec_f (by omega)) rfl
     ·exact absurd hy (r2 _ (fwd he))
    ·right
     refine ⟨refuse fun t h3 h4 h5 => he (tupSnd t h3 h5).2, bind_step hrow ?_⟩
     rw [h2]
     unfold sigTail
     simp only [sum_l]
     refine guard_step (dec_t (by rw [List.length_map]; omega)) (bind_step htup (bind_step (sound_val _ _) ?_))
     rw [if_neg hc]
     exact guard_step (dec_t (by omega)) rfl
  ·right
   refine ⟨refuse fun t h3 h4 h5 => ?_, bind_step hrow (by rw [h2]; rfl)⟩
   rw [(tupSnd t h3 h5).1] at h4
   exact h1 ((snd_tup g4).1 h4).1
end Go.Sy
set_option linter.unusedVariables false
set_option linter.unusedSimpArgs false
namespace Go.Sy
open Go
theorem sigRL {nm : List UInt8} {l : List RT} (hl : l.length ≤ 4096) (hg : ∀ t ∈ l, ref22Text t = some t.tx) : ∀ (m i fuel : Nat) (acc : List (List UInt8)), l.length - i < m → m ≤ fuel → i ≤ l.length → acc.length = i →
  iter (fun p : List UInt8 × List RT × Int × List (List UInt8) => ref22SignatureL0R p.1 p.2.1 p.2.2.1 p.2.2.2) fuel (nm, l, (i : Int), acc) = some (nm, l, acc ++ (l.drop i).map RT.tx)
 | 0, i, fuel, acc, h, _, _, _ => by omega
 | m + 1, i, fuel + 1, acc, h, hf, hi, ha => by
  by_cases hlt : i < l.length
  ·have hd : l.drop i = l[i] :: l.drop (i + 1) := List.drop_eq_getElem_cons hlt
   refine iter_more (b := (nm, l, ((i + 1 : Nat) : Int), acc ++ [l[i].tx])) ?_ ?_
   ·show ref22SignatureL0R nm l (i : Int) acc = _
    unfold ref22SignatureL0R
    refine guard_step (dec_t (by omega)) (guard_step (dec_t (by omega)) ?_)
    simp only [Int.toNat_natCast]
    refine guard_step (blt_t hlt) ?_
    rw [getD_some hlt]
    refine bind_step (hg _ (List.getElem_mem hlt)) (guard_step (roomB_t (by simp; omega) (by simp; omega)) ?_)
    rw [wI_one i (by omega)]
   ·rw [sigRL hl hg m (i + 1) fuel _ (by omega) (by omega) (by omega) (by simp [ha]), hd]
    simp only [List.map_cons, List.append_assoc, List.cons_append, List.nil_append]
  ·have hd : l.drop i = [] := List.drop_of_length_le (by omega)
   rw [hd]
   refine iter_end ?_
   show ref22SignatureL0R nm l (i : Int) acc = _
   unfold ref22SignatureL0R
   refine guard_else (dec_f (by omega)) ?_
   simp
theorem sigPL {nm : List UInt8} {l : List RT} (hl : l.length ≤ 4096) : ∀ (m i fuel : Nat) (acc : List (List UInt8)), l.length - i < m → m ≤ fuel → i ≤ l.length → acc.length = i →
  iter (fun p : List UInt8 × List KT × Int × Int × List (List UInt8) => abiSignatureL0R p.1 p.2.1 p.2.2.1 p.2.2.2.1 p.2.2.2.2) fuel (nm, l.map RT.kt, ((l.length : Nat) : Int), (i : Int), acc) = some (nm, acc ++ (l.drop i).map RT.tx)
 | 0, i, fuel, acc, h, _, _, _ => by omega
 | m + 1, i, fuel + 1, acc, h, hf, hi, ha => by
  by_cases hlt : i < l.length
  ·have hd : l.drop i = l[i] :: l.drop (i + 1) := List.drop_eq_getElem_cons hlt
   have hg : (l.map RT.kt).getD i KT.none = l[i].kt := by
    rw [getD_some (by rw [List.length_map]; exact hlt)]
    simp
   refine iter_more (b := (nm, l.map RT.kt, ((l.length : Nat) : Int), ((i + 1 : Nat) : Int), acc ++ [l[i].tx])) ?_ ?_
   ·show abiSignatureL0R nm (l.map RT.kt) ((l.length : Nat) : Int) (i : Int) acc = _
    unfold abiSignatureL0R
    refine guard_step (dec_t (by omega)) (guard_step (dec_t (by omega)) ?_)
    simp only [Int.toNat_natCast]
    refine guard_step (blt_t (by rw [List.length_map]; exact hlt)) ?_
    rw [hg]
    refine guard_step (RT.kt_ok _) (guard_step (roomB_t (by simp; omega) (by simp; omega)) ?_)
    rw [wI_one i (by omega), RT.kt_text]
   ·rw [sigPL hl m (i + 1) fuel _ (by omega) (by omega) (by omega) (by simp [ha]), hd]
    simp only [List.map_cons, List.append_assoc, List.cons_append, List.nil_append]
  ·have hd : l.drop i = [] := List.drop_of_length_le (by omega)
   rw [hd]
   refine iter_end ?_
   show abiSignatureL0R nm (l.map RT.kt) ((l.length : Nat) : Int) (i : Int) acc = _
   unfold abiSignatureL0R
   refine guard_else (dec_f (by omega)) ?_
   simp
theorem signature_rel {s : List UInt8} (hs : s.length < 100000000000000000) :
  (∃ (own : List UInt8) (l : List (List UInt8)), abiSignature s = some (own, l, 0) ∧ ref22Signature s = some (own, l, 0) ∧ own.length ≤ 20000 ∧ l.length ≤ 4096) ∨
  (abiSignature s = some ([], [], 220) ∧ ref22Signature s = some ([], [], 220)) := by
 rcases sig_rel hs with ⟨l, h1, h2, h3, h4, h5, h6⟩ | ⟨h1, h2⟩
 ·left
  have hlen := RT.szs_len l
  have hnl : (s.take (nmEnd s)).length ≤ 4096 := by rw [List.length_take]; omega
  generalize s.take (nmEnd s) = nm at *
  have htx : ∀ t ∈ l, ref22Text t = some t.tx := fun t ht => by
   have a1 := RT.szs_mem ht
   have a2 := RT.txs_mem ht
   exact text_full (h4 t ht) (by omega) (by omega)
  have l1 : strC1.length = 1 := rfl
  have l2 : strC2.length = 1 := rfl
  have hc1 : (nm ++ strC1).length ≤ 4097 := by rw [List.length_append]; omega
  have hc2 : ((nm ++ strC1) ++ RT.txs l).length ≤ 16385 := by rw [List.length_append]; omega
  refine ⟨((nm ++ strC1) ++ RT.txs l) ++ strC2, l.map RT.tx, ?_, ?_, by rw [List.length_append]; omega, by rw [List.length_map]; omega⟩
  ·rw [abiSignature_eq]
   unfold abiSignatureB
   refine bind_step h2 (guard_else rfl ?_)
   have hL : abiSignatureL0 nm (l.map RT.kt) (((l.map RT.kt).length : Nat) : Int) 0 [] = some (nm, l.map RT.tx) := by
    rw [abiSignatureL0_eq, List.length_map]
    have := sigPL (nm := nm) (l := l) (by omega) (l.length + 1) 0 bigFuel [] (by omega) (by rw [bigFuel_eq]; omega) (Nat.zero_le _) rfl
    simpa using this
   refine bind_step hL (guard_step (ble_t (by simp only []; omega)) ?_)
   have hj : goJoin (l.map RT.tx) strC0 = some (RT.txs l) := by
    rw [goJoin_eq, RT.txs_join]
    exact guard_step (by rw [ble_t (by rw [List.length_map]; omega), ble_t (by omega)]; rfl) rfl
   exact bind_step hj (guard_step (ble_t (by simp only [List.length_append]; omega)) (guard_step (ble_t (by simp only [List.length_append]; omega)) rfl))
  ·rw [ref22Signature_eq]
   unfold ref22SignatureB
   refine bind_step h1 (guard_else rfl ?_)
   have hL : ref22SignatureL0 nm l 0 [] = some (nm, l, l.map RT.tx) := by
    rw [ref22SignatureL0_eq]
    have := sigRL (nm := nm) (l := l) (by omega) htx (l.length + 1) 0 bigFuel [] (by omega) (by rw [bigFuel_eq]; omega) (Nat.zero_le _) rfl
    simpa using this
   refine bind_step hL (guard_step (ble_t (by simp only []; omega)) ?_)
   exact bind_step (texts_full (l := l) h4 (by omega) (by omega)) (guard_step (ble_t (by simp only [List.length_append]; omega)) (guard_step (ble_t (by simp only [List.length_append]; omega)) rfl))
 ·right
  refine ⟨?_, ?_⟩
  ·rw [abiSignature_eq]
   unfold abiSignatureB
   exact bind_step h2 (guard_step rfl rfl)
  ·rw [ref22Signature_eq]
   unfold ref22SignatureB
   exact bind_step h1 (guard_step rfl rfl)
theorem outF_len : ∀ (r k : Nat) (a h : List Int), (outF r k a h).length = h.length
 | 0, _, _, _ => rfl
 | r + 1, k, a, h => by
  show (outF r (k + 1) a _).length = _
  rw [outF_len r (k + 1) a, List.length_set]
theorem outH_len (a : List Int) : (outH a).length = 32 := by rw [outH_eq, outF_len]; rfl
theorem kecH_len (P : List Int) : (kecH P).length = 32 := outH_len _
theorem first4 {h : List Int} (hl : 4 ≤ h.length) : ((((List.replicate 4 (0 : Int)).set 0 (h.getD 0 (0 : Int))).set 1 (h.getD 1 (0 : Int))).set 2 (h.getD 2 (0 : Int))).set 3 (h.getD 3 (0 : Int)) = List.take 4 h := by
 match h, hl with
 | a :: b :: c :: d :: l, _ => rfl
theorem topic_rel {s : List UInt8} (hs : s.length < 100000000000000000) : ∃ (h : List Int) (e : Int), h.length = 32 ∧ abiTopic s = some (h, e) ∧ ref22Topic s = some (h, e) := by
 rw [abiTopic_eq, ref22Topic_eq]
 unfold abiTopicB ref22TopicB
 rcases signature_rel hs with ⟨own, l, h1, h2, h3, h4⟩ | ⟨h1, h2⟩
 ·have hlen : (List.map (fun (c : UInt8) => ((c.toNat : Nat) : Int)) own).length < 90000000000000 := by rw [List.length_map]; omega
  exact ⟨_, 0, kecH_len _, bind_step h1 (guard_else rfl (bind_step (keccakSum_val (P := List.map (fun (c : UInt8) => ((c.toNat : Nat) : Int)) own) (by omega)) rfl)), bind_step h2 (guard_else rfl (bind_step (refSum_val (P := List.map (fun (c : UInt8) => ((c.toNat : Nat) : Int)) own) hlen) rfl))⟩
 ·exact ⟨List.replicate 32 0, 220, by simp, bind_step h1 (guard_step rfl rfl), bind_step h2 (guard_step rfl rfl)⟩
theorem wordsL (l : List (List UInt8)) (hl : l.length ≤ 4096) : ∀ (m i fuel : Nat), l.length - i < m → m ≤ fuel → i ≤ l.length →
  iter (fun p : List (List UInt8) × List (List UInt8) × Int => law22IWordsL0R p.1 p.2.1 p.2.2) fuel (l, l, (i : Int)) = some (.inr ())
 | 0, i, fuel, h, _, _ => by omega
 | m + 1, i, fuel + 1, h, hf, hi => by
  by_cases hlt : i < l.length
  ·refine iter_more (b := (l, l, ((i + 1 : Nat) : Int))) ?_ (wordsL l hl m (i + 1) fuel (by omega) (by omega) (by omega))
   show law22IWordsL0R l l (i : Int) = _
   unfold law22IWordsL0R
   refine guard_step (dec_t (by omega)) (guard_step (dec_t (by omega)) ?_)
   simp only [Int.toNat_natCast]
   refine guard_step (blt_t hlt) (guard_step (dec_t (by omega)) (guard_step (blt_t hlt) (guard_else (by simp) ?_)))
   rw [wI_one i (by omega)]
  ·refine iter_end ?_
   show law22IWordsL0R l l (i : Int) = _
   unfold law22IWordsL0R
   exact guard_else (dec_f (by omega)) rfl
theorem words_val (l : List (List UInt8)) (hl : l.length ≤ 4096) : law22IWords l l = some true := by
 rw [law22IWords_eq]
 unfold law22IWordsB
 refine guard_else (by simp) (bind_step (a := .inr ()) ?_ rfl)
 rw [law22IWordsL0_eq]
 exact wordsL l hl (l.length + 1) 0 bigFuel (by omega) (by rw [bigFuel_eq]; omega) (Nat.zero_le _)
theorem law22AbiNames_true (text : List UInt8) (hs : text.length < 100000000000000000) : law22AbiNames text = some true := by
 rw [law22AbiNames_eq]
 unfold law22AbiNamesB
 obtain ⟨h, e, hl, t1, t2⟩ := topic_rel hs
 have s1 : abiSelector text = some (List.take 4 h, e) := by
  rw [abiSelector_eq]; unfold abiSelectorB
  exact bind_step t1 rfl
 have s2 : ref22Selector text = some (List.take 4 h, e) := by
  rw [ref22Selector_eq]; unfold ref22SelectorB
  refine bind_step t2 ?_
  rw [first4 (h := h) (by omega)]
 have tail : ∀ (own : List UInt8) (l : List (List UInt8)) (f : Int), l.length ≤ 4096 → abiSignature text = some (own, l, f) → ref22Signature text = some (own, l, f) → law22AbiNamesB text = some true := by
  intro own l f hl2 h1 h2
  unfold law22AbiNamesB
  exact bind_step h1 (bind_step h2 (guard_else (by simp) (bind_step (words_val l hl2) (guard_else rfl (bind_step (num22_val f) (guard_else (by simp) (bind_step s1 (bind_step s2 (guard_else (by simp) (bind_step (num22_val e) (guard_else (by simp) (bind_step t1 (bind_step t2 (guard_step (by simp) (bind_step (num22_val e) (by simp))))))))))))))))
 rcases signature_rel hs with ⟨own, l, h1, h2, h3, h4⟩ | ⟨h1, h2⟩
 ·exact tail own l 0 h4 h1 h2
 ·exact tail [] [] 220 (by simp) h1 h2
end Go.Sy
