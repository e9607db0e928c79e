/- Plain laws: the program reads a type just where the document does. -/
import Derived.Test.YtapnedegcnmhgaaDoorSyN4
set_option linter.unusedVariables false
set_option linter.unusedSimpArgs false
namespace Go.Sy
open Go

def TyGood (s : List UInt8) (p e : Nat) (t : RT) : Prop := p < e ∧ e ≤ s.length ∧ t.WF ∧ t.sz ≤ e - p ∧ t.tx.length ≤ 3 * (e - p)
def Snd (t : RT) : Prop := t.dp ≤ 32 ∧ t.nar = true
def TyRel (s : List UInt8) (p : Nat) (rt : RT × Int × Bool) (rk : (KT × List UInt8 × Int) ⊕ Unit) : Prop :=
  (rt.2.2 = false ∧ rk = .inr ()) ∨ ∃ (t : RT) (e : Nat), rt = (t, (e : Int), true) ∧ TyGood s p e t ∧ ((Snd t ∧ rk = .inl (t.kt, s, (e : Int))) ∨ (¬ Snd t ∧ rk = .inr ()))

theorem snd_base {k n : Int} (hk : k ≠ 9) (hk2 : k ≠ 10) : Snd (.mk k n []) := by
  refine ⟨Nat.zero_le _, ?_⟩
  simp only [RT.nar, RT.nars, RT.wd, if_neg hk, if_neg hk2]
  rfl
theorem Snd.wd {t : RT} (h : Snd t) : t.wd ≤ 65536 := by
  cases t with
  | mk k n l =>
    have := h.2
    simp only [RT.nar, Bool.and_eq_true, decide_eq_true_eq] at this
    exact this.1

theorem chars_of {s : List UInt8} {p : Nat} {w : List UInt8} {c : UInt8} {l : List UInt8} (h : startsB s p w = true) (hw : w = c :: l) : hasB s p c.toNat = true := by
  subst hw
  have hlt := startsB_le h (by simp)
  simp only [List.length_cons] at hlt
  have h := eq_of_beq h
  rw [drop_cons (show p < s.length by omega)] at h
  simp only [List.length_cons, List.take_succ_cons, List.cons.injEq] at h
  simp only [hasB, Bool.and_eq_true, decide_eq_true_eq]
  refine ⟨by omega, ?_⟩
  rw [getD_some (by omega), h.1]; simp

theorem hasB_ne {s : List UInt8} {p a b : Nat} (h : hasB s p a = true) (hab : a ≠ b) : hasB s p b = false := by
  simp only [hasB, Bool.and_eq_true, decide_eq_true_eq, beq_iff_eq] at h
  simp only [hasB, Bool.and_eq_false_iff, beq_eq_false_iff_ne]
  right; omega

/-- A number's base behind its name. -/
theorem rel_num {s : List UInt8} (hs : s.length < 1000000000) {p q : Nat} (nm : List UInt8) (kd : Int) (hkd : kd = 1 ∨ kd = 2) (hnm : (kd = 1 → nm = strC6) ∧ (kd = 2 → nm = strC7)) (hpq : q = p + nm.length) (hq : q ≤ s.length) :
    ∃ rt rk, ref22ISized s (q : Int) kd kd 256 8 256 = some rt ∧ abiReaderRest (s, (q : Int)) (nm, kd - 1, 8, 256, 8, 256) = some rk ∧ TyRel s p rt rk := by
  have hl : 3 ≤ nm.length ∧ nm.length ≤ 4 := by
    rcases hkd with h | h
    · rw [hnm.1 h]; decide
    · rw [hnm.2 h]; decide
  refine ⟨_, _, sized_val (by omega) hq kd kd 256 (step := 8) (most := 256) (by omega) (by omega), restNum_val (by omega) hq nm (by omega) (kd - 1) (by omega), ?_⟩
  have htx : ∀ n : Int, (RT.mk kd n []).tx = nm ++ decI n := by
    intro n
    simp only [RT.tx]
    rcases hkd with h | h
    · rw [if_pos h, hnm.1 h]
    · rw [if_neg (by omega), if_pos h, hnm.2 h]
  have hkt : ∀ n : Int, (RT.mk kd n []).kt = KT.mk true (kd - 1) n [] (nm ++ decI n) false 1 1 0 := by
    intro n
    have h67 : (kd == 6) = false ∧ (kd == 7) = false ∧ (kd == 8) = false := by refine ⟨?_, ?_, ?_⟩ <;> (simp; omega)
    simp only [RT.kt, RT.kts, htx, RT.dyn, RT.dyns, RT.hd, RT.wd, RT.dp, h67.1, h67.2.1, h67.2.2, if_neg (show ¬ kd = 9 by omega), if_neg (show ¬ kd = 10 by omega)]
    rfl
  have d256 := decI_len3 (n := 256) (by omega)
  by_cases hnil : digsAt s q = []
  · simp only [if_pos hnil]
    refine .inr ⟨_, q, rfl, ⟨by omega, hq, .num kd 256 hkd (by omega) (by omega), by simp only [RT.sz, RT.szs]; omega, by rw [htx]; simp only [List.length_append]; omega⟩, .inl ⟨snd_base (by omega) (by omega), by rw [hkt]⟩⟩
  · simp only [if_neg hnil]
    by_cases hbad : (digsAt s q).head? = some 0 ∨ fold10 0 (digsAt s q) % 8 ≠ 0 ∨ 256 < fold10 0 (digsAt s q)
    · simp only [if_pos hbad]
      exact .inl ⟨rfl, rfl⟩
    · simp only [if_neg hbad]
      simp only [not_or] at hbad
      have hpos := fold_pos hnil hbad.1
      have hle := digsAt_le s q hq
      have hd := decI_len3 (n := ((fold10 0 (digsAt s q) : Nat) : Int)) (by omega)
      have hlen : 0 < (digsAt s q).length := List.length_pos_iff.2 hnil
      refine .inr ⟨_, q + (digsAt s q).length, rfl, ⟨by omega, hle, .num kd _ hkd (by omega) (by omega), by simp only [RT.sz, RT.szs]; omega, by rw [htx]; simp only [List.length_append]; omega⟩, .inl ⟨snd_base (by omega) (by omega), by rw [hkt]⟩⟩

theorem rel_bytes {s : List UInt8} (hs : s.length < 1000000000) {p q : Nat} (hpq : q = p + 5) (hq : q ≤ s.length) :
    ∃ rt rk, ref22ISized s (q : Int) 5 6 0 1 32 = some rt ∧ abiReaderRest (s, (q : Int)) (strC8, 4, 1, 32, 1, 0) = some rk ∧ TyRel s p rt rk := by
  refine ⟨_, _, sized_val (by omega) hq 5 6 0 (step := 1) (most := 32) (by omega) (by omega), restBytes_val (by omega) hq, ?_⟩
  have l8 : strC8.length = 5 := rfl
  by_cases hnil : digsAt s q = []
  · simp only [if_pos hnil]
    refine .inr ⟨_, q, rfl, ⟨by omega, hq, .plain 6 (by omega), by simp only [RT.sz, RT.szs]; omega, by show strC8.length ≤ _; omega⟩, .inl ⟨snd_base (by omega) (by omega), rfl⟩⟩
  · simp only [if_neg hnil]
    by_cases hbad : (digsAt s q).head? = some 0 ∨ fold10 0 (digsAt s q) % 1 ≠ 0 ∨ 32 < fold10 0 (digsAt s q)
    · simp only [if_pos hbad]
      exact .inl ⟨rfl, rfl⟩
    · simp only [if_neg hbad]
      simp only [not_or] at hbad
      have hpos := fold_pos hnil hbad.1
      have hle := digsAt_le s q hq
      have hd := decI_len3 (n := ((fold10 0 (digsAt s q) : Nat) : Int)) (by omega)
      have hlen : 0 < (digsAt s q).length := List.length_pos_iff.2 hnil
      refine .inr ⟨_, q + (digsAt s q).length, rfl, ⟨by omega, hle, .fixed _ (by omega) (by omega), by simp only [RT.sz, RT.szs]; omega, by show (strC8 ++ decI _).length ≤ _; simp only [List.length_append]; omega⟩, .inl ⟨snd_base (by omega) (by omega), rfl⟩⟩

theorem rel_plain {s : List UInt8} {p q : Nat} (kd : Int) (nm : List UInt8) (hk : (kd = 3 ∧ nm = strC9) ∨ (kd = 4 ∧ nm = strC10) ∨ (kd = 7 ∧ nm = strC11)) (hpq : q = p + nm.length) (hq : q ≤ s.length) :
    ∃ rk, abiReaderRest (s, (q : Int)) (nm, kd - 1, 0, 0, 0, 0) = some rk ∧ TyRel s p (RT.mk kd 0 [], (q : Int), true) rk := by
  refine ⟨_, restPlain_val _ _ _, .inr ⟨_, q, rfl, ⟨?_, hq, .plain kd (by omega), ?_, ?_⟩, .inl ⟨snd_base (by omega) (by omega), ?_⟩⟩⟩
  · rcases hk with ⟨_, rfl⟩ | ⟨_, rfl⟩ | ⟨_, rfl⟩ <;> (rw [hpq]; exact Nat.lt_add_of_pos_right (by decide))
  · have : 1 ≤ nm.length := by rcases hk with ⟨_, rfl⟩ | ⟨_, rfl⟩ | ⟨_, rfl⟩ <;> decide
    simp only [RT.sz, RT.szs]; omega
  · have : (RT.mk kd 0 []).tx = nm := by rcases hk with ⟨rfl, rfl⟩ | ⟨rfl, rfl⟩ | ⟨rfl, rfl⟩ <;> rfl
    rw [this]; omega
  · rcases hk with ⟨rfl, rfl⟩ | ⟨rfl, rfl⟩ | ⟨rfl, rfl⟩ <;> rfl

theorem find_base {s : List UInt8} {p : Nat} : abiBases.find? (fun b => startsB s p b.1) =
    if startsB s p strC6 then some (strC6, 0, 8, 256, 8, 256) else if startsB s p strC7 then some (strC7, 1, 8, 256, 8, 256) else if startsB s p strC9 then some (strC9, 2, 0, 0, 0, 0)
    else if startsB s p strC10 then some (strC10, 3, 0, 0, 0, 0) else if startsB s p strC11 then some (strC11, 6, 0, 0, 0, 0) else if startsB s p strC8 then some (strC8, 4, 1, 32, 1, 0) else none := by
  show List.find? _ [(strC6, 0, 8, 256, 8, 256), (strC7, 1, 8, 256, 8, 256), (strC9, 2, 0, 0, 0, 0), (strC10, 3, 0, 0, 0, 0), (strC11, 6, 0, 0, 0, 0), (strC8, 4, 1, 32, 1, 0)] = _
  simp only [List.find?_cons, List.find?_nil]
  cases startsB s p strC6 <;> cases startsB s p strC7 <;> cases startsB s p strC9 <;> cases startsB s p strC10 <;> cases startsB s p strC11 <;> cases startsB s p strC8 <;> rfl

/-- What the program does where no parenthesis stands. -/
noncomputable def firstF (s : List UInt8) (p : Nat) : Option ((KT × List UInt8 × Int) ⊕ Unit) :=
  match abiBases.find? (fun b => startsB s p b.1) with
  | some b => abiReaderRest (s, ((p + b.1.length : Nat) : Int)) b
  | none => some (.inr ())

theorem first_val {g : ringAbiReaderKind} {s : List UInt8} (hs : s.length < 1000000000) {p : Nat} (hp : p ≤ s.length) (h : hasB s p 40 = false) : abiReaderFirstB g (s, (p : Int)) = firstF s p := by
  have key : ((abiReaderFirstL0 g abiBases (0 : Int) (s, (p : Int))).bind fun q22 =>
      sumK q22 (fun q23 => some (.inl q23)) (fun q24 => sumK q24 (fun q25 => some (.inr ())) (fun q26 => (abiReaderFail q26).bind fun r27 => sumK r27 (fun r28 => some (.inl (KT.none, q26))) (fun r29 => some (.inr ()))))) = firstF s p := by
    rw [abiReaderFirstL0_eq]
    have := firstL_val (g := g) (s := s) (by omega) hp abiBases 0 bigFuel rfl rfl (by rw [bigFuel_eq]; decide)
    have e0 : ((0 : Nat) : Int) = (0 : Int) := rfl
    rw [e0] at this
    rw [this]
    unfold firstF
    cases abiBases.find? (fun b => startsB s p b.1) with
    | none => simp only [Option.bind_some, sumK, fail_val]
    | some b =>
      simp only
      cases abiReaderRest (s, ((p + b.1.length : Nat) : Int)) b with
      | none => rfl
      | some r => cases r <;> rfl
  unfold abiReaderFirstB
  simp only [Int.toNat_natCast]
  by_cases hlt : p < s.length
  · refine guard_step (dec_t (by omega)) (guard_step (dec_t (by omega)) (guard_step (blt_t hlt) (guard_else ?_ key)))
    simp only [hasB, dec_t hlt, Bool.true_and, beq_eq_false_iff_ne] at h
    simp only [beq_eq_false_iff_ne]
    omega
  · exact guard_else (dec_f (by omega)) key

/-- The bases agree, where no parenthesis stands. -/
theorem rel_base {g : ringRef22ITyped} {g' : ringAbiReaderKind} {s : List UInt8} (hs : s.length < 1000000000) {p : Nat} (hp : p ≤ s.length) (h : hasB s p 40 = false) :
    ∃ rt rk, ref22IBaseB g s (p : Int) = some rt ∧ abiReaderFirstB g' (s, (p : Int)) = some rk ∧ TyRel s p rt rk := by
  rw [first_val hs hp h]
  unfold firstF
  rw [find_base]
  unfold ref22IBaseB
  have hs2 : s.length < 4611686018427387904 := by omega
  have S : ∀ w : List UInt8, w ≠ [] → w.length < 100 → ref22IStarts s (p : Int) w = some (startsB s p w) := fun w h1 h2 => starts_val hs2 hp w h1 h2
  have n4 : ∀ n : Nat, n < 100 → IntKind.wrap .i64 ((p : Int) + (n : Int)) = ((p + n : Nat) : Int) := fun n hn => wI_add p n (by omega)
  by_cases h6 : startsB s p strC6 = true
  · have hle := startsB_le h6 (by decide)
    obtain ⟨rt, rk, e1, e2, e3⟩ := rel_num hs (p := p) (q := p + 4) strC6 1 (.inl rfl) ⟨fun _ => rfl, (fun h => by cases h)⟩ rfl hle
    refine ⟨rt, rk, ?_, ?_, e3⟩
    · exact bind_step (S strC6 (by decide) (by decide)) (guard_step h6 (bind_step (by rw [show ((p : Int) + (4 : Int)) = (p : Int) + ((4 : Nat) : Int) from rfl, n4 4 (by omega)]; exact e1) rfl))
    · rw [if_pos h6]; exact e2
  have h6 : startsB s p strC6 = false := by simpa using h6
  by_cases h7 : startsB s p strC7 = true
  · have hle := startsB_le h7 (by decide)
    obtain ⟨rt, rk, e1, e2, e3⟩ := rel_num hs (p := p) (q := p + 3) strC7 2 (.inr rfl) ⟨(fun h => by cases h), fun _ => rfl⟩ rfl hle
    refine ⟨rt, rk, ?_, ?_, e3⟩
    · exact bind_step (S strC6 (by decide) (by decide)) (guard_else h6 (bind_step (S strC7 (by decide) (by decide)) (guard_step h7 (bind_step (by rw [show ((p : Int) + (3 : Int)) = (p : Int) + ((3 : Nat) : Int) from rfl, n4 3 (by omega)]; exact e1) rfl))))
    · simp only [h6, h7, Bool.false_eq_true, if_false, if_true]; exact e2
  have h7 : startsB s p strC7 = false := by simpa using h7
  by_cases h8 : startsB s p strC8 = true
  · have hle := startsB_le h8 (by decide)
    have h9 := starts_not h8 (w := strC9) (by decide) (by decide)
    have h10 := starts_not h8 (w := strC10) (by decide) (by decide)
    have h11 := starts_not h8 (w := strC11) (by decide) (by decide)
    obtain ⟨rt, rk, e1, e2, e3⟩ := rel_bytes hs (p := p) (q := p + 5) rfl hle
    refine ⟨rt, rk, ?_, ?_, e3⟩
    · exact bind_step (S strC6 (by decide) (by decide)) (guard_else h6 (bind_step (S strC7 (by decide) (by decide)) (guard_else h7 (bind_step (S strC8 (by decide) (by decide)) (guard_step h8 (bind_step (by rw [show ((p : Int) + (5 : Int)) = (p : Int) + ((5 : Nat) : Int) from rfl, n4 5 (by omega)]; exact e1) rfl))))))
    · simp only [h6, h7, h8, h9, h10, h11, Bool.false_eq_true, if_false, if_true]; exact e2
  have h8 : startsB s p strC8 = false := by simpa using h8
  by_cases h9 : startsB s p strC9 = true
  · have hle := startsB_le h9 (by decide)
    obtain ⟨rk, e2, e3⟩ := rel_plain (s := s) (p := p) (q := p + 7) 3 strC9 (.inl ⟨rfl, rfl⟩) rfl hle
    refine ⟨_, rk, ?_, ?_, e3⟩
    · refine bind_step (S strC6 (by decide) (by decide)) (guard_else h6 (bind_step (S strC7 (by decide) (by decide)) (guard_else h7 (bind_step (S strC8 (by decide) (by decide)) (guard_else h8 (bind_step (S strC9 (by decide) (by decide)) (guard_step h9 ?_)))))))
      rw [show ((p : Int) + (7 : Int)) = (p : Int) + ((7 : Nat) : Int) from rfl, n4 7 (by omega)]
    · simp only [h6, h7, h9, Bool.false_eq_true, if_false, if_true]; exact e2
  have h9 : startsB s p strC9 = false := by simpa using h9
  by_cases h10 : startsB s p strC10 = true
  · have hle := startsB_le h10 (by decide)
    obtain ⟨rk, e2, e3⟩ := rel_plain (s := s) (p := p) (q := p + 4) 4 strC10 (.inr (.inl ⟨rfl, rfl⟩)) rfl hle
    refine ⟨_, rk, ?_, ?_, e3⟩
    · refine bind_step (S strC6 (by decide) (by decide)) (guard_else h6 (bind_step (S strC7 (by decide) (by decide)) (guard_else h7 (bind_step (S strC8 (by decide) (by decide)) (guard_else h8 (bind_step (S strC9 (by decide) (by decide)) (guard_else h9 (bind_step (S strC10 (by decide) (by decide)) (guard_step h10 ?_)))))))))
      rw [show ((p : Int) + (4 : Int)) = (p : Int) + ((4 : Nat) : Int) from rfl, n4 4 (by omega)]
    · simp only [h6, h7, h9, h10, Bool.false_eq_true, if_false, if_true]; exact e2
  have h10 : startsB s p strC10 = false := by simpa using h10
  by_cases h11 : startsB s p strC11 = true
  · have hle := startsB_le h11 (by decide)
    obtain ⟨rk, e2, e3⟩ := rel_plain (s := s) (p := p) (q := p + 6) 7 strC11 (.inr (.inr ⟨rfl, rfl⟩)) rfl hle
    refine ⟨_, rk, ?_, ?_, e3⟩
    · refine bind_step (S strC6 (by decide) (by decide)) (guard_else h6 (bind_step (S strC7 (by decide) (by decide)) (guard_else h7 (bind_step (S strC8 (by decide) (by decide)) (guard_else h8 (bind_step (S strC9 (by decide) (by decide)) (guard_else h9 (bind_step (S strC10 (by decide) (by decide)) (guard_else h10 (bind_step (S strC11 (by decide) (by decide)) (guard_step h11 ?_)))))))))))
      rw [show ((p : Int) + (6 : Int)) = (p : Int) + ((6 : Nat) : Int) from rfl, n4 6 (by omega)]
    · simp only [h6, h7, h9, h10, h11, Bool.false_eq_true, if_false, if_true]; exact e2
  have h11 : startsB s p strC11 = false := by simpa using h11
  refine ⟨(RT.mk 0 0 [], 0, false), .inr (), ?_, ?_, .inl ⟨rfl, rfl⟩⟩
  · refine bind_step (S strC6 (by decide) (by decide)) (guard_else h6 (bind_step (S strC7 (by decide) (by decide)) (guard_else h7 (bind_step (S strC8 (by decide) (by decide)) (guard_else h8 (bind_step (S strC9 (by decide) (by decide)) (guard_else h9 (bind_step (S strC10 (by decide) (by decide)) (guard_else h10 (bind_step (S strC11 (by decide) (by decide)) (guard_else h11 (bind_step (S strC1 (by decide) (by decide)) (guard_else ?_ rfl)))))))))))))
    have : startsB s p strC1 = hasB s p 40 := startsB_one s p 40
    rw [this]; exact h
  · simp only [h6, h7, h8, h9, h10, h11, Bool.false_eq_true, if_false]
end Go.Sy
