/- Plain laws: Type and Static. -/
import Derived.Test.YtapnedegcnmhgaaDoorSyN7
set_option linter.unusedVariables false
set_option linter.unusedSimpArgs false
namespace Go.Sy
open Go

theorem c1a_val (k : KT) (e : Int) : abiIParseC1a k e () = some (k, e) := by rw [abiIParseC1a_eq]; rfl
theorem c1b_val (k : KT) (e : Int) : abiIParseC1b k e () = some (KT.none, 220) := by rw [abiIParseC1b_eq]; rfl

/-- **The program reads a text as the document does.** -/
theorem parse_read (text : List UInt8) : (∃ t : RT, ref22Read text = some (t, 0) ∧ abiIParse text = some (t.kt, 0) ∧ t.WF ∧ Snd t ∧ t.sz ≤ 4096 ∧ t.tx.length ≤ 12288) ∨
    (ref22Read text = some (RT.mk 0 0 [], 220) ∧ abiIParse text = some (KT.none, 220)) := by
  rw [ref22Read_eq, abiIParse_eq]
  unfold ref22ReadB abiIParseB
  by_cases hl : 4096 < text.length
  · refine .inr ⟨guard_step (dec_t (by omega)) rfl, guard_step (dec_t (by omega)) (bind_step (fail_val _) ?_)⟩
    simp only [sumK]
    exact bind_step (c1b_val _ _) rfl
  · obtain ⟨rt, rk, h1, h2, hrel⟩ := typed_rel (s := text) (by omega) (text.length + 1) 0 (by omega) (Nat.zero_le _) bigFuel bigFuel (by rw [bigFuel_eq]; omega) (by rw [bigFuel_eq]; omega)
    have h1 : ref22ITyped text (0 : Int) = some rt := by rw [ref22ITyped_eq]; exact h1
    have h2 : abiReaderKind (text, (0 : Int)) = some rk := by rw [abiReaderKind_eq]; exact h2
    have bad : ∀ r, (∃ x y, r = some (x, y) ∧ x = RT.mk 0 0 [] ∧ y = (220 : Int)) → r = some (RT.mk 0 0 [], (220 : Int)) := by
      rintro _ ⟨_, _, rfl, rfl, rfl⟩; rfl
    rcases hrel with ⟨e1, e2⟩ | ⟨t, e, e1, ⟨g1, g2, g3, g4, g5⟩, e2⟩
    · refine .inr ⟨guard_else (dec_f (by omega)) (bind_step h1 (guard_step (by rw [e1]; rfl) rfl)), guard_else (dec_f (by omega)) (bind_step h2 ?_)⟩
      rw [e2]
      simp only [sumK]
      exact bind_step (c1b_val _ _) rfl
    · subst e1
      have hdeep : ref22IDeep t = some ((t.dp : Nat) : Int) := by rw [ref22IDeep_eq]; exact deep_val g3 _ (by rw [bigFuel_eq]; omega) (by omega)
      have hnar : ref22INarrow t = some t.nar := by rw [ref22INarrow_eq]; exact narrow_val g3 _ (by rw [bigFuel_eq]; omega) (by omega)
      by_cases hs : Snd t
      · have e2 := (e2.resolve_right fun h => h.1 hs).2
        subst e2
        by_cases he : e < text.length
        · refine .inr ⟨guard_else (dec_f (by omega)) (bind_step h1 (guard_else rfl (guard_step (by simp; omega) rfl))), guard_else (dec_f (by omega)) (bind_step h2 ?_)⟩
          simp only [sumK]
          refine guard_step (dec_t (by omega)) (bind_step (fail_val _) ?_)
          simp only [sumK]
          exact bind_step (c1b_val _ _) rfl
        · have he : e = text.length := by omega
          subst he
          refine .inl ⟨t, guard_else (dec_f (by omega)) (bind_step h1 (guard_else rfl (guard_else (by simp) (bind_step hdeep (guard_else (dec_f (by have := hs.1; omega)) (bind_step hnar (guard_else (by rw [hs.2]; rfl) rfl))))))), guard_else (dec_f (by omega)) (bind_step h2 ?_), g3, hs, by omega, by omega⟩
          simp only [sumK]
          refine guard_else (dec_f (by omega)) ?_
          exact bind_step (c1a_val _ _) rfl
      · have e2 := (e2.resolve_left fun h => hs h.1).2
        subst e2
        refine .inr ⟨guard_else (dec_f (by omega)) (bind_step h1 (guard_else rfl ?_)), guard_else (dec_f (by omega)) (bind_step h2 ?_)⟩
        · by_cases he : e = text.length
          · refine guard_else (by simp [he]) (bind_step hdeep ?_)
            by_cases hd : 32 < t.dp
            · exact guard_step (dec_t (by omega)) rfl
            · refine guard_else (dec_f (by omega)) (bind_step hnar (guard_step ?_ rfl))
              cases hn : t.nar with
              | false => rfl
              | true => exact absurd ⟨by omega, hn⟩ hs
          · exact guard_step (by simp; omega) rfl
        · simp only [sumK]
          exact bind_step (c1b_val _ _) rfl

theorem num22_val (e : Int) : law22INum e = some e := by rw [law22INum_eq]; rfl

/-- **Type and Static are the document's.** -/
theorem law22AbiTypes_true (text : List UInt8) : law22AbiTypes text = some true := by
  rw [law22AbiTypes_eq]
  unfold law22AbiTypesB
  rcases parse_read text with ⟨t, h1, h2, hw, hs, hsz, htx⟩ | ⟨h1, h2⟩
  · have a1 : abiType text = some (t.tx, 0) := by
      rw [abiType_eq]; unfold abiTypeB
      refine bind_step h2 (guard_else rfl (guard_step (RT.kt_ok t) ?_))
      rw [RT.kt_text]
    have a2 : ref22Own text = some (t.tx, 0) := by
      rw [ref22Own_eq]; unfold ref22OwnB
      exact bind_step h1 (guard_else rfl (bind_step (text_full (t := t) hw (by omega) (by omega)) rfl))
    have a3 : abiStatic text = some (!t.dyn, (t.hd : Int), 0) := by
      rw [abiStatic_eq]; unfold abiStaticB
      refine bind_step h2 (guard_else rfl (guard_step (RT.kt_ok t) (guard_step (RT.kt_ok t) ?_)))
      rw [RT.kt_dyn, RT.kt_head]
    have a4 : ref22Static text = some (!t.dyn, (t.hd : Int), 0) := by
      rw [ref22Static_eq]; unfold ref22StaticB
      exact bind_step h1 (guard_else rfl (bind_step (dynamic_full (t := t) hw (by omega)) (bind_step (head_val (t := t) hw (by omega) hs.wd) rfl)))
    exact bind_step a1 (bind_step a2 (bind_step a3 (bind_step a4 (guard_step (by simp) (bind_step (num22_val _) (guard_step (by simp) (guard_step (by simp) (guard_step (by simp) (bind_step (num22_val _) (by simp))))))))))
  · have a1 : abiType text = some ([], 220) := by
      rw [abiType_eq]; unfold abiTypeB
      exact bind_step h2 (guard_step rfl rfl)
    have a2 : ref22Own text = some ([], 220) := by
      rw [ref22Own_eq]; unfold ref22OwnB
      exact bind_step h1 (guard_step rfl rfl)
    have a3 : abiStatic text = some (false, 0, 220) := by
      rw [abiStatic_eq]; unfold abiStaticB
      exact bind_step h2 (guard_step rfl rfl)
    have a4 : ref22Static text = some (false, 0, 220) := by
      rw [ref22Static_eq]; unfold ref22StaticB
      exact bind_step h1 (guard_step rfl rfl)
    exact bind_step a1 (bind_step a2 (bind_step a3 (bind_step a4 (guard_step rfl (bind_step (num22_val _) (guard_step rfl (guard_step rfl (guard_step rfl (bind_step (num22_val _) rfl)))))))))
end Go.Sy
