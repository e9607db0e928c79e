/- What an operation does in the model is what the symbolic reading says: the rest of the operations. -/
import Derived.Test.YtmbcolalfgepiaaDoorSyI
set_option linter.unusedVariables false
set_option linter.unusedSimpArgs false
namespace Go.Sy
open Go Go.RowKit

theorem eqGuard_int {P : Program} {w : World} (op : BinOp) (t : TypeId) (x y : Operand) (ka kb : IntKind) (a b : Int) : (eqGuard op t x y (.int ka a) (.int kb b)).run P w = .ok () w := by
  cases op <;> simp [eqGuard]

theorem eqTV_kinds {P : Program} : ∀ {d : Nat} {t : TypeId} {v1 v2 : AV} {b : Bool}, eqTV P d t v1 v2 = some b →
    v1.plain = true ∧ v2.plain = true ∧ ((∃ x y, v1 = .bool x ∧ v2 = .bool y) ∨ (∃ k k' x y, v1 = .int k x ∧ v2 = .int k' y) ∨ (v1.isAgg = true ∧ v2.isAgg = true)) := by
  intro d t v1 v2 b h
  cases d with
  | zero => simp [eqTV] at h
  | succ d =>
    simp only [eqTV] at h
    split at h
    · split at h
      · exact ⟨rfl, rfl, .inl ⟨_, _, rfl, rfl⟩⟩
      · cases h
    · split at h
      · exact ⟨rfl, rfl, .inr (.inl ⟨_, _, _, _, rfl, rfl⟩)⟩
      · cases h
    · split at h
      · split at h
        · split at h
          · exact ⟨rfl, rfl, .inr (.inr ⟨rfl, rfl⟩)⟩
          · exact ⟨rfl, rfl, .inr (.inr ⟨rfl, rfl⟩)⟩
          · cases h
        · cases h
      · cases h
    · split at h
      · cases h
      · split at h
        · exact ⟨rfl, rfl, .inr (.inr ⟨rfl, rfl⟩)⟩
        · cases h
    · cases h

theorem binK_run {P : Program} {E : Emb} {w : World} {op : BinOp} {t : TypeId} {v1 v2 v : AV} {x1 x2 : Value} (h : binK P op t v1 v2 some = some v) (h1 : Rep E v1 x1) (h2 : Rep E v2 x2) (x y : Operand) :
    ∃ z, ((do eqGuard op t x y x1 x2; binOp op t x1 x2 : Sem Value)).run P w = .ok z w ∧ Rep1 E v z ∧ v.plain = true ∧ ∀ ok, v.named ok = true := by
  unfold binK at h
  split at h
  · rename_i ka a kb b
    obtain rfl : x1 = .int ka a := Rep1.int.1 h1
    obtain rfl : x2 = .int kb b := Rep1.int.1 h2
    have hI : ∀ {k : IntKind} {n : Int}, ((do eqGuard op t x y (.int ka a) (.int kb b); binOp op t (.int ka a) (.int kb b) : Sem Value)).run P w = .ok (.int k n) w → v = .int k n →
        ∃ z, ((do eqGuard op t x y (.int ka a) (.int kb b); binOp op t (.int ka a) (.int kb b) : Sem Value)).run P w = .ok z w ∧ Rep1 E v z ∧ v.plain = true ∧ ∀ ok, v.named ok = true :=
      fun hr e => ⟨_, hr, by rw [e]; exact Rep1.int.2 rfl, by rw [e]; rfl, fun _ => by rw [e]; rfl⟩
    have hB : ∀ {n : Bool}, ((do eqGuard op t x y (.int ka a) (.int kb b); binOp op t (.int ka a) (.int kb b) : Sem Value)).run P w = .ok (.bool n) w → v = .bool n →
        ∃ z, ((do eqGuard op t x y (.int ka a) (.int kb b); binOp op t (.int ka a) (.int kb b) : Sem Value)).run P w = .ok z w ∧ Rep1 E v z ∧ v.plain = true ∧ ∀ ok, v.named ok = true :=
      fun hr e => ⟨_, hr, by rw [e]; exact Rep1.bool.2 rfl, by rw [e]; rfl, fun _ => by rw [e]; rfl⟩
    split at h
    · cases hc : decide (b < 0)
      · rw [hc] at h; simp at h hc
        exact hI (by simp [eqGuard_int, binOp, Op.shift, show ¬ b < 0 by omega, shlI]) h.symm
      · rw [hc] at h; cases h
    · cases hc : decide (b < 0)
      · rw [hc] at h; simp at h hc
        exact hI (by simp [eqGuard_int, binOp, Op.shift, show ¬ b < 0 by omega, shrI]) h.symm
      · rw [hc] at h; cases h
    · rename_i hshl hshr
      split at h
      · rename_i hk
        subst hk
        split at h
        · simp at h; exact hI (by simp [eqGuard_int, binOp, Op.intArith]) h.symm
        · simp at h; exact hI (by simp [eqGuard_int, binOp, Op.intArith]) h.symm
        · simp at h; exact hI (by simp [eqGuard_int, binOp, Op.intArith]) h.symm
        · cases hc : (b == 0)
          · rw [hc] at h; simp at h hc
            exact hI (by simp [eqGuard_int, binOp, Op.intDiv, hc]) h.symm
          · rw [hc] at h; cases h
        · cases hc : (b == 0)
          · rw [hc] at h; simp at h hc
            exact hI (by simp [eqGuard_int, binOp, Op.intDiv, hc]) h.symm
          · rw [hc] at h; cases h
        · simp at h; exact hI (by simp [eqGuard_int, binOp, Op.intBits, andI]) h.symm
        · simp at h; exact hI (by simp [eqGuard_int, binOp, Op.intBits, orI]) h.symm
        · simp at h; exact hI (by simp [eqGuard_int, binOp, Op.intBits, xorI]) h.symm
        · simp at h; exact hI (by simp [eqGuard_int, binOp, Op.intBits, andNotI]) h.symm
        · simp at h; exact hB (by simp [eqGuard_int, binOp, Op.intCmp]) h.symm
        · simp at h; exact hB (by simp [eqGuard_int, binOp, Op.intCmp]) h.symm
        · simp at h; exact hB (by simp [eqGuard_int, binOp, Op.intCmp]) h.symm
        · simp at h; exact hB (by simp [eqGuard_int, binOp, Op.intCmp]) h.symm
        · simp at h; exact hB (by simp [eqGuard_int, binOp, Op.intCmp]) h.symm
        · simp at h; exact hB (by simp [eqGuard_int, binOp, Op.intCmp]) h.symm
        · cases h
      · cases h
  · rename_i hni
    split at h
    · cases h
    · rename_i hg
      have hg' : P.eqGuardType P.depth t = false := by simpa using hg
      cases he : eqTV P 12 t v1 v2 with
      | none => rw [he] at h; simp at h
      | some c =>
        rw [he] at h
        obtain ⟨p1, p2, hk⟩ := eqTV_kinds he
        have r1 := (Rep.one p1).1 h1
        have r2 := (Rep.one p2).1 h2
        have hq := eqTV_sound P 12 9987 E w t v1 v2 c x1 x2 he r1 r2
        have hsh : (∃ a b, x1 = .bool a ∧ x2 = .bool b) ∨ (∃ xs ys, x1 = .agg xs ∧ x2 = .agg ys) := by
          rcases hk with ⟨a, b, rfl, rfl⟩ | ⟨k, k', a, b, rfl, rfl⟩ | ⟨ha, hb⟩
          · exact .inl ⟨a, b, Rep1.bool.1 r1, Rep1.bool.1 r2⟩
          · exact absurd rfl (hni k a k' b rfl)
          · obtain ⟨xs, e1⟩ := r1.2.1 ha
            obtain ⟨ys, e2⟩ := r2.2.1 hb
            exact .inr ⟨xs, ys, e1, e2⟩
        have heq : (Op.equal t x1 x2).run P w = .ok c w := hq
        cases op <;> simp at h
        · refine ⟨.bool c, ?_, by rw [← h]; exact Rep1.bool.2 rfl, by rw [← h]; rfl, fun _ => by rw [← h]; rfl⟩
          rcases hsh with ⟨a, b, rfl, rfl⟩ | ⟨xs, ys, rfl, rfl⟩
          · simp [eqGuard, binOp, heq]
          · simp [eqGuard, binOp, heq, hg']
        · refine ⟨.bool (!c), ?_, by rw [← h]; exact Rep1.bool.2 rfl, by rw [← h]; rfl, fun _ => by rw [← h]; rfl⟩
          rcases hsh with ⟨a, b, rfl, rfl⟩ | ⟨xs, ys, rfl, rfl⟩
          · simp [eqGuard, binOp, heq]
          · simp [eqGuard, binOp, heq, hg']

theorem unK_run {P : Program} {E : Emb} {w : World} {op : UnOp} {v1 v : AV} {x1 : Value} (h : unK op v1 some = some v) (h1 : Rep E v1 x1) :
    ∃ z, (Op.unary op x1).run P w = .ok z w ∧ Rep1 E v z ∧ v.plain = true ∧ ∀ ok, v.named ok = true := by
  unfold unK at h
  split at h
  · rename_i b
    obtain rfl : x1 = .bool b := Rep1.bool.1 h1
    simp at h; subst h
    exact ⟨.bool (!b), by simp [Op.unary], Rep1.bool.2 rfl, rfl, fun _ => rfl⟩
  · rename_i k a
    obtain rfl : x1 = .int k a := Rep1.int.1 h1
    simp at h; subst h
    exact ⟨.int k (k.wrap (0 - a)), by simp [Op.unary, Op.intArith], Rep1.int.2 (by simp), rfl, fun _ => rfl⟩
  · rename_i k a
    obtain rfl : x1 = .int k a := Rep1.int.1 h1
    simp at h; subst h
    exact ⟨.int k (xorI k (if k.signed then -1 else k.max) a), by simp [Op.unary, Op.intBits, xorI], Rep1.int.2 rfl, rfl, fun _ => rfl⟩
  · cases h
end Go.Sy
