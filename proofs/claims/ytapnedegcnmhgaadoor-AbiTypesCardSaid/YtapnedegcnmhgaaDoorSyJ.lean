/- What an operation does in the model is what the symbolic reading says: the rest of the operations. -/
import Derived.Test.YtapnedegcnmhgaaDoorSyI
import Derived.Laws.Strings
set_option linter.unusedVariables false
set_option linter.unusedSimpArgs false
namespace Go.Sy
open Go Go.RowKit

theorem eqGuard_int {P : Program} {w : World} (op : BinOp) (t : TypeId) (x y : Operand) (ka kb : IntKind) (a b : Int) : (eqGuard op t x y (.int ka a) (.int kb b)).run P w = .ok () w := by
  cases op <;> simp [eqGuard]

theorem bytes_toList (l : List UInt8) : (⟨l.toArray⟩ : ByteArray).toList = l := by
  rw [ByteArray.toList_eq]
theorem bytes_size (l : List UInt8) : (⟨l.toArray⟩ : ByteArray).size = l.length := by simp [ByteArray.size]
theorem bytes_append (a b : List UInt8) : (⟨a.toArray⟩ : ByteArray) ++ ⟨b.toArray⟩ = ⟨(a ++ b).toArray⟩ := by
  apply ByteArray.ext
  simp
theorem guardIn_nil {P : Program} {w : World} {t : TypeId} {ms : Array (String × TypeId)} (h1 : P.underlying t = some (.interface ms)) (h2 : ms.isEmpty = true) : (Op.eqGuardIn Op.maxDepth t .nilIface .nilIface).run P w = .ok false w := by
  show (Op.eqGuardIn (9999 + 1) t .nilIface .nilIface).run P w = _
  unfold Op.eqGuardIn
  rw [Sem.run_bind, run_underlying h1]
  simp [h2]

theorem eqGuard_nil {P : Program} {w : World} (op : BinOp) {t : TypeId} (x y : Operand) {ms : Array (String × TypeId)} (h1 : P.underlying t = some (.interface ms)) (h2 : ms.isEmpty = true) : (eqGuard op t x y .nilIface .nilIface).run P w = .ok () w := by
  have hgi := guardIn_nil (w := w) h1 h2
  cases op <;> (try simp [eqGuard]) <;> cases x <;> cases y <;> simp [hgi]

theorem eqTV_kinds {P : Program} : ∀ {d : Nat} {t : TypeId} {v1 v2 : AV} {b : Bool}, eqTV P d t v1 v2 = some b →
    v1.plain = true ∧ v2.plain = true ∧ ((∃ x y, v1 = .bool x ∧ v2 = .bool y) ∨ (∃ k k' x y, v1 = .int k x ∧ v2 = .int k' y) ∨ (v1.isAgg = true ∧ v2.isAgg = true) ∨ (∀ E x y, Rep1 E v1 x → Rep1 E v2 y → ∃ p q, x = .pointer p ∧ y = .pointer q) ∨ (∃ x y, v1 = .str x ∧ v2 = .str y) ∨
      ∃ ms, P.underlying t = some (.interface ms) ∧ ms.isEmpty = true ∧ ∀ E x y, Rep1 E v1 x → Rep1 E v2 y → (x = .nilIface ∨ ∃ t z, x = .iface t z) ∧ (y = .nilIface ∨ ∃ t z, y = .iface t z)) := by
  intro d t v1 v2 b h
  cases d with
  | zero => simp [eqTV] at h
  | succ d =>
    simp only [eqTV] at h
    split at h
    · split at h
      · exact ⟨rfl, rfl, .inl ⟨_, _, rfl, rfl⟩⟩
      · cases h
    · split at h
      · exact ⟨rfl, rfl, .inr (.inl ⟨_, _, _, _, rfl, rfl⟩)⟩
      · cases h
    · have hN : ∀ E x, Rep1 E .nilp x → ∃ p, x = .pointer p := fun E x h => by
        have := h.cells1 rfl
        simp only [RepC] at this
        simp at this; exact ⟨_, this⟩
      have hP : ∀ E n p x, Rep1 E (.ptr n p) x → ∃ p, x = .pointer p := fun E n p x h => ⟨_, Rep1.ptr.1 h⟩
      have hI : ∀ E fr v x, Rep1 E (.pim fr v) x → ∃ p, x = .pointer p := fun E fr v x h => by
        have := h.cells1 rfl
        simp only [RepC] at this
        obtain ⟨ad, ys, e1, _⟩ := this
        simp at e1; exact ⟨_, e1⟩
      have hQ : ∀ E ok v x, Rep1 E (.pimq ok v) x → ∃ p, x = .pointer p := fun E ok v x h => by
        have := h.cells1 rfl
        simp only [RepC] at this
        rcases this with ⟨_, e1⟩ | ⟨_, ad, ys, e1, _⟩ <;> (simp at e1; exact ⟨_, e1⟩)
      have fin : ∀ {u1 u2 : AV}, u1 = v1.open → u2 = v2.open → u1.plain = true → u2.plain = true → (∀ E x, Rep1 E u1 x → ∃ p, x = .pointer p) → (∀ E x, Rep1 E u2 x → ∃ p, x = .pointer p) →
          v1.plain = true ∧ v2.plain = true ∧ ((∃ x y, v1 = .bool x ∧ v2 = .bool y) ∨ (∃ k k' x y, v1 = .int k x ∧ v2 = .int k' y) ∨ (v1.isAgg = true ∧ v2.isAgg = true) ∨ (∀ E x y, Rep1 E v1 x → Rep1 E v2 y → ∃ p q, x = .pointer p ∧ y = .pointer q) ∨ (∃ x y, v1 = .str x ∧ v2 = .str y) ∨
            ∃ ms, P.underlying t = some (.interface ms) ∧ ms.isEmpty = true ∧ ∀ E x y, Rep1 E v1 x → Rep1 E v2 y → (x = .nilIface ∨ ∃ t z, x = .iface t z) ∧ (y = .nilIface ∨ ∃ t z, y = .iface t z)) := by
        intro u1 u2 e1 e2 p1 p2 g1 g2
        subst e1; subst e2
        refine ⟨by rw [← v1.open_plain]; exact p1, by rw [← v2.open_plain]; exact p2, .inr (.inr (.inr (.inl fun E x y h1 h2 => ?_)))⟩
        obtain ⟨p, e⟩ := g1 E x (Rep1_open.2 h1)
        obtain ⟨q, e'⟩ := g2 E y (Rep1_open.2 h2)
        exact ⟨p, q, e, e'⟩
      split at h
      · rename_i e1 e2; exact fin e1.symm e2.symm rfl rfl hN hN
      · rename_i e1 e2; exact fin e1.symm e2.symm rfl rfl (fun E x => hP E _ _ x) hN
      · rename_i e1 e2; exact fin e1.symm e2.symm rfl rfl hN (fun E x => hP E _ _ x)
      · rename_i e1 e2; exact fin e1.symm e2.symm rfl rfl (fun E x => hI E _ _ x) hN
      · rename_i e1 e2; exact fin e1.symm e2.symm rfl rfl hN (fun E x => hI E _ _ x)
      · rename_i e1 e2; exact fin e1.symm e2.symm rfl rfl (fun E x => hQ E _ _ x) hN
      · rename_i e1 e2; exact fin e1.symm e2.symm rfl rfl hN (fun E x => hQ E _ _ x)
      · cases h
    · rename_i ms hu
      split at h
      case isFalse => cases h
      rename_i hms
      have hF : ∀ E t v x, Rep1 E (.ifc t v) x → ∃ t z, x = .iface t z := fun E t v x h => by
        have := h.cells1 rfl
        simp only [RepC] at this
        obtain ⟨z, e1, _⟩ := this
        simp at e1; exact ⟨_, _, e1⟩
      split at h
      · exact ⟨rfl, rfl, .inr (.inr (.inr (.inr (.inr ⟨ms, hu, hms, fun E x y h1 h2 => ⟨.inl (Rep1.nili.1 h1), .inl (Rep1.nili.1 h2)⟩⟩))))⟩
      · exact ⟨rfl, rfl, .inr (.inr (.inr (.inr (.inr ⟨ms, hu, hms, fun E x y h1 h2 => ⟨.inr (hF E _ _ x h1), .inl (Rep1.nili.1 h2)⟩⟩))))⟩
      · exact ⟨rfl, rfl, .inr (.inr (.inr (.inr (.inr ⟨ms, hu, hms, fun E x y h1 h2 => ⟨.inl (Rep1.nili.1 h1), .inr (hF E _ _ y h2)⟩⟩))))⟩
      · cases h
    · split at h
      · exact ⟨rfl, rfl, .inr (.inr (.inr (.inr (.inl ⟨_, _, rfl, rfl⟩))))⟩
      · cases h
    · split at h
      · split at h
        · split at h
          · exact ⟨rfl, rfl, .inr (.inr (.inl ⟨rfl, rfl⟩))⟩
          · exact ⟨rfl, rfl, .inr (.inr (.inl ⟨rfl, rfl⟩))⟩
          · cases h
        · cases h
      · cases h
    · split at h
      · cases h
      · split at h
        · exact ⟨rfl, rfl, .inr (.inr (.inl ⟨rfl, rfl⟩))⟩
        · cases h
    · cases h

theorem binK_run {P : Program} {E : Emb} {w : World} {op : BinOp} {t : TypeId} {v1 v2 v : AV} {x1 x2 : Value} (h : binK P op t v1 v2 some = some v) (h1 : Rep E v1 x1) (h2 : Rep E v2 x2) (x y : Operand) :
    ∃ z, ((do eqGuard op t x y x1 x2; binOp op t x1 x2 : Sem Value)).run P w = .ok z w ∧ Rep1 E v z ∧ v.plain = true ∧ ∀ ok, v.named ok = true := by
  unfold binK at h
  split at h
  · rename_i ka a kb b
    obtain rfl : x1 = .int ka a := Rep1.int.1 h1
    obtain rfl : x2 = .int kb b := Rep1.int.1 h2
    have hI : ∀ {k : IntKind} {n : Int}, ((do eqGuard op t x y (.int ka a) (.int kb b); binOp op t (.int ka a) (.int kb b) : Sem Value)).run P w = .ok (.int k n) w → v = .int k n →
        ∃ z, ((do eqGuard op t x y (.int ka a) (.int kb b); binOp op t (.int ka a) (.int kb b) : Sem Value)).run P w = .ok z w ∧ Rep1 E v z ∧ v.plain = true ∧ ∀ ok, v.named ok = true :=
      fun hr e => ⟨_, hr, by rw [e]; exact Rep1.int.2 rfl, by rw [e]; rfl, fun _ => by rw [e]; rfl⟩
    have hB : ∀ {n : Bool}, ((do eqGuard op t x y (.int ka a) (.int kb b); binOp op t (.int ka a) (.int kb b) : Sem Value)).run P w = .ok (.bool n) w → v = .bool n →
        ∃ z, ((do eqGuard op t x y (.int ka a) (.int kb b); binOp op t (.int ka a) (.int kb b) : Sem Value)).run P w = .ok z w ∧ Rep1 E v z ∧ v.plain = true ∧ ∀ ok, v.named ok = true :=
      fun hr e => ⟨_, hr, by rw [e]; exact Rep1.bool.2 rfl, by rw [e]; rfl, fun _ => by rw [e]; rfl⟩
    split at h
    · cases hc : decide (b < 0)
      · rw [hc] at h; simp at h hc
        exact hI (by simp [eqGuard_int, binOp, Op.shift, show ¬ b < 0 by omega, shlI]) h.symm
      · rw [hc] at h; cases h
    · cases hc : decide (b < 0)
      · rw [hc] at h; simp at h hc
        exact hI (by simp [eqGuard_int, binOp, Op.shift, show ¬ b < 0 by omega, shrI]) h.symm
      · rw [hc] at h; cases h
    · rename_i hshl hshr
      split at h
      · rename_i hk
        subst hk
        split at h
        · simp at h; exact hI (by simp [eqGuard_int, binOp, Op.intArith]) h.symm
        · simp at h; exact hI (by simp [eqGuard_int, binOp, Op.intArith]) h.symm
        · simp at h; exact hI (by simp [eqGuard_int, binOp, Op.intArith]) h.symm
        · cases hc : (b == 0)
          · rw [hc] at h; simp at h hc
            exact hI (by simp [eqGuard_int, binOp, Op.intDiv, hc]) h.symm
          · rw [hc] at h; cases h
        · cases hc : (b == 0)
          · rw [hc] at h; simp at h hc
            exact hI (by simp [eqGuard_int, binOp, Op.intDiv, hc]) h.symm
          · rw [hc] at h; cases h
        · simp at h; exact hI (by simp [eqGuard_int, binOp, Op.intBits, andI]) h.symm
        · simp at h; exact hI (by simp [eqGuard_int, binOp, Op.intBits, orI_eq]) h.symm
        · simp at h; exact hI (by simp [eqGuard_int, binOp, Op.intBits, xorI]) h.symm
        · simp at h; exact hI (by simp [eqGuard_int, binOp, Op.intBits, andNotI]) h.symm
        · simp at h; exact hB (by simp [eqGuard_int, binOp, Op.intCmp]) h.symm
        · simp at h; exact hB (by simp [eqGuard_int, binOp, Op.intCmp]) h.symm
        · simp at h; exact hB (by simp [eqGuard_int, binOp, Op.intCmp]) h.symm
        · simp at h; exact hB (by simp [eqGuard_int, binOp, Op.intCmp]) h.symm
        · simp at h; exact hB (by simp [eqGuard_int, binOp, Op.intCmp]) h.symm
        · simp at h; exact hB (by simp [eqGuard_int, binOp, Op.intCmp]) h.symm
        · cases h
      · cases h
  · rename_i a b
    obtain rfl : x1 = .string ⟨a.toArray⟩ := Rep1.str.1 h1
    obtain rfl : x2 = .string ⟨b.toArray⟩ := Rep1.str.1 h2
    have eb : ((⟨a.toArray⟩ : ByteArray).toList == (⟨b.toArray⟩ : ByteArray).toList) = (a == b) := by rw [bytes_toList, bytes_toList]
    have hG : (eqGuard op t x y (.string ⟨a.toArray⟩) (.string ⟨b.toArray⟩)).run P w = .ok () w := by cases op <;> simp [eqGuard]
    have hB : ∀ {n : Bool}, (Op.stringOp op ⟨a.toArray⟩ ⟨b.toArray⟩).run P w = .ok (.bool n) w → binOp op t (.string ⟨a.toArray⟩) (.string ⟨b.toArray⟩) = Op.stringOp op ⟨a.toArray⟩ ⟨b.toArray⟩ → v = .bool n →
        ∃ z, ((do eqGuard op t x y (.string ⟨a.toArray⟩) (.string ⟨b.toArray⟩); binOp op t (.string ⟨a.toArray⟩) (.string ⟨b.toArray⟩) : Sem Value)).run P w = .ok z w ∧ Rep1 E v z ∧ v.plain = true ∧ ∀ ok, v.named ok = true :=
      fun {n} hr hd e => ⟨.bool n, by rw [hd]; simp [hG, hr], by rw [e]; exact Rep1.bool.2 rfl, by rw [e]; rfl, fun _ => by rw [e]; rfl⟩
    split at h
    · cases hc : Nat.ble (a.length + b.length) 9223372036854775807
      · rw [hc] at h; cases h
      · rw [hc] at h; simp at h hc
        refine ⟨.string ⟨(a ++ b).toArray⟩, ?_, by rw [← h]; exact Rep1.str.2 rfl, by rw [← h]; rfl, fun _ => by rw [← h]; rfl⟩
        have : ¬ ((a.length : Int) + (b.length : Int) > 9223372036854775807) := by omega
        have hm : IntKind.max .i64 = 9223372036854775807 := rfl
        simp [hG, binOp, Op.stringOp, bytes_size, bytes_append, hm]
        omega
    · simp at h; exact hB (by simp [Op.stringOp, eb]) rfl h.symm
    · simp at h; exact hB (by simp [Op.stringOp, eb]) rfl h.symm
    · simp at h; exact hB (by simp [Op.stringOp, bytes_toList]) rfl h.symm
    · simp at h; exact hB (by simp [Op.stringOp, bytes_toList]) rfl h.symm
    · simp at h; exact hB (by simp [Op.stringOp, bytes_toList]) rfl h.symm
    · simp at h; exact hB (by simp [Op.stringOp, bytes_toList]) rfl h.symm
    · cases h
  · rename_i hni hns
    split at h
    · cases h
    · rename_i hg
      have hg' : P.eqGuardType P.depth t = false := by simpa using hg
      cases he : eqTV P 12 t v1 v2 with
      | none => rw [he] at h; simp at h
      | some c =>
        rw [he] at h
        obtain ⟨p1, p2, hk⟩ := eqTV_kinds he
        have r1 := (Rep.one p1).1 h1
        have r2 := (Rep.one p2).1 h2
        have hq := eqTV_sound P 12 9987 E w t v1 v2 c x1 x2 he r1 r2
        have hsh : (∃ a b, x1 = .bool a ∧ x2 = .bool b) ∨ (∃ xs ys, x1 = .agg xs ∧ x2 = .agg ys) ∨ (∃ p q, x1 = .pointer p ∧ x2 = .pointer q) ∨ (∃ ms, P.underlying t = some (.interface ms) ∧ ms.isEmpty = true ∧ (x1 = .nilIface ∨ ∃ t z, x1 = .iface t z) ∧ (x2 = .nilIface ∨ ∃ t z, x2 = .iface t z)) := by
          rcases hk with ⟨a, b, rfl, rfl⟩ | ⟨k, k', a, b, rfl, rfl⟩ | ⟨ha, hb⟩ | hpq | ⟨a, b, rfl, rfl⟩ | ⟨ms, g1, g2, g3⟩
          · exact .inl ⟨a, b, Rep1.bool.1 r1, Rep1.bool.1 r2⟩
          · exact absurd rfl (hni k a k' b rfl)
          · obtain ⟨xs, e1⟩ := r1.2.1 ha
            obtain ⟨ys, e2⟩ := r2.2.1 hb
            exact .inr (.inl ⟨xs, ys, e1, e2⟩)
          · exact .inr (.inr (.inl (hpq E x1 x2 r1 r2)))
          · exact absurd rfl (hns a b rfl)
          · exact .inr (.inr (.inr ⟨ms, g1, g2, g3 E x1 x2 r1 r2⟩))
        have heq : (Op.equal t x1 x2).run P w = .ok c w := hq
        cases op <;> simp at h
        · refine ⟨.bool c, ?_, by rw [← h]; exact Rep1.bool.2 rfl, by rw [← h]; rfl, fun _ => by rw [← h]; rfl⟩
          rcases hsh with ⟨a, b, rfl, rfl⟩ | ⟨xs, ys, rfl, rfl⟩ | ⟨p, q, rfl, rfl⟩ | ⟨ms, g1, g2, g3, g4⟩
          · simp [eqGuard, binOp, heq]
          · simp [eqGuard, binOp, heq, hg']
          · simp [eqGuard, binOp, heq]
          · rcases g3 with rfl | ⟨t1, z1, rfl⟩ <;> rcases g4 with rfl | ⟨t2, z2, rfl⟩
            · simp [eqGuard_nil _ x y g1 g2, binOp, heq]
            · simp [eqGuard, binOp, heq]
            · simp [eqGuard, binOp, heq]
            · simp [eqGuard, binOp, heq]
        · refine ⟨.bool (!c), ?_, by rw [← h]; exact Rep1.bool.2 rfl, by rw [← h]; rfl, fun _ => by rw [← h]; rfl⟩
          rcases hsh with ⟨a, b, rfl, rfl⟩ | ⟨xs, ys, rfl, rfl⟩ | ⟨p, q, rfl, rfl⟩ | ⟨ms, g1, g2, g3, g4⟩
          · simp [eqGuard, binOp, heq]
          · simp [eqGuard, binOp, heq, hg']
          · simp [eqGuard, binOp, heq]
          · rcases g3 with rfl | ⟨t1, z1, rfl⟩ <;> rcases g4 with rfl | ⟨t2, z2, rfl⟩
            · simp [eqGuard_nil _ x y g1 g2, binOp, heq]
            · simp [eqGuard, binOp, heq]
            · simp [eqGuard, binOp, heq]
            · simp [eqGuard, binOp, heq]

theorem unK_run {P : Program} {E : Emb} {w : World} {op : UnOp} {v1 v : AV} {x1 : Value} (h : unK op v1 some = some v) (h1 : Rep E v1 x1) :
    ∃ z, (Op.unary op x1).run P w = .ok z w ∧ Rep1 E v z ∧ v.plain = true ∧ ∀ ok, v.named ok = true := by
  unfold unK at h
  split at h
  · rename_i b
    obtain rfl : x1 = .bool b := Rep1.bool.1 h1
    simp at h; subst h
    exact ⟨.bool (!b), by simp [Op.unary], Rep1.bool.2 rfl, rfl, fun _ => rfl⟩
  · rename_i k a
    obtain rfl : x1 = .int k a := Rep1.int.1 h1
    simp at h; subst h
    exact ⟨.int k (k.wrap (0 - a)), by simp [Op.unary, Op.intArith], Rep1.int.2 (by simp), rfl, fun _ => rfl⟩
  · rename_i k a
    obtain rfl : x1 = .int k a := Rep1.int.1 h1
    simp at h; subst h
    exact ⟨.int k (xorI k (if k.signed then -1 else k.max) a), by simp [Op.unary, Op.intBits, xorI], Rep1.int.2 rfl, rfl, fun _ => rfl⟩
  · cases h
end Go.Sy
