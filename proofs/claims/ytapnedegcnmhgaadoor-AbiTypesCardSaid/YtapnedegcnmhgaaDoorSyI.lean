/- What an operation does in the model is what the symbolic reading says: numbers, comparisons, places. -/
import Derived.Test.YtapnedegcnmhgaaDoorSyH
import Derived.DeepKeys
set_option linter.unusedVariables false
set_option linter.unusedSimpArgs false
namespace Go.Sy
open Go Go.RowKit
noncomputable section

theorem offs_append (p q : List Step) : offs (p ++ q) = offs p + offs q := by
  induction p with
  | nil => simp [offs]
  | cons s p ih => cases s <;> simp [offs, ih, Nat.add_assoc]

theorem RepC.plain {E : Emb} {v : AV} {xs : List Value} (h : RepC E v xs) : v.plain = true := by
  cases v <;> simp [AV.plain] <;> simp only [RepC] at h

theorem sizeT_cells {P : Program} {t : TypeId} {n : Nat} (h : sizeT P t = some n) : P.cellsOf t = n := by
  unfold sizeT at h; unfold Program.cellsOf; rw [h]; rfl

theorem run_partT {P : Program} {w : World} {t : TypeId} {v : AV} {E : Emb} {cs : Array Value} {off : Nat} {pre ys post : List Value}
    (h1 : aggT P t = some v.isAgg) (h2 : sizeT P t = some v.size) (e : cs.toList = pre ++ ys ++ post) (hp : pre.length = off) (hr : RepC E v ys) :
    ∃ x, (part t cs off).run P w = .ok x w ∧ Rep1 E v x := by
  have hl := hr.length
  cases ha : v.isAgg with
  | true =>
    rw [ha] at h1
    refine ⟨.agg ys.toArray, ?_, Rep1.of_agg ha hr⟩
    unfold part
    simp only [Sem.run_bind, run_isAggT h1, Result.andThen_ok, if_true, run_sizeT h2, Sem.run_pure]
    congr 2
    apply Array.ext'
    rw [Array.toList_extract, e, ← hp, ← hl]
    simp [List.extract]
  | false =>
    rw [ha] at h1
    have hs := size_scalar hr.plain ha
    rw [hs] at hl
    match ys, hl with
    | [y], _ =>
      refine ⟨y, ?_, Rep1.of_cells1 ha hr⟩
      have hc : cs[off]? = some y := by
        have : cs[off]? = cs.toList[off]? := by simp
        rw [this, e, ← hp]; simp
      unfold part
      simp [run_isAggT h1, hc]

/-! ### Comparisons -/

theorem range_all {l1 l2 : List Int} {n : Nat} (h1 : l1.length = n) (h2 : l2.length = n) : ((List.range n).all fun i => l1.getD i 0 == l2.getD i 0) = (l1 == l2) := by
  rw [Bool.eq_iff_iff]
  simp only [List.all_eq_true, List.mem_range, beq_iff_eq]
  constructor
  · intro h
    apply List.ext_getElem (by omega)
    intro i hi hj
    have := h i (by omega)
    simpa [List.getD, hi, hj] using this
  · rintro rfl i _; rfl

theorem eqItems_ints {P : Program} {e : TypeId} {kd k : IntKind} {d : Nat} (he : P.underlying e = some (.int kd)) (ha : aggT P e = some false) (w : World) {xs ys : Array Value} {l1 l2 : List Int}
    (h1 : xs.toList = l1.map (.int k)) (h2 : ys.toList = l2.map (.int k)) : ∀ is : List Nat, (∀ i ∈ is, i < l1.length ∧ i < l2.length) →
    (Op.eqItems (d + 1) e 1 xs ys is).run P w = .ok (is.all fun i => l1.getD i 0 == l2.getD i 0) w
  | [], _ => by simp [Op.eqItems]
  | i :: is, h => by
    obtain ⟨hi1, hi2⟩ := h i (by simp)
    have ih := eqItems_ints he ha w h1 h2 is (fun j hj => h j (by simp [hj])) (d := d)
    have p1 : (part e xs (i * 1)).run P w = .ok (.int k (l1.getD i 0)) w := by
      have : xs[i]? = some (.int k (l1.getD i 0)) := by
        have : xs[i]? = xs.toList[i]? := by simp
        rw [this, h1]; simp [List.getD, hi1]
      unfold part
      simp [run_isAggT ha, this]
    have p2 : (part e ys (i * 1)).run P w = .ok (.int k (l2.getD i 0)) w := by
      have : ys[i]? = some (.int k (l2.getD i 0)) := by
        have : ys[i]? = ys.toList[i]? := by simp
        rw [this, h2]; simp [List.getD, hi2]
      unfold part
      simp [run_isAggT ha, this]
    simp only [Op.eqItems, Sem.run_bind, p1, p2, Result.andThen_ok, run_equalIn_int w d e k kd _ _ he, List.all_cons]
    cases l1.getD i 0 == l2.getD i 0
    · simp
    · simp [ih]

theorem limbs_beq (x y : Nat) : (limbs x == limbs y) = u256eq x y := by
  rw [Bool.eq_iff_iff]
  simp only [limbs, u256eq, M256, beq_iff_eq, limb, List.cons.injEq, and_true]
  simp only [Nat.reduceMul, Nat.pow_zero, Nat.div_one, Nat.reducePow]
  constructor
  · rintro ⟨h0, h1, h2, h3⟩; omega
  · intro h; refine ⟨?_, ?_, ?_, ?_⟩ <;> omega

/-- 'r' tells when values of a field are the same. -/
def EqSound (P : Program) (fuel : Nat) (r : TypeId → AV → AV → Option Bool) : Prop :=
  ∀ (E : Emb) (w : World) (t : TypeId) (v v' : AV) (b : Bool) (x x' : Value), r t v v' = some b → Rep1 E v x → Rep1 E v' x' → (Op.equalIn fuel t x x').run P w = .ok b w

theorem eqFs_sound {P : Program} {fuel : Nat} {r : TypeId → AV → AV → Option Bool} (hr : EqSound P fuel r) (E : Emb) (w : World) (xs ys : Array Value) :
    ∀ (fs : List Field) (off : Nat) (l l' : List AV) (b : Bool) (pre zs pre' zs' : List Value), eqFs P r fs off l l' = some b → RepCs E l zs → RepCs E l' zs' →
      xs.toList = pre ++ zs → pre.length = off → ys.toList = pre' ++ zs' → pre'.length = off → (Op.eqFields fuel xs ys fs).run P w = .ok b w
  | [], off, l, l', b, pre, zs, pre', zs', h, h1, h2, e1, p1, e2, p2 => by
    cases l <;> cases l' <;> simp [eqFs] at h
    subst h
    simp [Op.eqFields]
  | f :: fs, off, l, l', b, pre, zs, pre', zs', h, h1, h2, e1, p1, e2, p2 => by
    cases l with
    | nil => simp [eqFs] at h
    | cons v l =>
      cases l' with
      | nil => simp [eqFs] at h
      | cons v' l' =>
        simp only [eqFs] at h
        split at h
        · rename_i hc
          obtain ⟨hn, ho, hs, hs', ha, ha'⟩ := hc
          simp only [RepCs] at h1 h2
          obtain ⟨c, d, rfl, hv, hl⟩ := h1
          obtain ⟨c', d', rfl, hv', hl'⟩ := h2
          obtain ⟨x, hx, rx⟩ := run_partT (w := w) (cs := xs) (off := f.offset) ha hs (by rw [e1, ← List.append_assoc]) (by rw [p1, ho]) hv
          obtain ⟨x', hx', rx'⟩ := run_partT (w := w) (cs := ys) (off := f.offset) (by rw [ha']; exact ha) (by rw [hs']; exact hs) (by rw [e2, ← List.append_assoc]) (by rw [p2, ho]) hv'
          split at h
          · rename_i a hra
            have heq := hr E w _ _ _ _ _ _ hra rx rx'
            simp only [Op.eqFields, if_pos hn, Sem.run_bind, hx, hx', Result.andThen_ok, heq]
            split at h
            · rename_i hemp
              simp at h; subst h
              simp only [Bool.and_eq_true, List.isEmpty_iff] at hemp
              obtain ⟨⟨rfl, rfl⟩, rfl⟩ := hemp
              cases a <;> simp [Op.eqFields]
            · split at h
              · rename_i b' hb
                simp at h; subst h
                have ih := eqFs_sound hr E w xs ys fs (off + v.size) l l' b' (pre ++ c) d (pre' ++ c') d' hb hl hl' (by rw [e1]; simp) (by simp [p1, hv.length]) (by rw [e2]; simp) (by simp [p2, hv'.length, hs'])
                cases a <;> simp [ih]
              · cases h
          · cases h
        · cases h

theorem run_equalIn_nil {P : Program} (w : World) (d : Nat) (t : TypeId) {e : TypeId} (x : Option Addr) (hu : P.underlying t = some (.pointer e)) : (Op.equalIn (d + 1) t (.pointer x) (.pointer none)).run P w = .ok x.isNone w := by
  unfold Op.equalIn
  rw [Sem.run_bind, run_underlying hu]
  cases x <;> rfl
theorem run_equalIn_nil' {P : Program} (w : World) (d : Nat) (t : TypeId) {e : TypeId} (x : Option Addr) (hu : P.underlying t = some (.pointer e)) : (Op.equalIn (d + 1) t (.pointer none) (.pointer x)).run P w = .ok x.isNone w := by
  unfold Op.equalIn
  rw [Sem.run_bind, run_underlying hu]
  cases x <;> rfl

theorem Rep1_open {E : Emb} {v : AV} {x : Value} : Rep1 E v.open x ↔ Rep1 E v x := by
  unfold Rep1
  rw [RepC_open, v.open_agg]
theorem AV.open_plain (v : AV) : v.open.plain = v.plain := by
  cases v with
  | el i t => cases i <;> rfl
  | _ => rfl
theorem bytes_beq (x y : List UInt8) : ((⟨x.toArray⟩ : ByteArray) == ⟨y.toArray⟩) = (x == y) := by
  show ByteArray.beq _ _ = _
  unfold ByteArray.beq
  rw [Bool.eq_iff_iff]
  simp
theorem run_equalIn_str {P : Program} (w : World) (d : Nat) (t : TypeId) (a b : ByteArray) (hu : P.underlying t = some .string) : (Op.equalIn (d + 1) t (.string a) (.string b)).run P w = .ok (a == b) w := by
  unfold Op.equalIn
  rw [Sem.run_bind, run_underlying hu]
  rfl
theorem Rep1.str {E : Emb} {l : List UInt8} {x : Value} : Rep1 E (.str l) x ↔ x = .string ⟨l.toArray⟩ := by
  constructor
  · intro h
    have := h.cells1 rfl
    simpa [RepC] using this
  · rintro rfl; exact ⟨by simp [RepC, Value.cells], by simp [AV.isAgg], by simp [Value.cells]⟩
theorem Rep1.nili {E : Emb} {x : Value} : Rep1 E .nili x ↔ x = .nilIface := by
  constructor
  · intro h
    have := h.cells1 rfl
    simpa [RepC] using this
  · rintro rfl; exact ⟨by simp [RepC, Value.cells], by simp [AV.isAgg], by simp [Value.cells]⟩

theorem eqTV_sound (P : Program) : ∀ (d k : Nat), EqSound P (d + k + 1) (eqTV P d)
  | 0, _, E, w, t, v, v', b, x, x', h, _, _ => by simp [eqTV] at h
  | d + 1, k, E, w, t, v, v', b, x, x', h, hx, hx' => by
    rw [show d + 1 + k + 1 = (d + k + 1) + 1 by omega]
    simp only [eqTV] at h
    split at h
    · rename_i hu
      split at h
      · rw [Rep1.bool] at hx hx'
        simp at h; subst h; subst hx; subst hx'
        exact run_equalIn_bool w _ t _ _ hu
      · cases h
    · rename_i kd hu
      split at h
      · split at h
        · rename_i hk
          subst hk
          rw [Rep1.int] at hx hx'
          simp at h; subst h; subst hx; subst hx'
          exact run_equalIn_int w _ t _ kd _ _ hu
        · cases h
      · cases h
    · rename_i e hu
      have hN : ∀ {y : Value}, Rep1 E .nilp y → y = .pointer none := fun {y} h => by
        have := h.cells1 rfl
        simp only [RepC] at this
        simpa using this
      have hI : ∀ {y : Value} {fr : Bool} {v : AV}, Rep1 E (.pim fr v) y → ∃ ad, y = .pointer (some ad) := fun {y fr v} h => by
        have := h.cells1 rfl
        simp only [RepC] at this
        obtain ⟨ad, ys, e1, _⟩ := this
        exact ⟨ad, by simpa using e1⟩
      have hQ : ∀ {y : Value} {ok : Bool} {v : AV}, Rep1 E (.pimq ok v) y → ∃ x, y = .pointer x ∧ x.isNone = !ok := fun {y ok v} h => by
        have := h.cells1 rfl
        simp only [RepC] at this
        rcases this with ⟨rfl, e1⟩ | ⟨rfl, ad, ys, e1, _⟩
        · exact ⟨none, by simpa using e1, rfl⟩
        · exact ⟨some ad, by simpa using e1, rfl⟩
      replace hx := Rep1_open.2 hx
      replace hx' := Rep1_open.2 hx'
      generalize v.open = v at h hx
      generalize v'.open = v' at h hx'
      split at h
      · cases h
        rw [hN hx, hN hx']
        exact run_equalIn_nil w _ t _ hu
      · cases h
        rw [Rep1.ptr.1 hx, hN hx']
        exact run_equalIn_nil w _ t _ hu
      · cases h
        rw [Rep1.ptr.1 hx', hN hx]
        exact run_equalIn_nil' w _ t _ hu
      · cases h
        obtain ⟨ad, e⟩ := hI hx
        rw [e, hN hx']
        exact run_equalIn_nil w _ t _ hu
      · cases h
        obtain ⟨ad, e⟩ := hI hx'
        rw [e, hN hx]
        exact run_equalIn_nil' w _ t _ hu
      · cases h
        obtain ⟨ad, e, e2⟩ := hQ hx
        rw [e, hN hx', ← e2]
        exact run_equalIn_nil w _ t _ hu
      · cases h
        obtain ⟨ad, e, e2⟩ := hQ hx'
        rw [e, hN hx, ← e2]
        exact run_equalIn_nil' w _ t _ hu
      · cases h
    · rename_i ms hu
      split at h
      case isFalse => cases h
      split at h
      · cases h
        rw [Rep1.nili.1 hx, Rep1.nili.1 hx']
        unfold Op.equalIn
        rw [Sem.run_bind, run_underlying hu]
        rfl
      · cases h
        have := hx.cells1 rfl
        simp only [RepC] at this
        obtain ⟨y, e, _⟩ := this
        rw [show x = _ by simpa using e, Rep1.nili.1 hx']
        unfold Op.equalIn
        rw [Sem.run_bind, run_underlying hu]
        rfl
      · cases h
        have := hx'.cells1 rfl
        simp only [RepC] at this
        obtain ⟨y, e, _⟩ := this
        rw [show x' = _ by simpa using e, Rep1.nili.1 hx]
        unfold Op.equalIn
        rw [Sem.run_bind, run_underlying hu]
        rfl
      · cases h
    · rename_i hu
      split at h
      · cases h
        rw [Rep1.str.1 hx, Rep1.str.1 hx', run_equalIn_str w _ t _ _ hu, bytes_beq]
      · cases h
    · rename_i n e hu
      split at h
      · rename_i hc
        obtain ⟨ha, hs⟩ := hc
        have hce := sizeT_cells hs
        split at h
        · rename_i ki hue
          split at h
          · rename_i y1 y2
            split at h
            · rename_i hn
              subst hn
              simp at h; subst h
              obtain ⟨c1, g1, _⟩ := hx
              obtain ⟨c2, g2, _⟩ := hx'
              obtain ⟨xs, rfl⟩ := g1 rfl
              obtain ⟨ys, rfl⟩ := g2 rfl
              simp only [Value.cells, RepC] at c1 c2
              obtain ⟨i, hi⟩ : ∃ i, P.info? e = some i := by
                unfold sizeT at hs
                cases hi : P.info? e with
                | none => rw [hi] at hs; cases hs
                | some i => exact ⟨i, rfl⟩
              rw [run_equalIn_array w _ xs ys hu hi, hce]
              rw [eqItems_ints hue ha w (l1 := limbs y1) (l2 := limbs y2) c1 c2 _ (by simp [limbs]), range_all (l1 := limbs y1) (l2 := limbs y2) (n := 4) rfl rfl, limbs_beq]
            · cases h
          · rename_i ka m l kb m' l'
            split at h
            · rename_i hc
              obtain ⟨rfl, rfl, rfl⟩ := hc
              simp at h; subst h
              obtain ⟨c1, g1, _⟩ := hx
              obtain ⟨c2, g2, _⟩ := hx'
              obtain ⟨xs, rfl⟩ := g1 rfl
              obtain ⟨ys, rfl⟩ := g2 rfl
              simp only [Value.cells, RepC] at c1 c2
              obtain ⟨i, hi⟩ : ∃ i, P.info? e = some i := by
                unfold sizeT at hs
                cases hi : P.info? e with
                | none => rw [hi] at hs; cases hs
                | some i => exact ⟨i, rfl⟩
              rw [run_equalIn_array w _ xs ys hu hi, hce]
              have e1 := RcL_ints.1 c1.2
              have e2 := RcL_ints.1 c2.2
              have hl1 := c1.1
              have hl2 := c2.1
              rw [eqItems_ints hue ha w e1 e2 _ (by intro i hi; simp at hi; omega), range_all hl1 hl2]
            · cases h
          · cases h
        · cases h
      · cases h
    · rename_i fs hu
      split at h
      · cases h
      · rename_i hst
        split at h
        · rename_i l l'
          obtain ⟨c1, g1, _⟩ := hx
          obtain ⟨c2, g2, _⟩ := hx'
          obtain ⟨xs, rfl⟩ := g1 rfl
          obtain ⟨ys, rfl⟩ := g2 rfl
          simp only [Value.cells, RepC] at c1 c2
          have hu' : P.underlying t = some (.struct (P.fieldsOf t)) := by simp [Program.fieldsOf, hu]
          rw [run_equalIn_struct w _ t xs ys hu' (by simpa using hst)]
          have hf : P.fieldsOf t = fs := by simp [Program.fieldsOf, hu]
          rw [hf]
          exact eqFs_sound (eqTV_sound P d k) E w xs ys fs.toList 0 l l' b [] _ [] _ h c1 c2 rfl rfl rfl rfl
        · cases h
    · cases h
end
end Go.Sy
