/- What an operation does in the model is what the symbolic reading says: the operations one by one. -/
import Derived.Test.YtapnedegcnmhgaaDoorSyG
set_option linter.unusedVariables false
set_option linter.unusedSimpArgs false
namespace Go.Sy
open Go Go.RowKit

/-! ### Zero values -/

theorem sameCell_eq {x y : Value} (h : sameCell x y = true) : x = y := by
  unfold sameCell at h
  split at h
  · split at h
    · rename_i hk; subst hk; simp at h; subst h; rfl
    · cases h
  · simp at h; subst h; rfl
  · rfl
  · rfl
  · rfl
  · rename_i a b
    have h := eq_of_beq h
    obtain ⟨⟨xs⟩⟩ := a
    obtain ⟨⟨ys⟩⟩ := b
    simp at h
    rw [h]
  · cases h

theorem sameCells_eq : ∀ {l l' : List Value}, sameCells l l' = true → l = l'
  | [], [], _ => rfl
  | [], _ :: _, h => by simp [sameCells] at h
  | _ :: _, [], h => by simp [sameCells] at h
  | x :: l, y :: l', h => by
    simp only [sameCells, Bool.and_eq_true] at h
    rw [sameCell_eq h.1, sameCells_eq h.2]

theorem RcL_u256 (E : Emb) : ∀ l : List Nat, RcL E .u256 l (l.flatMap fun x => (limbs x).map (.int .u64))
  | [] => rfl
  | x :: l => ⟨_, _, by simp only [List.flatMap_cons]; rfl, rfl, RcL_u256 E l⟩
theorem RcL_u2 (E : Emb) : ∀ l : List (Nat × Nat), RcL E .u2 l (l.flatMap fun p => (limbs p.1).map (.int .u64) ++ (limbs p.2).map (.int .u64))
  | [] => rfl
  | x :: l => ⟨_, _, by simp only [List.flatMap_cons]; rfl, rfl, RcL_u2 E l⟩
theorem RcL_pt (E : Emb) : ∀ l : List (Nat × Nat × Bool), RcL E .pt l (l.flatMap fun p => (limbs p.1).map (.int .u64) ++ (limbs p.2.1).map (.int .u64) ++ [.bool p.2.2])
  | [] => rfl
  | x :: l => ⟨_, _, by simp only [List.flatMap_cons]; rfl, rfl, RcL_pt E l⟩
theorem RcL_jac (E : Emb) : ∀ l : List (Nat × Nat × Nat), RcL E .jac l (l.flatMap fun p => (limbs p.1).map (.int .u64) ++ (limbs p.2.1).map (.int .u64) ++ (limbs p.2.2).map (.int .u64))
  | [] => rfl
  | x :: l => ⟨_, _, by simp only [List.flatMap_cons]; rfl, rfl, RcL_jac E l⟩

mutual
theorem litD_rep (E : Emb) : ∀ {v : DT} {xs : List Value}, v.litD = some xs → RcD E v xs
  | .int .., xs, h | .bool _, xs, h | .str _, xs, h => by simp [DT.litD] at h; subst h; simp [RcD]
  | .u256 x, xs, h => by simp [DT.litD] at h; subst h; simp [RcD, ucells]
  | .st l, xs, h => by simp only [DT.litD] at h; simp only [RcD]; exact litDs_rep E h
  | .ints .., _, h | .sl .., _, h | .ptr .., _, h => by simp [DT.litD] at h
theorem litDs_rep (E : Emb) : ∀ {l : List DT} {xs : List Value}, DT.litDs l = some xs → RcDs E l xs
  | [], xs, h => by simp [DT.litDs] at h; subst h; simp [RcDs]
  | v :: l, xs, h => by
    simp only [DT.litDs] at h
    split at h
    · rename_i a b ha hb
      simp at h; subst h
      simp only [RcDs]
      exact ⟨a, b, rfl, litD_rep E ha, litDs_rep E hb⟩
    · cases h
end
theorem litDs_repL (E : Emb) {i : DSh} : ∀ {l : List i.T} {xs : List Value}, DT.litDs (l.map i.toD) = some xs → RcL E (.d i) l xs
  | [], xs, h => by simp [DT.litDs] at h; subst h; rfl
  | v :: l, xs, h => by
    simp only [List.map_cons, DT.litDs] at h
    split at h
    · rename_i a b ha hb
      simp at h; subst h
      exact ⟨a, b, rfl, litD_rep E ha, litDs_repL E hb⟩
    · cases h

mutual
theorem litCells_rep (E : Emb) : ∀ {v : AV} {xs : List Value}, v.litCells = some xs → RepC E v xs
  | .int k n, xs, h => by simp [AV.litCells] at h; subst h; simp [RepC]
  | .bool b, xs, h => by simp [AV.litCells] at h; subst h; simp [RepC]
  | .u256 x, xs, h => by simp [AV.litCells] at h; subst h; simp [RepC, ucells]
  | .arr s n l, xs, h => by
    cases s <;> simp only [AV.litCells] at h
    case bytes => cases h
    case d i =>
      split at h
      · rename_i hn
        simp only [RepC]
        exact ⟨hn, litDs_repL E h⟩
      · cases h
    all_goals
      split at h
      · rename_i hn
        simp at h; subst h
        simp only [RepC]
        refine ⟨hn, ?_⟩
        first
          | exact RcL_ints.2 rfl
          | exact RcL_u256 E _
          | (have := RcL_pt E l; simpa using this)
          | (have := RcL_u2 E l; simpa using this)
          | (have := RcL_jac E l; simpa using this)
      · cases h
  | .st l, xs, h => by
    simp only [AV.litCells] at h
    simp only [RepC]
    exact litAll_rep E h
  | .isl .., _, h => by simp [AV.litCells] at h
  | .own .., _, h => by simp [AV.litCells] at h
  | .osl .., _, h => by simp [AV.litCells] at h
  | .row .., _, h => by simp [AV.litCells] at h
  | .nsl s, xs, h => by simp [AV.litCells] at h; subst h; simp [RepC]
  | .str l, xs, h => by simp [AV.litCells] at h; subst h; simp [RepC]
  | .nilp, xs, h => by simp [AV.litCells] at h; subst h; simp [RepC]
  | .undef, _, h => by simp [AV.litCells] at h
  | .tup _, _, h => by simp [AV.litCells] at h
  | .ptr .., _, h => by simp [AV.litCells] at h
  | .pim .., _, h => by simp [AV.litCells] at h
  | .sl .., _, h => by simp [AV.litCells] at h
  | .fn .., _, h => by simp [AV.litCells] at h
  | .nili, xs, h => by simp [AV.litCells] at h; subst h; simp [RepC]
  | .el .., _, h => by simp [AV.litCells] at h
  | .pimq .., _, h => by simp [AV.litCells] at h
  | .isw .., _, h => by simp [AV.litCells] at h
  | .ifc .., _, h => by simp [AV.litCells] at h
theorem litAll_rep (E : Emb) : ∀ {l : List AV} {xs : List Value}, AV.litCells.litAll l = some xs → RepCs E l xs
  | [], xs, h => by simp [AV.litCells.litAll] at h; subst h; simp [RepCs]
  | v :: l, xs, h => by
    simp only [AV.litCells.litAll] at h
    split at h
    · rename_i a b ha hb
      simp at h; subst h
      simp only [RepCs]
      exact ⟨a, b, rfl, litCells_rep E ha, litAll_rep E hb⟩
    · cases h
end

theorem lit_plain {v : AV} {xs : List Value} (h : v.litCells = some xs) : v.plain = true := by
  cases v <;> simp [AV.litCells, AV.plain] at h ⊢

mutual
theorem lit_named {ok : Nat → Bool} : ∀ {v : AV} {xs : List Value}, v.litCells = some xs → v.named ok = true
  | .int .., _, _ | .bool _, _, _ | .u256 _, _, _ | .arr .., _, _ | .isl .., _, _ | .nsl _, _, _ | .str _, _, _ | .nilp, _, _ | .undef, _, _ | .row .., _, _ | .nili, _, _ | .el .., _, _ | .isw .., _, _ => by simp [AV.named]
  | .own .., _, h => by simp [AV.litCells] at h
  | .osl .., _, h => by simp [AV.litCells] at h
  | .st l, xs, h => by simp only [AV.litCells] at h; simp only [AV.named]; exact litAll_named h
  | .tup _, _, h => by simp [AV.litCells] at h
  | .ptr .., _, h => by simp [AV.litCells] at h
  | .pim .., _, h => by simp [AV.litCells] at h
  | .sl .., _, h => by simp [AV.litCells] at h
  | .fn .., _, h => by simp [AV.litCells] at h
  | .pimq .., _, h => by simp [AV.litCells] at h
  | .ifc .., _, h => by simp [AV.litCells] at h
theorem litAll_named {ok : Nat → Bool} : ∀ {l : List AV} {xs : List Value}, AV.litCells.litAll l = some xs → AV.nameds ok l = true
  | [], _, _ => rfl
  | v :: l, xs, h => by
    simp only [AV.litCells.litAll] at h
    split at h
    · rename_i a b ha hb
      simp only [AV.nameds, Bool.and_eq_true]
      exact ⟨lit_named ha, litAll_named hb⟩
    · cases h
end

theorem zeroOK_spec {P : Program} {t : TypeId} {z : AV} (h : zeroOK P t z = true) : ∃ val, (∀ w, (zeroValue t).run P w = .ok val w) ∧ (∀ E, RepC E z val.cells.toList) ∧ z.plain = true ∧ ∀ ok, z.named ok = true := by
  unfold zeroOK at h
  split at h
  · rename_i v l h1 h2
    have e := sameCells_eq h
    refine ⟨v, fun w => ?_, fun E => by rw [e]; exact litCells_rep E h2, lit_plain h2, fun ok => lit_named h2⟩
    cases hi : P.info? t with
    | none => rw [hi] at h1; cases h1
    | some i =>
      rw [hi] at h1
      simp at h1
      simp [zeroValue, typeInfo, hi, h1]
  · cases h

section
variable {cx : Cx} {G : Ini → Prop} {w0 : Ini} {E : Emb} {N : Nat} {env hp : Nat → Option AV} {a : Act} {w : World} {o : Oper}

theorem good_alloc (h : Rel w0 E N env hp a w) {t : TypeId} {d : Nat} {z : AV} (hop : o.op = .alloc t) (hz : NewN hp d) (hk : zeroOK cx.P t z = true) :
    Good cx.P o w0 N env hp (.ptr d []) [(d, z)] a w := by
  obtain ⟨val, h1, h2, h3, h4⟩ := zeroOK_spec hk
  obtain ⟨E', e1, _, _, e2, e3⟩ := h.alloc hz (c := z) (xs := val.cells) (T := t) (RepR.of (h2 E)) (h4 _)
  refine Good.value (E' := E') (x := .pointer (some ⟨w.heap.size, 0, none⟩)) (w' := { w with heap := w.heap.push (.cells val.cells t (0, 0)) }) ?_ e3 ?_ ?_
  · simp [execOp, hop, Instr.alloc, h1, newVar, newRow]
  · exact Rep1.ptr.2 (by rw [e1]; rfl)
  · simp [AV.named, updH_same]

theorem good_box (h : Rel w0 E N env hp a w) {t : TypeId} {x : Operand} {d : Nat} {v : AV} (hop : o.op = .box t x) (hz : NewN hp d)
    (hv : Rep1 E v (a.eval x)) (hn : v.named (fun n => (hp n).isSome) = true) : Good cx.P o w0 N env hp (.ptr d []) [(d, v)] a w := by
  obtain ⟨E', e1, _, _, e2, e3⟩ := h.alloc hz (c := v) (xs := (a.eval x).cells) (T := t) (RepR.of hv.1) hn
  refine Good.value (E' := E') (x := .pointer (some ⟨w.heap.size, 0, none⟩)) (w' := { w with heap := w.heap.push (.cells (a.eval x).cells t (0, 0)) }) ?_ e3 ?_ ?_
  · simp [execOp, hop, Instr.box, newVar, newRow]
  · exact Rep1.ptr.2 (by rw [e1]; rfl)
  · simp [AV.named, updH_same]

/-- The cells of a block of the call's own, where something can be read. -/
theorem own_cells (h : Rel w0 E N env hp a w) {n : Nat} {c u : AV} {p : List Step} (hc : hp n = some c) (hg : gett c p = some u) :
    c.live = true ∧ ∃ xs T, E.cnt n = some xs.size ∧ w.heap[E.ρ n]? = some (.cells xs T (0, 0)) ∧ RepR E c xs.toList ∧ (∀ f j, (froN n = true → c.rowSz ≤ j) → E.im f (E.ρ n) j = none) := by
  have hl : c.live = true := by cases c <;> first | rfl | (simp [gett, getB] at hg)
  refine ⟨hl, ?_⟩
  obtain ⟨_, ⟨_, s, hs⟩ | ⟨xs, T, h1, h2, h3, h4, _⟩⟩ := h.rheap n c hc hl
  · exfalso
    subst hs
    unfold gett getB at hg
    simp only [List.length_nil] at hg
    split at hg
    · rename_i i _ _
      have hb : Nat.blt i 0 = false := rfl
      split at hg
      · rw [hb] at hg; cases hg
      · cases hg
    · cases hg
  · exact ⟨xs, T, h1, h2, h3, h4⟩

/-- A part of a block of the call's own. -/
theorem own_part (h : Rel w0 E N env hp a w) {n : Nat} {c u : AV} {p : List Step} (hc : hp n = some c) (hg : gett c p = some u) :
    ∃ xs T ys, w.heap[E.ρ n]? = some (.cells xs T (0, 0)) ∧ (∀ j v, ys[j]? = some v → xs[offs p + j]? = some v) ∧ RepC E u ys ∧ u.named (fun n => (hp n).isSome) = true := by
  obtain ⟨_, xs, T, _, h1, h2, _⟩ := own_cells h hc hg
  obtain ⟨pre, ys, post, e, hl, hr⟩ := gett_sound hg h2
  refine ⟨xs, T, ys, h1, fun j v hv => ?_, hr, gett_named hg (h.shp n c hc)⟩
  have : xs[offs p + j]? = xs.toList[offs p + j]? := by simp
  rw [this, e, ← hl, List.append_assoc, List.getElem?_append_right (by omega)]
  simp only [Nat.add_sub_cancel_left]
  have hj : j < ys.length := by
    rcases Nat.lt_or_ge j ys.length with h | h
    · exact h
    · simp [List.getElem?_eq_none h] at hv
  rw [List.getElem?_append_left hj]; exact hv

theorem good_load (h : Rel w0 E N env hp a w) {t : TypeId} {x : Operand} {n : Nat} {p : List Step} {c v : AV} (hop : o.op = .load t x)
    (hx : Rep1 E (.ptr n p) (a.eval x)) (hc : hp n = some c) (hg : gett c p = some v) (hf : fitsT cx.P t v = true) : Good cx.P o w0 N env hp v [] a w := by
  obtain ⟨xs, T, ys, h1, h2, h3, h4⟩ := own_part h hc hg
  obtain ⟨y, hy, hr⟩ := run_loadVarT hf h1 h2 h3
  rw [Rep1.ptr] at hx
  refine Good.value (E' := E) (x := y) (w' := w) ?_ h ((Rep.one (fitsT_spec hf).2.2).2 hr) h4
  simp [execOp, hop, Instr.loadAt, hx, Instr.sureAddr, hy]

theorem pim_inv {E : Emb} {fr : Bool} {v : AV} {x : Value} (h : Rep1 E (.pim fr v) x) : ∃ b off ys, x = .pointer (some ⟨b, off, none⟩) ∧ (∀ j u, ys[j]? = some u → E.im fr b (off + j) = some u) ∧ RepC E v ys := by
  have := h.cells1 rfl
  simp only [RepC] at this
  obtain ⟨⟨b, off, spot⟩, ys, h1, ⟨h2, h3⟩, h5⟩ := this
  simp at h1
  simp only at h2; subst h2
  exact ⟨b, off, ys, h1, h3, h5⟩

/-- Cells that stay, in memory. -/
theorem im_cells {b : Ini} (h : Mem b E hp w) {fr : Bool} {g off : Nat} {ys : List Value} (hy : ∀ j u, ys[j]? = some u → E.im fr g (off + j) = some u) (hne : ys ≠ []) :
    ∃ c T fz, w.heap[g]? = some (.cells c T fz) ∧ ∀ j u, ys[j]? = some u → c[off + j]? = some u := by
  match ys, hne with
  | y :: ys, _ =>
    obtain ⟨c, T, fz, h1, _⟩ := h.imm fr g _ y (hy 0 y rfl)
    refine ⟨c, T, fz, h1, fun j u hu => ?_⟩
    obtain ⟨c', T', fz', h2, h3⟩ := h.imm fr g _ u (hy j u hu)
    rw [h1] at h2; cases h2
    exact h3

theorem good_load_pim (h : Rel w0 E N env hp a w) {t : TypeId} {x : Operand} {fr : Bool} {v : AV} (hop : o.op = .load t x)
    (hx : Rep1 E (.pim fr v) (a.eval x)) (hn : v.named (fun n => (hp n).isSome) = true) (hf : fitsT cx.P t v = true) : Good cx.P o w0 N env hp v [] a w := by
  obtain ⟨b, off, ys, e, h2, h3⟩ := pim_inv hx
  have hrun : ∃ y, (loadVar t ⟨b, off, none⟩).run cx.P w = .ok y w ∧ Rep1 E v y := by
    by_cases hne : ys = []
    · subst hne
      obtain ⟨k1, k2, k3⟩ := fitsT_spec hf
      have hl := h3.length
      have ha : v.isAgg = true := by
        cases hq : v.isAgg with
        | true => rfl
        | false => have := size_scalar k3 hq; simp at hl; omega
      rw [ha] at k1
      refine ⟨.agg #[], ?_, by have := Rep1.of_agg ha h3; simpa using this⟩
      unfold loadVar
      simp only [Sem.run_bind, run_isAggT k1, Result.andThen_ok, if_true, run_sizeT k2]
      simp at hl
      rw [← hl]
      simp [loadCells, loadCellsFrom]
    · obtain ⟨c, T, fz, g1, g2⟩ := im_cells h.toMem h2 hne
      exact run_loadVarT hf g1 g2 h3
  obtain ⟨y, hy, hr⟩ := hrun
  refine Good.value (E' := E) (x := y) (w' := w) ?_ h ((Rep.one (fitsT_spec hf).2.2).2 hr) hn
  simp [execOp, hop, Instr.loadAt, e, Instr.sureAddr, hy]

theorem good_store (h : Rel w0 E N env hp a w) {t : TypeId} {x y : Operand} {n : Nat} {p : List Step} {c c' v : AV} (hfr : froN n = false) (hop : o.op = .store t x y)
    (hx : Rep1 E (.ptr n p) (a.eval x)) (hv : Rep1 E v (a.eval y)) (hnv : v.named (fun n => (hp n).isSome) = true) (hc : hp n = some c) (hs : sett c p v = some c') (hf : fitsT cx.P t v = true) :
    Good cx.P o w0 N env hp .undef [(n, c')] a w := by
  have hlive : c.live = true := by cases c <;> first | rfl | (simp [sett, setB] at hs)
  have hcells : ∃ xs T, E.cnt n = some xs.size ∧ w.heap[E.ρ n]? = some (.cells xs T (0, 0)) ∧ RepR E c xs.toList := by
    obtain ⟨_, ⟨_, s, hs'⟩ | ⟨xs, T, h1, h2, h3, h4, _⟩⟩ := h.rheap n c hc hlive
    · exfalso
      subst hs'
      unfold sett setB at hs
      simp only [List.length_nil] at hs
      split at hs
      · rename_i i _ _
        have hb : Nat.blt i 0 = false := rfl
        split at hs
        · rw [hb] at hs; cases hs
        · cases hs
      · cases hs
    · exact ⟨xs, T, h1, h2, h3⟩
  obtain ⟨xs, T, hk, h1, h2⟩ := hcells
  obtain ⟨pre, ys, post, e, hl, hly, hr, hrow, _⟩ := sett_sound hs h2 hv.1
  have hsz : (a.eval y).cells.size = v.size := by simpa using hv.1.length
  rw [Rep1.ptr] at hx
  have hst := run_storeCells_at cx.P (E.ρ n) (offs p) T (a.eval y).cells.toList 0 xs w h1 (by
    have : xs.size = (pre ++ ys ++ post).length := by rw [← e]; simp
    simp [this, hl, hly]) hv.1.oneCell
  refine Good.skip (E' := E) (w' := w.setRow (E.ρ n) (pre ++ (a.eval y).cells.toList ++ post).toArray) ?_ ?_
  · have e1 : xs.toList.take (offs p) = pre := by rw [e, ← hl, List.append_assoc, List.take_left]
    have e2 : xs.toList.drop (offs p + (a.eval y).cells.toList.length) = post := by
      rw [e, ← hl, ← hly, ← List.length_append, List.drop_left]
    simp only [Nat.add_zero] at hst
    rw [e1, e2] at hst
    simp only [execOp, hop, Sem.run_bind, Instr.storeAt, hx, Instr.sureAddr, Sem.run_pure, Result.andThen_ok, storeVar, run_sizeT (fitsT_spec hf).2.1, hsz, ne_eq, not_true_eq_false, if_false, hst]
  · have hxs : xs.size = (pre ++ ys ++ post).length := by rw [← e]; simp
    exact h.write hc hlive hfr hk h1 (by rw [hxs]; simp only [List.size_toArray, List.length_append]; omega) (by simpa using hr) hrow (sett_named hs (h.shp n c hc) hnv)
end
end Go.Sy
