/- What an operation does in the model is what the symbolic reading says: slices that are made. -/
import Derived.Test.YtapnedegcnmhgaaDoorSyLd
import Derived.Laws.MakeOwn
import Derived.Great.BuildSlice
set_option linter.unusedVariables false
set_option linter.unusedSimpArgs false
namespace Go.Sy
open Go Go.RowKit

mutual
theorem DV.lits_rep (E : Emb) : ∀ {v : DV} {xs : List Value}, v.lits = some xs → RcD E v.toD xs
  | .int .., xs, h => by simp only [DV.lits, Option.some.injEq] at h; subst h; simp [DV.toD, RcD]
  | .bool _, xs, h => by simp only [DV.lits, Option.some.injEq] at h; subst h; simp [DV.toD, RcD]
  | .u256 _, xs, h => by simp only [DV.lits, Option.some.injEq] at h; subst h; simp [DV.toD, RcD, ucells]
  | .str [], xs, h => by simp only [DV.lits, Option.some.injEq] at h; subst h; simp [DV.toD, RcD]
  | .ints _ [], xs, h => by simp only [DV.lits, Option.some.injEq] at h; subst h; exact ⟨_, rfl, none, 0, rfl, Nat.le_refl _, Nat.le_refl _, rfl⟩
  | .wints _ [] 0, xs, h => by simp only [DV.lits, Option.some.injEq] at h; subst h; exact ⟨_, rfl, none, 0, rfl, Nat.le_refl _, Nat.le_refl _, rfl⟩
  | .sl _ [], xs, h => by simp only [DV.lits, Option.some.injEq] at h; subst h; exact ⟨_, [], rfl, rfl, none, 0, rfl, Nat.le_refl _, Nat.le_refl _, rfl⟩
  | .wsl _ [] 0, xs, h => by simp only [DV.lits, Option.some.injEq] at h; subst h; exact ⟨_, [], rfl, rfl, none, 0, rfl, Nat.le_refl _, Nat.le_refl _, rfl⟩
  | .ptr false _, xs, h => by simp only [DV.lits, Option.some.injEq] at h; subst h; exact .inl ⟨rfl, rfl⟩
  | .st l, xs, h => by simp only [DV.lits] at h; simp only [DV.toD, RcD]; exact DV.litss_rep E h
  | .str (_ :: _), _, h | .ints _ (_ :: _), _, h | .wints _ (_ :: _) _, _, h | .wints _ [] (_ + 1), _, h | .sl _ (_ :: _), _, h | .wsl _ (_ :: _) _, _, h | .wsl _ [] (_ + 1), _, h | .ptr true _, _, h => by simp [DV.lits] at h
theorem DV.litss_rep (E : Emb) : ∀ {l : List DV} {xs : List Value}, DV.litss l = some xs → RcDs E (DV.toDs l) xs
  | [], xs, h => by simp only [DV.litss, Option.some.injEq] at h; subst h; simp [DV.toDs, RcDs]
  | v :: l, xs, h => by
    simp only [DV.litss] at h
    obtain ⟨a, h1, h2⟩ := Option.bind_eq_some_iff.1 h
    obtain ⟨b, h3, h4⟩ := Option.bind_eq_some_iff.1 h2
    cases h4
    simp only [DV.toDs, RcDs]
    exact ⟨a, b, rfl, DV.lits_rep E h1, DV.litss_rep E h3⟩
end
theorem DSh.lits_dflt (i : DSh) : ∃ xs, (i.view i.dflt).lits = some xs := by cases i <;> exact ⟨_, rfl⟩
theorem toDV_plain {v : AV} {d : DV} (h : v.toDV = some d) : v.plain = true := by
  cases v <;> first | rfl | (simp [AV.toDV] at h)
theorem de_plain {s : Sh} {v : AV} {t : s.T} (h : s.de v = some t) : v.plain = true := by
  cases s with
  | d i =>
    cases v with
    | el => rfl
    | _ =>
      simp only [Sh.de] at h
      obtain ⟨d, h1, _⟩ := Option.bind_eq_some_iff.1 h
      exact toDV_plain h1
  | _ => cases v <;> simp [Sh.de] at h <;> rfl

theorem Sh.dflt_rep (E : Emb) (s : Sh) : Rc E s s.dflt s.dfltCells := by
  cases s
  case bytes => exact ⟨_, rfl, none, 0, 0, rfl, rfl, Nat.le_refl _, rfl⟩
  case d i =>
    obtain ⟨xs, h⟩ := i.lits_dflt
    have := DV.lits_rep E h
    simp only [Rc, Sh.dflt, Sh.dfltCells, h, Option.getD_some]
    rw [i.view_toD] at this
    exact this
  all_goals rfl

theorem shapeZ_spec {P : Program} {t : TypeId} {s : Sh} (h : shapeZ P t = some s) : ∃ i v, P.info? t = some i ∧ i.zero = some v ∧ v.cells.toList = s.dfltCells ∧ i.size = s.size := by
  unfold shapeZ at h
  split at h
  · rename_i s' v n h1 h2 h3
    split at h
    · rename_i hc
      simp at h; subst h
      simp only [Bool.and_eq_true] at hc
      obtain ⟨i, hi, hz⟩ := Option.bind_eq_some_iff.1 h2
      refine ⟨i, v, hi, hz, sameCells_eq hc.1, ?_⟩
      have := Nat.eq_of_beq_eq_true hc.2
      rw [← this]
      simpa [sizeT, hi] using h3
    · cases h
  · cases h

theorem dfltCells_len (s : Sh) : s.dfltCells.length = s.size := by
  cases s with
  | d i => cases i <;> rfl
  | _ => rfl

theorem RcL.replicate {E : Emb} {s : Sh} {t : s.T} {z : List Value} (h : Rc E s t z) : ∀ n, RcL E s (List.replicate n t) (List.replicate n z).flatten
  | 0 => rfl
  | n + 1 => by
    simp only [List.replicate_succ, List.flatten_cons]
    exact ⟨z, _, rfl, h, RcL.replicate h n⟩

theorem flat_get {z : List Value} : ∀ (n i : Nat), i < n * z.length → (List.replicate n z).flatten[i]? = z[i % z.length]?
  | 0, i, h => by omega
  | n + 1, i, h => by
    simp only [List.replicate_succ, List.flatten_cons]
    rw [Nat.add_mul, Nat.one_mul] at h
    rcases Nat.lt_or_ge i z.length with hi | hi
    · rw [List.getElem?_append_left hi, Nat.mod_eq_of_lt hi]
    · rw [List.getElem?_append_right hi, flat_get n _ (by omega), ← Nat.mod_eq_sub_mod hi]

/-- The cells that 'make' lays. -/
theorem made_rep {E : Emb} {s : Sh} {z : Array Value} (hz : z.toList = s.dfltCells) (n : Nat) : RcL E s (List.replicate n s.dflt) (madeCells z (n * s.size)).toList := by
  have h := RcL.replicate (Sh.dflt_rep E s) n
  have hl : z.size = s.size := by
    have := congrArg List.length hz
    rw [dfltCells_len] at this
    simpa using this
  have e : (madeCells z (n * s.size)).toList = (List.replicate n s.dfltCells).flatten := by
    apply List.ext_getElem?
    intro i
    rcases Nat.lt_or_ge i (n * s.size) with hi | hi
    · rw [flat_get n i (by rw [dfltCells_len]; exact hi), dfltCells_len, ← hz]
      simp only [madeCells, Array.toList_map, Array.toList_range, List.getElem?_map, List.getElem?_range hi, Option.map_some]
      have hs := Sh.size_pos s
      have hlt : i % z.size < z.size := Nat.mod_lt _ (by omega)
      rw [← hl]
      rw [Array.getElem?_toList, Array.getElem?_eq_getElem hlt]
      congr 1
      exact getElem!_pos z _ hlt
    · rw [List.getElem?_eq_none, List.getElem?_eq_none]
      · simp [dfltCells_len]; exact hi
      · simp [madeCells]; exact hi
  rw [e]; exact h

theorem roomB_spec {b n : Nat} (h : roomB b n = true) : n ≤ 140737488355328 ∧ n * b ≤ 140737488355328 := by
  simp only [roomB, Bool.and_eq_true] at h
  exact ⟨Nat.le_of_ble_eq_true h.1, Nat.le_of_ble_eq_true h.2⟩

section
variable {cx : Cx} {G : Ini → Prop} {w0 : Ini} {E : Emb} {N : Nat} {env hp : Nat → Option AV} {a : Act} {w : World} {o : Oper}

theorem Rel.drewn (h : Rel w0 E N env hp a w) : Rel w0 E N env hp a w.drew :=
  { h with rheap := h.rheap, imm := h.imm, below := ⟨h.below.os, h.below.tape, h.below.output, h.below.size, h.below.block⟩ }

theorem good_makeSlice (h : Rel w0 E N env hp a w) {t e : TypeId} {x y : Operand} {d b : Nat} {s : Sh} {n c : Int} {v : AV} (hop : o.op = .makeSlice t x y)
    (hu : cx.P.underlying t = some (.slice e)) (hd : NewN hp d) (hs : shapeZ cx.P e = some s) (hb : bytesT cx.P e = some b) (hx : a.eval x = .int .i64 n) (hy : a.eval y = .int .i64 c)
    (h0 : 0 ≤ n) (hnc : n ≤ c) (hroom : roomB b c.toNat = true) (hv : (v = .own d s ∧ n = c) ∨ v = .osl d s 0 n.toNat) :
    Good cx.P o w0 N env hp v [(d, .row s (List.replicate c.toNat s.dflt))] a w := by
  obtain ⟨i, z, hi, hz, hcells, hsz⟩ := shapeZ_spec hs
  obtain ⟨r1, r2⟩ := roomB_spec hroom
  have hbi : i.bytes = b := by simp [bytesT, hi] at hb; exact hb
  have hbytes : (i.bytes : Int) * c ≤ 281474976710656 := by
    have : ((c.toNat * b : Nat) : Int) ≤ 281474976710656 := by omega
    rw [Int.natCast_mul, Int.toNat_of_nonneg (by omega)] at this
    rw [hbi, Int.mul_comm]; exact this
  have hrun := run_make (P := cx.P) w t e i z hu hi hz .i64 .i64 n c h0 hnc hbytes (by omega)
  have hrep := made_rep (E := E) hcells c.toNat
  rw [hsz] at hrun
  have hrow : RepR E (.row s (List.replicate c.toNat s.dflt)) (madeCells z.cells (c.toNat * s.size)).toList := ⟨_, [], by simp, hrep, fun _ h => by cases h⟩
  obtain ⟨E', e1, e2, e3, e4, e5⟩ := h.alloc (T := e) hd hrow (by simp [AV.named])
  refine Good.value (E' := E') (x := .slice (some ⟨w.heap.size, 0, none⟩) n.toNat c.toNat) (w' := { w with heap := w.heap.push (.cells (madeCells z.cells (c.toNat * s.size)) e (0, 0)) }) ?_ e5 ?_ ?_
  · simp only [execOp, hop, Sem.run_bind, hx, hy, hrun, Result.andThen_ok, Sem.run_pure]
    rfl
  · rcases hv with ⟨rfl, rfl⟩ | rfl
    · refine Rep1.of_cells1 rfl ?_
      simp only [RepC]
      refine ⟨_, rfl, .inr ⟨0, n.toNat, ?_, ?_, fun _ => rfl, ?_⟩⟩
      · rw [e1, e3]; simp [AV.rowLen]
      · rw [e3]; simp [AV.rowLen]
      · rw [e2, size_madeCells]
    · refine Rep1.of_cells1 rfl ?_
      simp only [RepC]
      refine ⟨_, rfl, .inr ⟨0, c.toNat, by rw [e1], by omega, fun _ => by simp, ?_⟩⟩
      rw [e2, size_madeCells, Nat.zero_add]
  · rcases hv with ⟨rfl, rfl⟩ | rfl <;> simp [AV.named, updH_same]

/-! ### Literals -/

theorem fillL_sound {E : Emb} {s : Sh} {ea : Operand → AV} {er : Operand → Value} (hev : ∀ x, Rep E (ea x) (er x)) :
    ∀ (ps : List (Nat × Operand)) (l l' : List s.T) (cells : Array Value), partsL s (ps.map fun p => (p.1, ea p.2)) l = some l' → RcL E s l cells.toList →
      ∃ cells', Instr.fill (fun i => some (i * s.size, s.size)) cells (ps.map fun p => (p.1, er p.2)) = some cells' ∧ RcL E s l' cells'.toList
  | [], l, l', cells, h, hr => by
    simp [partsL] at h; subst h
    exact ⟨cells, by simp [Instr.fill], hr⟩
  | (i, x) :: ps, l, l', cells, h, hr => by
    simp only [List.map_cons, partsL] at h
    split at h
    · rename_i t hd
      cases hb : Nat.blt i l.length
      · rw [hb] at h; cases h
      · rw [hb] at h
        simp only [cond_true] at h
        have hi : i < l.length := by simpa using hb
        have hpl : (ea x).plain = true := by
          exact de_plain hd
        have hx := ((Rep.one hpl).1 (hev x)).1
        have hrc := Rc_de hd hx
        have hlen := hrc.length
        obtain ⟨pre, ys, post, e, hp, hy, ht, hdr⟩ := RcL.split i hr hi
        have hcs : (er x).cells.size = s.size := by simpa using hlen
        have hsize : cells.size = (pre ++ ys ++ post).length := by rw [← e]; simp
        have hfit : i * s.size + (er x).cells.size ≤ cells.size := by
          rw [hsize]; simp [hp, hy.length, hcs]
        have hrest : RcL E s (l.set i t) ((er x).cells.zipIdx.foldl (fun (cs : Array Value) (p : Value × Nat) => cs.setIfInBounds (i * s.size + p.2) p.1) cells).toList := by
          rw [fold_cells _ _ _ hfit]
          have e1 : cells.toList.take (i * s.size) = pre := by rw [e, ← hp, List.append_assoc, List.take_left]
          have e2 : cells.toList.drop (i * s.size + (er x).cells.size) = post := by
            rw [e, ← hp, hcs, ← hy.length, ← List.length_append, List.drop_left]
          rw [e1, e2]
          have : l.set i t = l.take i ++ t :: l.drop (i + 1) := by
            rw [List.set_eq_take_append_cons_drop, if_pos hi]
          rw [this]
          have h3 : RcL E s (t :: l.drop (i + 1)) ((er x).cells.toList ++ post) := ⟨_, _, rfl, hrc, hdr⟩
          simpa using ht.append h3
        obtain ⟨cells', h1, h2⟩ := fillL_sound hev ps _ l' _ h hrest
        refine ⟨cells', ?_, h2⟩
        simp only [List.map_cons, Instr.fill]
        rw [if_neg (by simp [hcs]; rw [hcs] at hfit; exact hfit)]
        exact h1
    · cases h

theorem fillV_sound {E : Emb} {P : Program} {t : TypeId} {ok : Nat → Bool} {ea : Operand → AV} {er : Operand → Value} (hev : ∀ x, Rep E (ea x) (er x) ∧ (ea x).named ok = true) :
    ∀ (ps : List (Nat × Operand)) (l l' : List AV) (cells : Array Value), partsV P t (ps.map fun p => (p.1, ea p.2)) l = some l' → AV.ones l = true → RepCs E l cells.toList → AV.nameds ok l = true →
      ∃ cells', Instr.fill (fun i => some (i * 1, 1)) cells (ps.map fun p => (p.1, er p.2)) = some cells' ∧ RepCs E l' cells'.toList ∧ AV.ones l' = true ∧ AV.nameds ok l' = true ∧ l'.length = l.length
  | [], l, l', cells, h, ho, hr, hn => by
    simp [partsV] at h; subst h
    exact ⟨cells, by simp [Instr.fill], hr, ho, hn, rfl⟩
  | (i, x) :: ps, l, l', cells, h, ho, hr, hn => by
    simp only [List.map_cons, partsV] at h
    split at h
    · rename_i hc
      simp only [Bool.and_eq_true, Bool.not_eq_true'] at hc
      obtain ⟨⟨_, hpl⟩, hag⟩ := hc
      cases hb : Nat.blt i l.length
      · rw [hb] at h; cases h
      · rw [hb] at h
        simp only [cond_true] at h
        have hi : i < l.length := by simpa using hb
        have hx := (Rep.one hpl).1 (hev x).1
        have hx1 := hx.cells1 hag
        have hsz := size_scalar hpl hag
        have hcell := hx.2.2 hag
        have ones_sizes : ∀ (l : List AV) (i : Nat), AV.ones l = true → AV.sizes (l.take i) = (l.take i).length := by
          intro l
          induction l with
          | nil => intro i _; simp [AV.sizes]
          | cons v l ih =>
            intro i ho
            cases i with
            | zero => rfl
            | succ i =>
              simp only [AV.ones, Bool.and_eq_true, beq_iff_eq] at ho
              simp only [List.take_succ_cons, AV.sizes, List.length_cons, ih i ho.2, ho.1]
              omega
        have ones_set : ∀ (l : List AV) (i : Nat) (v : AV), AV.ones l = true → v.size = 1 → AV.ones (l.set i v) = true := by
          intro l
          induction l with
          | nil => intro i v _ _; rfl
          | cons u l ih =>
            intro i v ho hv
            simp only [AV.ones, Bool.and_eq_true, beq_iff_eq] at ho
            cases i with
            | zero => simp only [List.set, AV.ones, Bool.and_eq_true, beq_iff_eq]; exact ⟨hv, ho.2⟩
            | succ i => simp only [List.set, AV.ones, Bool.and_eq_true, beq_iff_eq]; exact ⟨ho.1, ih i v ho.2 hv⟩
        obtain ⟨pre, ys, post, e, hp, hy, hset⟩ := RepCs.split i hr (List.getElem?_eq_getElem hi)
        have hpi : pre.length = i := by rw [hp, ones_sizes l i ho]; simp; omega
        have hyl : ys.length = 1 := by
          have := hy.length
          have h1 : ∀ (l : List AV) (i : Nat) (hi : i < l.length), AV.ones l = true → l[i].size = 1 := by
            intro l
            induction l with
            | nil => intro i hi; simp at hi
            | cons v l ih =>
              intro i hi ho
              simp only [AV.ones, Bool.and_eq_true, beq_iff_eq] at ho
              cases i with
              | zero => exact ho.1
              | succ i => exact ih i (by simpa using hi) ho.2
          rw [this, h1 l i hi ho]
        have hsize : cells.size = (pre ++ ys ++ post).length := by rw [← e]; simp
        have hfit : i * 1 + (er x).cells.size ≤ cells.size := by
          rw [hsize, hcell]; simp [hpi, hyl]
        have hrest : RepCs E (l.set i (ea x)) ((er x).cells.zipIdx.foldl (fun (cs : Array Value) (p : Value × Nat) => cs.setIfInBounds (i * 1 + p.2) p.1) cells).toList := by
          rw [fold_cells _ _ _ hfit]
          have e1 : cells.toList.take (i * 1) = pre := by rw [e, Nat.mul_one, ← hpi, List.append_assoc, List.take_left]
          have e2 : cells.toList.drop (i * 1 + (er x).cells.size) = post := by
            have : (er x).cells.size = ys.length := by rw [hcell, hyl]; rfl
            rw [e, this, Nat.mul_one, ← hpi, ← List.length_append, List.drop_left]
          rw [e1, e2]
          have := hset (ea x) (er x).cells.toList hx.1
          simpa using this
        obtain ⟨cells', h1, h2, h3, h4, h5⟩ := fillV_sound hev ps _ l' _ h (ones_set l i _ ho hsz) hrest (AV.nameds_set hn (hev x).2)
        refine ⟨cells', ?_, h2, h3, h4, by rw [h5]; simp⟩
        have hcs : (er x).cells.size = 1 := by rw [hcell]; rfl
        simp only [List.map_cons, Instr.fill]
        rw [if_neg (by simp [hcs]; rw [hcs, Nat.mul_one] at hfit; omega)]
        exact h1
    · cases h

theorem run_buildSlice' {P : Program} (w : World) (t e : TypeId) (len : Nat) (parts : Array (Nat × Value)) (cells : Array Value) (ie : TypeInfo) (z : Value)
    (hu : P.underlying t = some (.slice e)) (hie : P.info? e = some ie) (hz : ie.zero = some z) (hsmall : len * ie.size ≤ 16777216)
    (h : Instr.fill (fun i => some (i * ie.size, ie.size)) (madeCells z.cells (len * ie.size)) parts.toList = some cells) :
    (Instr.buildSlice t len parts).run P w = .ok (.slice (some ⟨w.heap.size, 0, none⟩) len len) (w.alloc (.cells cells e)) := by
  have hs : ¬ len * ie.size > 2 ^ 24 := by omega
  by_cases h0 : len * ie.size = 0
  · have hm : madeCells z.cells 0 = #[] := by simp [madeCells]
    have h' : Instr.fill (fun i => some (i * ie.size, ie.size)) #[] parts.toList = some cells := by
      rw [h0, hm] at h; exact h
    have hm2 : ∀ f : Nat → Value, (Array.range (len * ie.size)).map f = #[] := fun f => by rw [h0]; simp
    simp only [Instr.buildSlice, run_underlying hu, sizeOf, typeInfo, hie, Sem.run_bind, Result.andThen_ok, run_program, Sem.run_pure, hs, if_false, if_pos h0, hm2, h', newRow]
    simp
  · exact run_buildSlice w t e len parts cells ie z hu hie hz hs h0 h

theorem good_buildSlice (h : Rel w0 E N env hp a w) (hc : CxOk cx G) (hG : G w0) {t e : TypeId} {n d : Nat} {parts : Array (Nat × Operand)} {s : Sh} {l : List s.T} (hop : o.op = .buildSlice t n parts)
    (hu : cx.P.underlying t = some (.slice e)) (hd : NewN hp d) (hs : shapeZ cx.P e = some s) (hn : n * s.size ≤ 16777216)
    (hp' : partsL s (parts.toList.map fun p => (p.1, ev cx env e p.2)) (List.replicate n s.dflt) = some l) :
    Good cx.P o w0 N env hp (.own d s) [(d, .row s l)] a w := by
  obtain ⟨i, z, hi, hz, hcells, hsz⟩ := shapeZ_spec hs
  obtain ⟨cells', f1, f2⟩ := fillL_sound (E := E) (er := a.eval) (fun x => (ev_sound hc hG h e x).1) parts.toList _ l _ hp' (made_rep (E := E) hcells n)
  have hlen : l.length = n := by
    have : ∀ (ps : List (Nat × AV)) (l l' : List s.T), partsL s ps l = some l' → l'.length = l.length := by
      intro ps
      induction ps with
      | nil => intro l l' h; simp [partsL] at h; rw [h]
      | cons p ps ih =>
        intro l l' h
        obtain ⟨i, v⟩ := p
        simp only [partsL] at h
        split at h
        · generalize Nat.blt i l.length = b at h
          cases b
          · cases h
          · have := ih _ _ h; simpa using this
        · cases h
    have := this _ _ _ hp'
    simpa using this
  have hrun := run_buildSlice' (P := cx.P) w t e n (parts.map fun p => (p.1, a.eval p.2)) cells' i z hu hi hz (by rw [hsz]; exact hn) (by rw [hsz, Array.toList_map]; exact f1)
  obtain ⟨E', e1, e2, e3, e4, e5⟩ := h.alloc (T := e) (c := .row s l) (xs := cells') hd ⟨_, [], by simp, f2, fun _ h => by cases h⟩ (by simp [AV.named])
  refine Good.value (E' := E') (x := .slice (some ⟨w.heap.size, 0, none⟩) n n) (w' := { w with heap := w.heap.push (.cells cells' e (0, 0)) }) ?_ e5 ?_ (by simp [AV.named, updH_same])
  · simp only [execOp, hop, Sem.run_bind, hrun, Result.andThen_ok, Sem.run_pure]
    rfl
  · refine Rep1.of_cells1 rfl ?_
    simp only [RepC]
    have hcs : cells'.size = n * s.size := by
      have := f2.length
      rw [hlen] at this
      simpa using this
    refine ⟨_, rfl, .inr ⟨0, n, ?_, ?_, fun _ => rfl, by rw [e2, hcs]⟩⟩
    · rw [e1, e3]; simp [AV.rowLen, hlen]
    · rw [e3]; simp [AV.rowLen, hlen]

theorem good_buildSliceV (h : Rel w0 E N env hp a w) (hc : CxOk cx G) (hG : G w0) {t e : TypeId} {n d : Nat} {parts : Array (Nat × Operand)} {s : Sh} {z0 : AV} {l : List AV} (hop : o.op = .buildSlice t n parts)
    (hu : cx.P.underlying t = some (.slice e)) (hd : NewN hp d) (hs : shapeZ cx.P e = some s) (hn : n * s.size ≤ 16777216) (hs1 : s.size = 1) (hz0 : zeroOK cx.P e z0 = true) (hz1 : z0.size = 1)
    (hp' : partsV cx.P e (parts.toList.map fun p => (p.1, ev cx env e p.2)) (List.replicate n z0) = some l) :
    Good cx.P o w0 N env hp (.sl d [] s 0 n n) [(d, .st l)] a w := by
  obtain ⟨i, z, hi, hz, hcells, hsz⟩ := shapeZ_spec hs
  obtain ⟨val, q1, q2, q3, q4⟩ := zeroOK_spec hz0
  have hval : val = z := by
    have := q1 w
    simp [zeroValue, typeInfo, hi, hz] at this
    exact this.symm
  subst hval
  have hzl : val.cells.size = 1 := by
    have := (q2 E).length
    rw [hz1] at this
    simpa using this
  have hones : AV.ones (List.replicate n z0) = true := by
    clear hp' hn
    clear hop
    induction n with
    | zero => rfl
    | succ n ih => simp only [List.replicate_succ, AV.ones, Bool.and_eq_true, beq_iff_eq]; exact ⟨hz1, ih⟩
  have hmade : (madeCells val.cells (n * s.size)).toList = (List.replicate n val.cells.toList).flatten := by
    rw [hs1, Nat.mul_one]
    apply List.ext_getElem?
    intro j
    rcases Nat.lt_or_ge j n with hj | hj
    · rw [flat_get n j (by simp [hzl]; exact hj)]
      simp only [madeCells, Array.toList_map, Array.toList_range, List.getElem?_map, List.getElem?_range hj, Option.map_some, hzl, Array.length_toList]
      have hlt : j % 1 < val.cells.size := by rw [hzl]; exact Nat.mod_lt _ (by decide)
      rw [Array.getElem?_toList, Array.getElem?_eq_getElem hlt]
      congr 1
      exact getElem!_pos val.cells _ hlt
    · rw [List.getElem?_eq_none, List.getElem?_eq_none]
      · simp [hzl]; exact hj
      · simp [madeCells]; exact hj
  have hrep0 : RepCs E (List.replicate n z0) (madeCells val.cells (n * s.size)).toList := by
    rw [hmade]
    clear hp' hn hones hmade hop
    induction n with
    | zero => simp [RepCs]
    | succ n ih =>
      simp only [List.replicate_succ, List.flatten_cons, RepCs]
      exact ⟨_, _, rfl, q2 E, ih⟩
  have hnam0 : AV.nameds (fun n => (hp n).isSome) (List.replicate n z0) = true := by
    clear hp' hn hones hmade hrep0 hop
    induction n with
    | zero => rfl
    | succ n ih => simp only [List.replicate_succ, AV.nameds, Bool.and_eq_true]; exact ⟨q4 _, ih⟩
  obtain ⟨cells', f1, f2, f3, f4, f5⟩ := fillV_sound (E := E) (er := a.eval) (fun x => ev_sound hc hG h e x) parts.toList _ l _ hp' hones hrep0 hnam0
  have hrun := run_buildSlice' (P := cx.P) w t e n (parts.map fun p => (p.1, a.eval p.2)) cells' i val hu hi hz (by rw [hsz]; exact hn) (by rw [hsz, hs1, Array.toList_map]; rw [hs1] at f1; exact f1)
  obtain ⟨E', e1, e2, e3, e4, e5⟩ := h.alloc (T := e) (c := .st l) (xs := cells') hd (RepR.of (by simp only [RepC]; exact f2)) (by simp only [AV.named]; exact f4)
  refine Good.value (E' := E') (x := .slice (some ⟨w.heap.size, 0, none⟩) n n) (w' := { w with heap := w.heap.push (.cells cells' e (0, 0)) }) ?_ e5 ?_ (by simp [AV.named, updH_same])
  · simp only [execOp, hop, Sem.run_bind, hrun, Result.andThen_ok, Sem.run_pure]
    rfl
  · refine Rep1.of_cells1 rfl ?_
    simp only [RepC]
    exact ⟨Nat.le_refl _, 0, by rw [e1], fun _ => by simp [offs]⟩
end
end Go.Sy
