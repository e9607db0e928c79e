/- What an operation does in the model is what the symbolic reading says: slices that are made. -/
import Derived.Test.YtapnedegcnmhgaaDoorSyKc
import Derived.Laws.MakeOwn
import Derived.Great.BuildSlice
import Derived.Deep.Upon
import Derived.Lib.ConvBytes
import Derived.Laws.BytesString
set_option linter.unusedVariables false
set_option linter.unusedSimpArgs false
namespace Go.Sy
open Go Go.RowKit
mutual
theorem DV.lits_rep (E : Emb) : ∀ {v : DV} {xs : List Value}, v.lits = some xs → RcD E v.toD xs
 | .int .., xs, h => by simp only [DV.lits, Option.some.injEq] at h; subst h; simp [DV.toD, RcD]
 | .bool _, xs, h => by simp only [DV.lits, Option.some.injEq] at h; subst h; simp [DV.toD, RcD]
 | .u256 _, xs, h => by simp only [DV.lits, Option.some.injEq] at h; subst h; simp [DV.toD, RcD, ucells]
 | .str [], xs, h => by simp only [DV.lits, Option.some.injEq] at h; subst h; simp [DV.toD, RcD]
 | .ints _ [], xs, h => by simp only [DV.lits, Option.some.injEq] at h; subst h; exact ⟨_, rfl, none, 0, rfl, Nat.le_refl _, Nat.le_refl _, rfl⟩
 | .wints _ [] 0, xs, h => by simp only [DV.lits, Option.some.injEq] at h; subst h; exact ⟨_, rfl, none, 0, rfl, Nat.le_refl _, Nat.le_refl _, rfl⟩
 | .sl _ [], xs, h => by simp only [DV.lits, Option.some.injEq] at h; subst h; exact ⟨_, [], rfl, rfl, none, 0, rfl, Nat.le_refl _, Nat.le_refl _, rfl⟩
 | .wsl _ [] 0, xs, h => by simp only [DV.lits, Option.some.injEq] at h; subst h; exact ⟨_, [], rfl, rfl, none, 0, rfl, Nat.le_refl _, Nat.le_refl _, rfl⟩
 | .ptr false _, xs, h => by simp only [DV.lits, Option.some.injEq] at h; subst h; exact .inl ⟨rfl, rfl⟩
 | .st l, xs, h => by simp only [DV.lits] at h; simp only [DV.toD, RcD]; exact DV.litss_rep E h
 | .str (_ :: _), _, h | .ints _ (_ :: _), _, h | .wints _ (_ :: _) _, _, h | .wints _ [] (_ + 1), _, h | .sl _ (_ :: _), _, h | .wsl _ (_ :: _) _, _, h | .wsl _ [] (_ + 1), _, h | .ptr true _, _, h => by simp [DV.lits] at h
theorem DV.litss_rep (E : Emb) : ∀ {l : List DV} {xs : List Value}, DV.litss l = some xs → RcDs E (DV.toDs l) xs
 | [], xs, h => by simp only [DV.litss, Option.some.injEq] at h; subst h; simp [DV.toDs, RcDs]
 | v :: l, xs, h => by
  simp only [DV.litss] at h
  obtain ⟨a, h1, h2⟩ := Option.bind_eq_some_iff.1 h
  obtain ⟨b, h3, h4⟩ := Option.bind_eq_some_iff.1 h2
  cases h4
  simp only [DV.toDs, RcDs]
  exact ⟨a, b, rfl, DV.lits_rep E h1, DV.litss_rep E h3⟩
end
theorem DSh.lits_dflt (i : DSh) : ∃ xs, (i.view i.dflt).lits = some xs := by cases i <;> exact ⟨_, rfl⟩
theorem toDV_plain {v : AV} {d : DV} (h : v.toDV = some d) : v.plain = true := by
 cases v <;> first | rfl | (simp [AV.toDV] at h)
theorem de_plain {s : Sh} {v : AV} {t : s.T} (h : s.de v = some t) : v.plain = true := by
 cases s with
 | d i =>
  cases v with
  | el => rfl
  | _ =>
   simp only [Sh.de] at h
   obtain ⟨d, h1, _⟩ := Option.bind_eq_some_iff.1 h
   exact toDV_plain h1
 | _ => cases v <;> simp [Sh.de] at h <;> rfl
theorem Sh.dflt_rep (E : Emb) (s : Sh) : Rc E s s.dflt s.dfltCells := by
 cases s
 case bytes => exact ⟨_, rfl, none, 0, 0, rfl, rfl, Nat.le_refl _, rfl⟩
 case d i =>
  obtain ⟨xs, h⟩ := i.lits_dflt
  have := DV.lits_rep E h
  simp only [Rc, Sh.dflt, Sh.dfltCells, h, Option.getD_some]
  rw [i.view_toD] at this
  exact this
 all_goals rfl
theorem shapeZ_spec {P : Program} {t : TypeId} {s : Sh} (h : shapeZ P t = some s) : ∃ i v, P.info? t = some i ∧ i.zero = some v ∧ v.cells.toList = s.dfltCells ∧ i.size = s.size := by
 unfold shapeZ at h
 split at h
 ·rename_i s' v n h1 h2 h3
  split at h
  ·rename_i hc
   simp at h; subst h
   simp only [Bool.and_eq_true] at hc
   obtain ⟨i, hi, hz⟩ := Option.bind_eq_some_iff.1 h2
   refine ⟨i, v, hi, hz, sameCells_eq hc.1, ?_⟩
   have := Nat.eq_of_beq_eq_true hc.2
   rw [← this]
   simpa [sizeT, hi] using h3
  ·cases h
 ·cases h
theorem dfltCells_len (s : Sh) : s.dfltCells.length = s.size := by
 cases s with
 | d i => cases i <;> rfl
 | _ => rfl
theorem RcL.replicate {E : Emb} {s : Sh} {t : s.T} {z : List Value} (h : Rc E s t z) : ∀ n, RcL E s (List.replicate n t) (List.replicate n z).flatten
 | 0 => rfl
 | n + 1 => by
  simp only [List.replicate_succ, List.flatten_cons]
  exact ⟨z, _, rfl, h, RcL.replicate h n⟩
theorem flat_get {z : List Value} : ∀ (n i : Nat), i < n * z.length → (List.replicate n z).flatten[i]? = z[i % z.length]?
 | 0, i, h => by omega
 | n + 1, i, h => by
  simp only [List.replicate_succ, List.flatten_cons]
  rw [Nat.add_mul, Nat.one_mul] at h
  rcases Nat.lt_or_ge i z.length with hi | hi
  ·rw [List.getElem?_append_left hi, Nat.mod_eq_of_lt hi]
  ·rw [List.getElem?_append_right hi, flat_get n _ (by omega), ← Nat.mod_eq_sub_mod hi]
theorem made_rep {E : Emb} {s : Sh} {z : Array Value} (hz : z.toList = s.dfltCells) (n : Nat) : RcL E s (List.replicate n s.dflt) (madeCells z (n * s.size)).toList := by
 have h := RcL.replicate (Sh.dflt_rep E s) n
 have hl : z.size = s.size := by
  have := congrArg List.length hz
  rw [dfltCells_len] at this
  simpa using this
 have e : (madeCells z (n * s.size)).toList = (List.replicate n s.dfltCells).flatten := by
  apply List.ext_getElem?
  intro i
  rcases Nat.lt_or_ge i (n * s.size) with hi | hi
  ·rw [flat_get n i (by rw [dfltCells_len]; exact hi), dfltCells_len, ← hz]
   simp only [madeCells, Array.toList_map, Array.toList_range, List.getElem?_map, List.getElem?_range hi, Option.map_some]
   have hs := Sh.size_pos s
   have hlt : i % z.size < z.size := Nat.mod_lt _ (by omega)
   rw [← hl]
   rw [Array.getElem?_toList, Array.getElem?_eq_getElem hlt]
   congr 1
   exact getElem!_pos z _ hlt
  ·rw [List.getElem?_eq_none, List.getElem?_eq_none]
   ·simp [dfltCells_len]; exact hi
   ·simp [madeCells]; exact hi
 rw [e]; exact h
theorem roomB_spec {b n : Nat} (h : roomB b n = true) : n ≤ 140737488355328 ∧ n * b ≤ 140737488355328 := by
 simp only [roomB, Bool.and_eq_true] at h
 exact ⟨Nat.le_of_ble_eq_true h.1, Nat.le_of_ble_eq_true h.2⟩
section
variable {cx : Cx} {G : Ini → Prop} {w0 : Ini} {E : Emb} {N : Nat} {env hp : Nat → Option AV} {a : Act} {w : World} {o : Oper}
theorem Rel.drewn (h : Rel w0 E N env hp a w) : Rel w0 E N env hp a w.drew :=
 { h with rheap := h.rheap, imm := h.imm, below := ⟨h.below.os, h.below.tape, h.below.output, h.below.size, h.below.block⟩ }
theorem good_makeSlice (h : Rel w0 E N env hp a w) {t e : TypeId} {x y : Operand} {d b : Nat} {s : Sh} {n c : Int} {v : AV} (hop : o.op = .makeSlice t x y)
  (hu : cx.P.underlying t = some (.slice e)) (hd : NewN hp d) (hs : shapeZ cx.P e = some s) (hb : bytesT cx.P e = some b) (hx : a.eval x = .int .i64 n) (hy : a.eval y = .int .i64 c)
  (h0 : 0 ≤ n) (hnc : n ≤ c) (hroom : roomB b c.toNat = true) (hv : (v = .own d s ∧ n = c) ∨ v = .osl d s 0 n.toNat) :
  Good cx.P o w0 N env hp v [(d, .row s (List.replicate c.toNat s.dflt))] a w := by
 obtain ⟨i, z, hi, hz, hcells, hsz⟩ := shapeZ_spec hs
 obtain ⟨r1, r2⟩ := roomB_spec hroom
 have hbi : i.bytes = b := by simp [bytesT, hi] at hb; exact hb
 have hbytes : (i.bytes : Int) * c ≤ 281474976710656 := by
  have : ((c.toNat * b : Nat) : Int) ≤ 281474976710656 := by omega
  rw [Int.natCast_mul, Int.toNat_of_nonneg (by omega)] at this
  rw [hbi, Int.mul_comm]; exact this
 have hrun := run_make (P := cx.P) w t e i z hu hi hz .i64 .i64 n c h0 hnc hbytes (by omega)
 have hrep := made_rep (E := E) hcells c.toNat
 rw [hsz] at hrun
 have hrow : RepR E (.row s (List.replicate c.toNat s.dflt)) (madeCells z.cells (c.toNat * s.size)).toList := ⟨_, [], by simp, hrep, fun _ h => by cases h⟩
 obtain ⟨E', e1, e2, e3, e4, e5⟩ := h.alloc (T := e) hd hrow (by simp [AV.named])
 refine Good.value (E' := E') (x := .slice (some ⟨w.heap.size, 0, none⟩) n.toNat c.toNat) (w' := { w with heap := w.heap.push (.cells (madeCells z.cells (c.toNat * s.size)) e (0, 0)) }) ?_ e5 ?_ ?_
 ·simp only [execOp, hop, Sem.run_bind, hx, hy, hrun, Result.andThen_ok, Sem.run_pure]
  rfl
 ·rcases hv with ⟨rfl, rfl⟩ | rfl
  ·refine Rep1.of_cells1 rfl ?_
   simp only [RepC]
   refine ⟨_, rfl, .inr ⟨0, n.toNat, ?_, ?_, fun _ => rfl, ?_⟩⟩
   ·rw [e1, e3]; simp [AV.rowLen]
   ·rw [e3]; simp [AV.rowLen]
   ·rw [e2, size_madeCells]
  ·refine Rep1.of_cells1 rfl ?_
   simp only [RepC]
   refine ⟨_, rfl, .inr ⟨0, c.toNat, by rw [e1], by omega, fun _ => by simp, ?_⟩⟩
   rw [e2, size_madeCells, Nat.zero_add]
 ·rcases hv with ⟨rfl, rfl⟩ | rfl <;> simp [AV.named, updH_same]
theorem fillL_sound {E : Emb} {s : Sh} {ea : Operand → AV} {er : Operand → Value} (hev : ∀ x, Rep E (ea x) (er x)) :
  ∀ (ps : List (Nat × Operand)) (l l' : List s.T) (cells : Array Value), partsL s (ps.map fun p => (p.1, ea p.2)) l = some l' → RcL E s l cells.toList →
   ∃ cells', Instr.fill (fun i => some (i * s.size, s.size)) cells (ps.map fun p => (p.1, er p.2)) = some cells' ∧ RcL E s l' cells'.toList
 | [], l, l', cells, h, hr => by
  simp [partsL] at h; subst h
  exact ⟨cells, by simp [Instr.fill], hr⟩
 | (i, x) :: ps, l, l', cells, h, hr => by
  simp only [List.map_cons, partsL] at h
  split at h
  ·rename_i t hd
   cases hb : Nat.blt i l.length
   ·rw [hb] at h; cases h
   ·rw [hb] at h
    simp only [cond_true] at h
    have hi : i < l.length := by simpa using hb
    have hpl : (ea x).plain = true := by
     exact de_plain hd
    have hx := ((Rep.one hpl).1 (hev x)).1
    have hrc := Rc_de hd hx
    have hlen := hrc.length
    obtain ⟨pre, ys, post, e, hp, hy, ht, hdr⟩ := RcL.split i hr hi
    have hcs : (er x).cells.size = s.size := by simpa using hlen
    have hsize : cells.size = (pre ++ ys ++ post).length := by rw [← e]; simp
    have hfit : i * s.size + (er x).cells.size ≤ cells.size := by
     rw [hsize]; simp [hp, hy.length, hcs]
    have hrest : RcL E s (l.set i t) ((er x).cells.zipIdx.foldl (fun (cs : Array Value) (p : Value × Nat) => cs.setIfInBounds (i * s.size + p.2) p.1) cells).toList := by
     rw [fold_cells _ _ _ hfit]
     have e1 : cells.toList.take (i * s.size) = pre := by rw [e, ← hp, List.append_assoc, List.take_left]
     have e2 : cells.toList.drop (i * s.size + (er x).cells.size) = post := by
      rw [e, ← hp, hcs, ← hy.length, ← List.length_append, List.drop_left]
     rw [e1, e2]
     have : l.set i t = l.take i ++ t :: l.drop (i + 1) := by
      rw [List.set_eq_take_append_cons_drop, if_pos hi]
     rw [this]
     have h3 : RcL E s (t :: l.drop (i + 1)) ((er x).cells.toList ++ post) := ⟨_, _, rfl, hrc, hdr⟩
     simpa using ht.append h3
    obtain ⟨cells', h1, h2⟩ := fillL_sound hev ps _ l' _ h hrest
    refine ⟨cells', ?_, h2⟩
    simp only [List.map_cons, Instr.fill]
    rw [if_neg (by simp [hcs]; rw [hcs] at hfit; exact hfit)]
    exact h1
  ·cases h
theorem fillV_sound {E : Emb} {P : Program} {t : TypeId} {ok : Nat → Bool} {ea : Operand → AV} {er : Operand → Value} (hev : ∀ x, Rep E (ea x) (er x) ∧ (ea x).named ok = true) :
  ∀ (ps : List (Nat × Operand)) (l l' : List AV) (cells : Array Value), partsV P t (ps.map fun p => (p.1, ea p.2)) l = some l' → AV.ones l = true → RepCs E l cells.toList → AV.nameds ok l = true →
   ∃ cells', Instr.fill (fun i => some (i * 1, 1)) cells (ps.map fun p => (p.1, er p.2)) = some cells' ∧ RepCs E l' cells'.toList ∧ AV.ones l' = true ∧ AV.nameds ok l' = true ∧ l'.length = l.length
 | [], l, l', cells, h, ho, hr, hn => by
  simp [partsV] at h; subst h
  exact ⟨cells, by simp [Instr.fill], hr, ho, hn, rfl⟩
 | (i, x) :: ps, l, l', cells, h, ho, hr, hn => by
  simp only [List.map_cons, partsV] at h
  split at h
  ·rename_i hc
   simp only [Bool.and_eq_true, Bool.not_eq_true'] at hc
   obtain ⟨⟨_, hpl⟩, hag⟩ := hc
   cases hb : Nat.blt i l.length
   ·rw [hb] at h; cases h
   ·rw [hb] at h
    simp only [cond_true] at h
    have hi : i < l.length := by simpa using hb
    have hx := (Rep.one hpl).1 (hev x).1
    have hx1 := hx.cells1 hag
    have hsz := size_scalar hpl hag
    have hcell := hx.2.2 hag
    have ones_sizes : ∀ (l : List AV) (i : Nat), AV.ones l = true → AV.sizes (l.take i) = (l.take i).length := by
     intro l
     induction l with
     | nil => intro i _; simp [AV.sizes]
     | cons v l ih =>
      intro i ho
      cases i with
      | zero => rfl
      | succ i =>
       simp only [AV.ones, Bool.and_eq_true, beq_iff_eq] at ho
       simp only [List.take_succ_cons, AV.sizes, List.length_cons, ih i ho.2, ho.1]
       omega
    have ones_set : ∀ (l : List AV) (i : Nat) (v : AV), AV.ones l = true → v.size = 1 → AV.ones (l.set i v) = true := by
     intro l
     induction l with
     | nil => intro i v _ _; rfl
     | cons u l ih =>
      intro i v ho hv
      simp only [AV.ones, Bool.and_eq_true, beq_iff_eq] at ho
      cases i with
      | zero => simp only [List.set, AV.ones, Bool.and_eq_true, beq_iff_eq]; exact ⟨hv, ho.2⟩
      | succ i => simp only [List.set, AV.ones, Bool.and_eq_true, beq_iff_eq]; exact ⟨ho.1, ih i v ho.2 hv⟩
    obtain ⟨pre, ys, post, e, hp, hy, hset⟩ := RepCs.split i hr (List.getElem?_eq_getElem hi)
    have hpi : pre.length = i := by rw [hp, ones_sizes l i ho]; simp; omega
    have hyl : ys.length = 1 := by
     have := hy.length
     have h1 : ∀ (l : List AV) (i : Nat) (hi : i < l.length), AV.ones l = true → l[i].size = 1 := by
      intro l
      induction l with
      | nil => intro i hi; simp at hi
      | cons v l ih =>
       intro i hi ho
       simp only [AV.ones, Bool.and_eq_true, beq_iff_eq] at ho
       cases i with
       | zero => exact ho.1
       | succ i => exact ih i (by simpa using hi) ho.2
     rw [this, h1 l i hi ho]
    have hsize : cells.size = (pre ++ ys ++ post).length := by rw [← e]; simp
    have hfit : i * 1 + (er x).cells.size ≤ cells.size := by
     rw [hsize, hcell]; simp [hpi, hyl]
    have hrest : RepCs E (l.set i (ea x)) ((er x).cells.zipIdx.foldl (fun (cs : Array Value) (p : Value × Nat) => cs.setIfInBounds (i * 1 + p.2) p.1) cells).toList := by
     rw [fold_cells _ _ _ hfit]
     have e1 : cells.toList.take (i * 1) = pre := by rw [e, Nat.mul_one, ← hpi, List.append_assoc, List.take_left]
     have e2 : cells.toList.drop (i * 1 + (er x).cells.size) = post := by
      have : (er x).cells.size = ys.length := by rw [hcell, hyl]; rfl
      rw [e, this, Nat.mul_one, ← hpi, ← List.length_append, List.drop_left]
     rw [e1, e2]
     have := hset (ea x) (er x).cells.toList hx.1
     simpa using this
    obtain ⟨cells', h1, h2, h3, h4, h5⟩ := fillV_sound hev ps _ l' _ h (ones_set l i _ ho hsz) hrest (AV.nameds_set hn (hev x).2)
    refine ⟨cells', ?_, h2, h3, h4, by rw [h5]; simp⟩
    have hcs : (er x).cells.size = 1 := by rw [hcell]; rfl
    simp only [List.map_cons, Instr.fill]
    rw [if_neg (by simp [hcs]; rw [hcs, Nat.mul_one] at hfit; omega)]
    exact h1
  ·cases h
theorem run_buildSlice' {P : Program} (w : World) (t e : TypeId) (len : Nat) (parts : Array (Nat × Value)) (cells : Array Value) (ie : TypeInfo) (z : Value)
  (hu : P.underlying t = some (.slice e)) (hie : P.info? e = some ie) (hz : ie.zero = some z) (hsmall : len * ie.size ≤ 16777216)
  (h : Instr.fill (fun i => some (i * ie.size, ie.size)) (madeCells z.cells (len * ie.size)) parts.toList = some cells) :
  (Instr.buildSlice t len parts).run P w = .ok (.slice (some ⟨w.heap.size, 0, none⟩) len len) (w.alloc (.cells cells e)) := by
 have hs : ¬ len * ie.size > 2 ^ 24 := by omega
 by_cases h0 : len * ie.size = 0
 ·have hm : madeCells z.cells 0 = #[] := by simp [madeCells]
  have h' : Instr.fill (fun i => some (i * ie.size, ie.size)) #[] parts.toList = some cells := by
   rw [h0, hm] at h; exact h
  have hm2 : ∀ f : Nat → Value, (Array.range (len * ie.size)).map f = #[] := fun f => by rw [h0]; simp
  simp only [Instr.buildSlice, run_underlying hu, sizeOf, typeInfo, hie, Sem.run_bind, Result.andThen_ok, run_program, Sem.run_pure, hs, if_false, if_pos h0, hm2, h', newRow]
  simp
 ·exact run_buildSlice w t e len parts cells ie z hu hie hz hs h0 h
theorem good_buildSlice (h : Rel w0 E N env hp a w) (hc : CxOk cx G) (hG : G w0) {t e : TypeId} {n d : Nat} {parts : Array (Nat × Operand)} {s : Sh} {l : List s.T} (hop : o.op = .buildSlice t n parts)
  (hu : cx.P.underlying t = some (.slice e)) (hd : NewN hp d) (hs : shapeZ cx.P e = some s) (hn : n * s.size ≤ 16777216)
  (hp' : partsL s (parts.toList.map fun p => (p.1, ev cx env e p.2)) (List.replicate n s.dflt) = some l) :
  Good cx.P o w0 N env hp (.own d s) [(d, .row s l)] a w := by
 obtain ⟨i, z, hi, hz, hcells, hsz⟩ := shapeZ_spec hs
 obtain ⟨cells', f1, f2⟩ := fillL_sound (E := E) (er := a.eval) (fun x => (ev_sound hc hG h e x).1) parts.toList _ l _ hp' (made_rep (E := E) hcells n)
 have hlen : l.length = n := by
  have : ∀ (ps : List (Nat × AV)) (l l' : List s.T), partsL s ps l = some l' → l'.length = l.length := by
   intro ps
   induction ps with
   | nil => intro l l' h; simp [partsL] at h; rw [h]
   | cons p ps ih =>
    intro l l' h
    obtain ⟨i, v⟩ := p
    simp only [partsL] at h
    split at h
    ·generalize Nat.blt i l.length = b at h
     cases b
     ·cases h
     ·have := ih _ _ h; simpa using this
    ·cases h
  have := this _ _ _ hp'
  simpa using this
 have hrun := run_buildSlice' (P := cx.P) w t e n (parts.map fun p => (p.1, a.eval p.2)) cells' i z hu hi hz (by rw [hsz]; exact hn) (by rw [hsz, Array.toList_map]; exact f1)
 obtain ⟨E', e1, e2, e3, e4, e5⟩ := h.alloc (T := e) (c := .row s l) (xs := cells') hd ⟨_, [], by simp, f2, fun _ h => by cases h⟩ (by simp [AV.named])
 refine Good.value (E' := E') (x := .slice (some ⟨w.heap.size, 0, none⟩) n n) (w' := { w with heap := w.heap.push (.cells cells' e (0, 0)) }) ?_ e5 ?_ (by simp [AV.named, updH_same])
 ·simp only [execOp, hop, Sem.run_bind, hrun, Result.andThen_ok, Sem.run_pure]
  rfl
 ·refine Rep1.of_cells1 rfl ?_
  simp only [RepC]
  have hcs : cells'.size = n * s.size := by
   have := f2.length
   rw [hlen] at this
   simpa using this
  refine ⟨_, rfl, .inr ⟨0, n, ?_, ?_, fun _ => rfl, by rw [e2, hcs]⟩⟩
  ·rw [e1, e3]; simp [AV.rowLen, hlen]
  ·rw [e3]; simp [AV.rowLen, hlen]
theorem good_buildSliceV (h : Rel w0 E N env hp a w) (hc : CxOk cx G) (hG : G w0) {t e : TypeId} {n d : Nat} {parts : Array (Nat × Operand)} {s : Sh} {z0 : AV} {l : List AV} (hop : o.op = .buildSlice t n parts)
  (hu : cx.P.underlying t = some (.slice e)) (hd : NewN hp d) (hs : shapeZ cx.P e = some s) (hn : n * s.size ≤ 16777216) (hs1 : s.size = 1) (hz0 : zeroOK cx.P e z0 = true) (hz1 : z0.size = 1)
  (hp' : partsV cx.P e (parts.toList.map fun p => (p.1, ev cx env e p.2)) (List.replicate n z0) = some l) :
  Good cx.P o w0 N env hp (.sl d [] s 0 n n) [(d, .st l)] a w := by
 obtain ⟨i, z, hi, hz, hcells, hsz⟩ := shapeZ_spec hs
 obtain ⟨val, q1, q2, q3, q4⟩ := zeroOK_spec hz0
 have hval : val = z := by
  have := q1 w
  simp [zeroValue, typeInfo, hi, hz] at this
  exact this.symm
 subst hval
 have hzl : val.cells.size = 1 := by
  have := (q2 E).length
  rw [hz1] at this
  simpa using this
 have hones : AV.ones (List.replicate n z0) = true := by
  clear hp' hn
  clear hop
  induction n with
  | zero => rfl
  | succ n ih => simp only [List.replicate_succ, AV.ones, Bool.and_eq_true, beq_iff_eq]; exact ⟨hz1, ih⟩
 have hmade : (madeCells val.cells (n * s.size)).toList = (List.replicate n val.cells.toList).flatten := by
  rw [hs1, Nat.mul_one]
  apply List.ext_getElem?
  intro j
  rcases Nat.lt_or_ge j n with hj | hj
  ·rw [flat_get n j (by simp [hzl]; exact hj)]
   simp only [madeCells, Array.toList_map, Array.toList_range, List.getElem?_map, List.getElem?_range hj, Option.map_some, hzl, Array.length_toList]
   have hlt : j % 1 < val.cells.size := by rw [hzl]; exact Nat.mod_lt _ (by decide)
   rw [Array.getElem?_toList, Array.getElem?_eq_getElem hlt]
   congr 1
   exact getElem!_pos val.cells _ hlt
  ·rw [List.getElem?_eq_none, List.getElem?_eq_none]
   ·simp [hzl]; exact hj
   ·simp [madeCells]; exact hj
 have hrep0 : RepCs E (List.replicate n z0) (madeCells val.cells (n * s.size)).toList := by
  rw [hmade]
  clear hp' hn hones hmade hop
  induction n with
  | zero => simp [RepCs]
  | succ n ih =>
   simp only [List.replicate_succ, List.flatten_cons, RepCs]
   exact ⟨_, _, rfl, q2 E, ih⟩
 have hnam0 : AV.nameds (fun n => (hp n).isSome) (List.replicate n z0) = true := by
  clear hp' hn hones hmade hrep0 hop
  induction n with
  | zero => rfl
  | succ n ih => simp only [List.replicate_succ, AV.nameds, Bool.and_eq_true]; exact ⟨q4 _, ih⟩
 obtain ⟨cells', f1, f2, f3, f4, f5⟩ := fillV_sound (E := E) (er := a.eval) (fun x => ev_sound hc hG h e x) parts.toList _ l _ hp' hones hrep0 hnam0
 have hrun := run_buildSlice' (P := cx.P) w t e n (parts.map fun p => (p.1, a.eval p.2)) cells' i val hu hi hz (by rw [hsz]; exact hn) (by rw [hsz, hs1, Array.toList_map]; rw [hs1] at f1; exact f1)
 obtain ⟨E', e1, e2, e3, e4, e5⟩ := h.alloc (T := e) (c := .st l) (xs := cells') hd (RepR.of (by simp only [RepC]; exact f2)) (by simp only [AV.named]; exact f4)
 refine Good.value (E' := E') (x := .slice (some ⟨w.heap.size, 0, none⟩) n n) (w' := { w with heap := w.heap.push (.cells cells' e (0, 0)) }) ?_ e5 ?_ (by simp [AV.named, updH_same])
 ·simp only [execOp, hop, Sem.run_bind, hrun, Result.andThen_ok, Sem.run_pure]
  rfl
 ·refine Rep1.of_cells1 rfl ?_
  simp only [RepC]
  exact ⟨Nat.le_refl _, 0, by rw [e1], fun _ => by simp [offs]⟩
end
end Go.Sy
set_option linter.unusedVariables false
set_option linter.unusedSimpArgs false
namespace Go.Sy
open Go Go.RowKit
theorem castL_eq {s s' : Sh} {l : List s'.T} {l' : List s.T} (h : castL s s' l = some l') : ∃ e : s = s', l = e ▸ l' := by
 unfold castL at h
 split at h
 ·split at h
  ·rename_i e; subst e; simp at h; exact ⟨rfl, h⟩
  ·cases h
 case h_7 i j l =>
  unfold castD at h
  split at h
  all_goals first | (simp at h; exact ⟨rfl, h⟩) | cases h
 all_goals first | (simp at h; exact ⟨rfl, h⟩) | cases h
theorem updH_self {hp : Nat → Option AV} {n : Nat} {c : AV} (h : hp n = some c) : updH hp [(n, c)] = hp := by
 funext m
 by_cases e : m = n
 ·subst e; rw [updH_same, h]
 ·rw [updH_other e]
section
variable {cx : Cx} {G : Ini → Prop} {w0 : Ini} {E : Emb} {N : Nat} {env hp : Nat → Option AV} {a : Act} {w : World} {o : Oper}
theorem shown_src {P : Program} {tx e' : TypeId} (hk : P.underlying tx = some (.slice e')) {hp' : Nat → Option AV} {s : Sh} {l : List s.T} {x : Value} (h : Shown E hp' w s l x) :
  ∃ ys, RcL E s l ys ∧ Src P s.size tx x l.length ys w ∧ ∀ n, (Builtin.firstCells s.size (min l.length n) x).run P w = .ok (ys.take (n * s.size)).toArray w := by
 obtain ⟨ad, len, cap, ys, rfl, h2, h3, h4, h5, h6⟩ := h.ex
 have hl := h5.length
 refine ⟨ys, h5, ?_, fun n => ?_⟩
 ·cases ad with
  | none =>
   have := h4 rfl
   have h0 : len = 0 := by omega
   subst h0
   have hy : ys = [] := by rw [← h2] at hl; simpa using hl
   subst hy
   rw [← h2]
   exact Src.ofNil w hk _
  | some ad =>
   subst h2
   rcases h6 with h6 | ⟨g, off, e, h7, _⟩
   ·subst h6
    exact Src.ofSlice w hk _ _ _ [] hl (fun j u hu => by simp at hu) (fun u hu => by cases hu)
   ·cases e
    refine Src.ofSlice w hk _ _ _ ys hl (fun j u hu => ?_) h5.oneCell
    obtain ⟨c, T, fz, k1, k2⟩ := cellOf_of (h7 j u hu)
    rw [cell_at k1]; exact k2
 ·have htl : (ys.take (n * s.size)).length = min l.length n * s.size := by
   rw [List.length_take, hl, Nat.min_comm]
   rcases Nat.le_total l.length n with hh | hh
   ·rw [Nat.min_eq_left hh, Nat.min_eq_left (Nat.mul_le_mul_right _ hh)]
   ·rw [Nat.min_eq_right hh, Nat.min_eq_right (Nat.mul_le_mul_right _ hh)]
  cases ad with
  | none =>
   have := h4 rfl
   have h0 : len = 0 := by omega
   have hy : ys = [] := by rw [← h2, h0] at hl; simpa using hl
   subst hy
   simp [Builtin.firstCells]
  | some ad =>
   refine run_firstCells_some w _ _ _ _ _ _ htl (fun j v hv => ?_)
   rcases h6 with h6 | ⟨g, off, e, h7, _⟩
   ·subst h6; simp at hv
   ·cases e
    have hv' : ys[j]? = some v := by
     simp only [List.getElem?_take] at hv
     split at hv
     ·exact hv
     ·cases hv
    obtain ⟨c, T, fz, k1, k2⟩ := cellOf_of (h7 j v hv')
    rw [cell_at k1]; exact k2
theorem row_slice (h : Rel w0 E N env hp a w) {n i len : Nat} {s s' : Sh} {l : List s'.T} {v : AV} {x : Value} (hm : hp n = some (.row s' l)) (hv : (v = .own n s ∧ i = 0 ∧ len = l.length) ∨ v = .osl n s i len) (hx : Rep E v x) :
  (len = 0 ∧ l = [] ∧ x = .slice none 0 0 ∧ E.cnt n = none) ∨ ∃ off cap, x = .slice (some ⟨E.ρ n, off, none⟩) len cap ∧ len ≤ cap ∧ (0 < cap → off = i * s.size) ∧ E.cnt n = some ((i + cap) * s.size) := by
 rcases hv with ⟨rfl, rfl, rfl⟩ | rfl
 ·rcases own_inv h hm hx with ⟨h1, h2, h3⟩ | ⟨off, cap, h1, h2, h3, h4⟩
  ·exact .inl ⟨by simp [h1], h1, h3, h2⟩
  ·exact .inr ⟨off, cap, h1, h2, fun hc => by rw [h3 hc]; simp, by rw [h4]; simp⟩
 ·rcases osl_inv (E := E) (m := n) (i0 := i) (len := len) (s := s) hx with ⟨h1, h2, h3⟩ | h1
  ·obtain ⟨_, ⟨_, s1, hs⟩ | ⟨xs, T, h4, _⟩⟩ := h.rheap n _ hm rfl
   ·cases hs; exact .inl ⟨h2, rfl, h3, h1⟩
   ·rw [h1] at h4; cases h4
  ·exact .inr h1
theorem splice_rep {s : Sh} {l ys : List s.T} {lc yc : List Value} (hl : RcL E s l lc) (hy : RcL E s ys yc) (i : Nat) (hi : i + ys.length ≤ l.length) :
  RcL E s (spliceL l i ys) (lc.take (i * s.size) ++ yc ++ lc.drop (i * s.size + yc.length)) := by
 have h1 := (RcL.take_drop i hl).1
 have h2 := (RcL.take_drop (i + ys.length) hl).2
 have : (i + ys.length) * s.size = i * s.size + yc.length := by rw [Nat.add_mul, hy.length]
 rw [this] at h2
 exact (h1.append hy).append h2
theorem good_copy_row (h : Rel w0 E N env hp a w) {c : Call} {v1 v2 : AV} {e : TypeId} {T1 : TypeId} {x y : Operand} {n i len : Nat} {s s2 : Sh} {l ys : List s2.T} {q : SL} (hfr : froN n = false) (hop : o.op = .call c) (hcal : c.callee = .builtin .copy)
  (hargs : c.args = #[x, y]) (ht : c.argTypes[0]? = some T1) (hu : cx.P.underlying T1 = some (.slice e)) (hsz : sizeT cx.P e = some s.size)
  (hd : Rep E v1 (a.eval x)) (hs : Rep E v2 (a.eval y)) (hq : listF0 hp v2 = some q) (hv : (v1 = .own n s ∧ i = 0 ∧ len = l.length) ∨ v1 = .osl n s i len) (hm : hp n = some (.row s2 l)) (hss : shEq s s2 = true)
  (hcast : castL s2 q.s q.l = some ys) (hb : i + len ≤ l.length) :
  Good cx.P o w0 N env hp (.int .i64 (min ys.length len : Nat)) [(n, .row s2 (spliceL l i (ys.take len)))] a w := by
 have hse := shEq_eq' hss
 subst hse
 have hshow := listF0_shown h.toMem (fun _ _ h => h) hq hs
 obtain ⟨q1, q2⟩ := q
 simp only at hcast hshow
 obtain ⟨e1, e2⟩ := castL_eq hcast
 subst e1
 simp only at e2; subst e2
 obtain ⟨yc, r1, r2, r3⟩ := shown_src (P := cx.P) hu hshow
 have hrun : ∀ (base : Option Addr) (cap : Nat) (w' : World), a.eval x = .slice base len cap → (∀ ad, base = some ad → (storeCells ad (yc.take (len * s.size))).run cx.P w = .ok () w') → (base = none → w' = w) →
   (execOp a.eval o).run cx.P w = .ok (.value (goInt (min q2.length len : Nat))) w' := by
  intro base cap w' hx hst hno
  have hmin : Nat.min q2.length len = min q2.length len := rfl
  simp only [execOp, hop, resolve, hcal, Sem.run_bind, Sem.run_pure, Result.andThen_ok, invoke, builtin, hargs, List.map_toArray, List.map_cons, List.map_nil]
  simp only [Builtin.copy_, ht, List.getElem?_toArray, List.getElem?_cons_zero, List.getElem?_cons_succ, Sem.run_bind, run_underlying hu, Result.andThen_ok, hx, r2.len, run_sizeT hsz, hmin, r3 len]
  cases base with
  | none => simp [hno rfl]
  | some ad => simp [hst ad rfl]
 rcases row_slice h hm hv hd with ⟨h0, hl0, ex, hcn⟩ | ⟨off, cap, ex, hcap, hoff, hcn⟩
 ·subst h0; subst hl0
  have hi : i = 0 := by simp at hb; exact hb
  subst hi
  have hspl : spliceL ([] : List s.T) 0 (q2.take 0) = [] := rfl
  rw [hspl]
  refine Good.value (E' := E) (x := goInt (min q2.length 0 : Nat)) (w' := w) (hrun none 0 w ex (fun ad h => by cases h) (fun _ => rfl)) (by rw [updH_self hm]; exact h) (Rep1.int.2 rfl) (by simp [AV.named])
 ·obtain ⟨_, ⟨hk, _⟩ | ⟨blk, T, k1, k2, k3, k4, k5⟩⟩ := h.rheap n _ hm rfl
  ·rw [hcn] at hk; cases hk
  ·obtain ⟨lc, zs, eb, hlc, hzs⟩ := k3
   have hll := hlc.length
   have htake : RcL E s (q2.take len) (yc.take (len * s.size)) := (RcL.take_drop len r1).1
   have hmlen : (q2.take len).length ≤ len := by simp; omega
   have hnew := splice_rep hlc htake i (by omega)
   have htl := htake.length
   let blk' : Array Value := (lc.take (i * s.size) ++ yc.take (len * s.size) ++ lc.drop (i * s.size + (yc.take (len * s.size)).length) ++ zs).toArray
   have hbound : i * s.size + (yc.take (len * s.size)).length ≤ lc.length := by
    rw [htl, hll, ← Nat.add_mul]
    exact Nat.mul_le_mul_right _ (by omega)
   have hsize : blk'.size = blk.size := by
    have : blk.size = (lc ++ zs).length := by rw [← eb]; simp
    rw [this]
    simp only [blk', List.size_toArray, List.length_append, List.length_take, List.length_drop] at hbound ⊢
    omega
   have hst : (storeCells ⟨E.ρ n, off, none⟩ (yc.take (len * s.size))).run cx.P w = .ok () (w.setRow (E.ρ n) blk') := by
    rcases Nat.eq_zero_or_pos (yc.take (len * s.size)).length with h0 | h0
    ·have hnil : yc.take (len * s.size) = [] := List.length_eq_zero_iff.1 h0
     have : blk' = blk := by
      apply Array.ext'
      simp only [blk', hnil, List.append_nil, List.length_nil, Nat.add_zero, List.take_append_drop]
      exact eb.symm
     rw [hnil, this]
     simp [storeCells, setRow_self w _ _ _ _ k2]
    ·have hpos : 0 < cap := by
      rw [htl] at h0
      have : 0 < (q2.take len).length := Nat.pos_of_mul_pos_right h0
      omega
     have ho := hoff hpos
     subst ho
     have hst := run_storeCells_at cx.P (E.ρ n) (i * s.size) T (yc.take (len * s.size)) 0 blk w k2 (by
      have : blk.size = (lc ++ zs).length := by rw [← eb]; simp
      rw [this, List.length_append]; omega) htake.oneCell
     rw [hst]
     congr 2
     apply Array.ext'
     simp only [blk', Nat.add_zero]
     rw [eb, List.take_append_of_le_length (by omega), List.drop_append_of_le_length hbound]
     simp only [List.append_assoc]
   have hw := h.write (c' := .row s (spliceL l i (q2.take len))) (ys := blk') hm rfl hfr k1 k2 hsize ⟨_, zs, by simp only [blk'], hnew, hzs⟩ (by
    simp only [AV.rowLen, spliceL, List.length_append, List.length_take, List.length_drop]
    congr 1
    simp only [List.length_take] at hmlen
    omega) (by simp [AV.named])
   exact Good.value (E' := E) (x := goInt (min q2.length len : Nat)) (hrun _ cap _ ex (fun ad h => by cases h; exact hst) (fun h => by cases h)) hw (Rep1.int.2 rfl) (by simp [AV.named])
end
end Go.Sy
set_option linter.unusedVariables false
set_option linter.unusedSimpArgs false
namespace Go.Sy
open Go Go.RowKit
theorem intsOf_rep {E : Emb} {v : AV} {k : IntKind} {m : Nat} {l : List Int} {xs : List Value} (h : intsOf v = some (k, m, l)) (hr : RepC E v xs) : xs = l.map (.int k) ∧ l.length = m := by
 unfold intsOf at h
 split at h
 ·simp at h
  obtain ⟨rfl, rfl, rfl⟩ := h
  simp only [RepC] at hr
  exact ⟨hr, rfl⟩
 ·rename_i k' n l'
  simp at h
  obtain ⟨rfl, rfl, rfl⟩ := h
  simp only [RepC] at hr
  exact ⟨RcL_ints.1 hr.2, hr.1⟩
 ·cases h
theorem limb_zero (j : Nat) : limb 0 j = 0 := by simp [limb]
theorem ofLimbs_cells {l : List Int} (h : l.length = 4) (ha : l.all inU64 = true) : ucells (ofLimbs l) = l.map (.int .u64) := by
 match l, h with
 | [p, q, r, s], _ =>
  simp only [List.all_cons, List.all_nil, Bool.and_true, Bool.and_eq_true] at ha
  obtain ⟨hp, hq, hr, hs⟩ := ha
  simp only [ofLimbs, List.getD_cons_zero, List.getD_cons_succ, ucells, limbs, List.map_cons, List.map_nil]
  rw [setLimb_limb hs (by omega) (by omega), setLimb_limb hs (by omega) (by omega), setLimb_limb hs (by omega) (by omega), setLimb_limb hs (by omega) (by omega)]
  simp only [setLimb_limb hr (show 2 < 4 by omega) (show 0 < 4 by omega), setLimb_limb hr (show 2 < 4 by omega) (show 1 < 4 by omega), setLimb_limb hr (show 2 < 4 by omega) (show 2 < 4 by omega)]
  simp only [setLimb_limb hq (show 1 < 4 by omega) (show 0 < 4 by omega), setLimb_limb hq (show 1 < 4 by omega) (show 1 < 4 by omega)]
  simp only [setLimb_limb hp (show 0 < 4 by omega) (show 0 < 4 by omega)]
  simp
theorem intsTo_rep {E : Emb} {v : AV} {k : IntKind} {m : Nat} {l l' : List Int} (h : intsOf v = some (k, m, l)) (hl : l'.length = m) (hf : intsFit v l' = true) : RepC E (intsTo v l') (l'.map (.int k)) ∧ ∀ ok, (intsTo v l').named ok = true := by
 unfold intsOf at h
 split at h
 ·simp at h
  obtain ⟨rfl, rfl, rfl⟩ := h
  simp only [intsTo, RepC, AV.named]
  exact ⟨(ofLimbs_cells hl hf).symm, fun _ => trivial⟩
 ·rename_i k' n l'
  simp at h
  obtain ⟨rfl, rfl, rfl⟩ := h
  simp only [intsTo, RepC, AV.named]
  exact ⟨⟨hl, RcL_ints.2 rfl⟩, fun _ => trivial⟩
 ·cases h
section
variable {cx : Cx} {G : Ini → Prop} {w0 : Ini} {E : Emb} {N : Nat} {env hp : Nat → Option AV} {a : Act} {w : World} {o : Oper}
theorem good_copy_sl (h : Rel w0 E N env hp a w) {c : Call} {v2 : AV} {e : TypeId} {T1 : TypeId} {x y : Operand} {n i len cap m : Nat} {p : List Step} {kc : IntKind} {xs l : List Int} {cc u c' : AV} (hfr : froN n = false) (hop : o.op = .call c) (hcal : c.callee = .builtin .copy)
  (hargs : c.args = #[x, y]) (ht : c.argTypes[0]? = some T1) (hu : cx.P.underlying T1 = some (.slice e)) (hsz : sizeT cx.P e = some 1)
  (hd : Rep E (.sl n p (.int kc) i len cap) (a.eval x)) (hs : Rep E v2 (a.eval y)) (hq : listF0 hp v2 = some ⟨.int kc, xs⟩) (hc : hp n = some cc) (hg : gett cc p = some u) (hi : intsOf u = some (kc, m, l))
  (hb1 : i + len ≤ m) (hb2 : intsFit u (spliceL l i (xs.take len)) = true) (hset : sett cc p (intsTo u (spliceL l i (xs.take len))) = some c') :
  Good cx.P o w0 N env hp (.int .i64 (min xs.length len : Nat)) [(n, c')] a w := by
 have hshow := listF0_shown h.toMem (fun _ _ h => h) hq hs
 obtain ⟨yc, r1, r2, r3⟩ := shown_src (P := cx.P) hu hshow
 have r1' := RcL_ints.1 r1
 obtain ⟨hlive, blk, T, hk, h1, h2, _⟩ := own_cells h hc hg
 have hlm : l.length = m := by
  obtain ⟨_, ys, _, _, _, hr⟩ := gett_sound hg h2
  exact (intsOf_rep hi hr).2
 have hspl : (spliceL l i (xs.take len)).length = m := by simp [spliceL]; omega
 obtain ⟨hti, htn⟩ := intsTo_rep (E := E) hi hspl hb2
 obtain ⟨pre, ys, post, e1, e2, e3, e4, e5, _⟩ := sett_sound hset h2 hti
 have hys : ys = l.map (.int kc) := by
  obtain ⟨pre', ys', post', f1, f2, f3⟩ := gett_sound hg h2
  have := (intsOf_rep hi f3).1
  rw [← this]
  have hle : ys.length = ys'.length := by rw [e3, this]; simp [hspl, hlm]
  rw [e1] at f1
  have hpre : pre = pre' := by
   have := congrArg (List.take (offs p)) f1
   rw [← e2, List.append_assoc, List.take_left] at this
   rw [this, e2, ← f2, List.append_assoc, List.take_left]
  subst hpre
  rw [List.append_assoc, List.append_assoc] at f1
  have f1' := List.append_cancel_left f1
  have := congrArg (List.take ys.length) f1'
  rw [List.take_left, hle, List.take_left] at this
  exact this
 have hx := Rep1.cells1 (E := E) (v := .sl n p (.int kc) i len cap) hd rfl
 simp only [RepC] at hx
 obtain ⟨hle, off, ex, ho⟩ := hx
 simp at ex
 have hyc : yc.take (len * 1) = (xs.take len).map (Value.int kc) := by rw [r1', Nat.mul_one, List.map_take]
 have hnew : (pre ++ (spliceL l i (xs.take len)).map (Value.int kc) ++ post) = blk.toList.take (offs p + i) ++ (xs.take len).map (Value.int kc) ++ blk.toList.drop (offs p + i + (xs.take len).length) := by
  rw [e1, hys]
  have hil : i + (xs.take len).length ≤ l.length := by rw [List.length_take]; omega
  rw [List.append_assoc pre, List.append_assoc pre, ← e2, take_len_add, Nat.add_assoc, drop_len_add]
  rw [List.take_append_of_le_length (by simp; omega), List.drop_append_of_le_length (by simp; simp at hil; omega)]
  simp only [spliceL, List.map_append, List.append_assoc, List.map_take, List.map_drop]
 have hbsz : blk.size = (pre ++ ys ++ post).length := by rw [← e1]; simp
 have hw := h.write (c' := c') (ys := (pre ++ (spliceL l i (xs.take len)).map (Value.int kc) ++ post).toArray) hc hlive hfr hk h1 (by
  rw [hbsz]; simp only [List.size_toArray, List.length_append]; omega) (by simpa using e4) e5 (sett_named hset (h.shp n cc hc) (htn _))
 refine Good.value (E' := E) (x := goInt (min xs.length len : Nat)) (w' := w.setRow (E.ρ n) (pre ++ (spliceL l i (xs.take len)).map (Value.int kc) ++ post).toArray) ?_ hw (Rep1.int.2 rfl) (by simp [AV.named])
 have hstore : (storeCells ⟨E.ρ n, off, none⟩ ((xs.take len).map (Value.int kc))).run cx.P w = .ok () (w.setRow (E.ρ n) (pre ++ (spliceL l i (xs.take len)).map (Value.int kc) ++ post).toArray) := by
  rcases Nat.eq_zero_or_pos (xs.take len).length with h0 | h0
  ·have hnil : xs.take len = [] := List.length_eq_zero_iff.1 h0
   have hsp : spliceL l i (xs.take len) = l := by rw [hnil]; simp [spliceL]
   rw [hsp, ← hys, ← e1, hnil]
   simp [storeCells, setRow_self w _ _ _ _ h1]
  ·have hlen0 : 0 < len := by rw [List.length_take] at h0; omega
   have ho' := ho (by omega)
   simp only [Sh.size, Nat.mul_one] at ho'
   have hst := run_storeCells_at cx.P (E.ρ n) off T ((xs.take len).map (Value.int kc)) 0 blk w h1 (by
    rw [hbsz, hys]; simp [e2, ho']; omega) (by intro v hv; rw [List.mem_map] at hv; obtain ⟨_, _, rfl⟩ := hv; rfl)
   rw [hst, hnew]
   simp [ho']
 have hmin : Nat.min xs.length len = min xs.length len := rfl
 have hcells := r3 len
 simp only [Sh.size] at hcells
 rw [hyc] at hcells
 have hlen : ∀ w', (Builtin.lenOf (a.eval y)).run cx.P w' = .ok xs.length w' := r2.len
 simp only [execOp, hop, resolve, hcal, Sem.run_bind, Sem.run_pure, Result.andThen_ok, invoke, builtin, hargs, List.map_toArray, List.map_cons, List.map_nil]
 simp only [Builtin.copy_, ht, List.getElem?_toArray, List.getElem?_cons_zero, List.getElem?_cons_succ, Sem.run_bind, run_underlying hu, Result.andThen_ok, ex, hlen, run_sizeT hsz, hmin, hcells, hstore, Sem.run_pure]
theorem good_clear_sl (h : Rel w0 E N env hp a w) {c : Call} {e : TypeId} {T1 : TypeId} {x : Operand} {n i len cap m : Nat} {p : List Step} {kc : IntKind} {l : List Int} {cc u c' : AV} (hfr : froN n = false) (hop : o.op = .call c) (hcal : c.callee = .builtin .clear)
  (hargs : c.args = #[x]) (ht : c.argTypes[0]? = some T1) (hu : cx.P.underlying T1 = some (.slice e)) (hz : zeroOK cx.P e (.int kc 0) = true)
  (hd : Rep E (.sl n p (.int kc) i len cap) (a.eval x)) (hc : hp n = some cc) (hg : gett cc p = some u) (hi : intsOf u = some (kc, m, l))
  (hb1 : i + len ≤ m) (hb2 : intsFit u (spliceL l i (List.replicate len 0)) = true) (hset : sett cc p (intsTo u (spliceL l i (List.replicate len 0))) = some c') :
  Good cx.P o w0 N env hp .undef [(n, c')] a w := by
 obtain ⟨zv, hz1, hz2, _, _⟩ := zeroOK_spec hz
 have hz3 : zv.cells.toList = [.int kc 0] := by
  have := hz2 E
  simp only [RepC] at this
  exact this
 have hz4 : zv.cells = #[.int kc 0] := by apply Array.ext'; simpa using hz3
 obtain ⟨hlive, blk, T, hk, h1, h2, _⟩ := own_cells h hc hg
 have hlm : l.length = m := by
  obtain ⟨_, ys, _, _, _, hr⟩ := gett_sound hg h2
  exact (intsOf_rep hi hr).2
 generalize hxs : List.replicate len (0 : Int) = xs at *
 have hxl : xs.length = len := by rw [← hxs]; simp
 have hspl : (spliceL l i xs).length = m := by simp [spliceL]; omega
 obtain ⟨hti, htn⟩ := intsTo_rep (E := E) hi hspl hb2
 obtain ⟨pre, ys, post, e1, e2, e3, e4, e5, _⟩ := sett_sound hset h2 hti
 have hys : ys = l.map (.int kc) := by
  obtain ⟨pre', ys', post', f1, f2, f3⟩ := gett_sound hg h2
  have := (intsOf_rep hi f3).1
  rw [← this]
  have hle : ys.length = ys'.length := by rw [e3, this]; simp [hspl, hlm]
  rw [e1] at f1
  have hpre : pre = pre' := by
   have := congrArg (List.take (offs p)) f1
   rw [← e2, List.append_assoc, List.take_left] at this
   rw [this, e2, ← f2, List.append_assoc, List.take_left]
  subst hpre
  rw [List.append_assoc, List.append_assoc] at f1
  have f1' := List.append_cancel_left f1
  have := congrArg (List.take ys.length) f1'
  rw [List.take_left, hle, List.take_left] at this
  exact this
 have hx := Rep1.cells1 (E := E) (v := .sl n p (.int kc) i len cap) hd rfl
 simp only [RepC] at hx
 obtain ⟨hle, off, ex, ho⟩ := hx
 simp at ex
 have hnew : (pre ++ (spliceL l i xs).map (Value.int kc) ++ post) = blk.toList.take (offs p + i) ++ xs.map (Value.int kc) ++ blk.toList.drop (offs p + i + xs.length) := by
  rw [e1, hys]
  rw [List.append_assoc pre, List.append_assoc pre, ← e2, take_len_add, Nat.add_assoc, drop_len_add]
  rw [List.take_append_of_le_length (by simp; omega), List.drop_append_of_le_length (by simp; omega)]
  simp only [spliceL, List.map_append, List.append_assoc, List.map_take, List.map_drop]
 have hbsz : blk.size = (pre ++ ys ++ post).length := by rw [← e1]; simp
 have hw := h.write (c' := c') (ys := (pre ++ (spliceL l i xs).map (Value.int kc) ++ post).toArray) hc hlive hfr hk h1 (by
  rw [hbsz]; simp only [List.size_toArray, List.length_append]; omega) (by simpa using e4) e5 (sett_named hset (h.shp n cc hc) (htn _))
 refine Good.value (E' := E) (x := .tuple #[]) (w' := w.setRow (E.ρ n) (pre ++ (spliceL l i xs).map (Value.int kc) ++ post).toArray) ?_ hw (by simp [Rep]) (by simp [AV.named])
 rcases Nat.eq_zero_or_pos len with h0 | h0
 ·have hnil : xs = [] := List.length_eq_zero_iff.1 (by omega)
  have hsp : spliceL l i xs = l := by rw [hnil]; simp [spliceL]
  subst h0
  rw [hsp, ← hys, ← e1]
  simp only [execOp, hop, resolve, hcal, Sem.run_bind, Sem.run_pure, Result.andThen_ok, invoke, builtin, hargs, List.map_toArray, List.map_cons, List.map_nil]
  simp [Builtin.clear_, ht, run_underlying hu, ex, setRow_self w _ _ _ _ h1]
 ·have ho' := ho (by omega)
  simp only [Sh.size, Nat.mul_one] at ho'
  have hst := run_storeCells_at cx.P (E.ρ n) off T (xs.map (Value.int kc)) 0 blk w h1 (by
   rw [hbsz, hys]; simp [e2, ho']; omega) (by intro v hv; rw [List.mem_map] at hv; obtain ⟨_, _, rfl⟩ := hv; rfl)
  have hzc : (Builtin.zeroCells zv.cells len).toList = xs.map (Value.int kc) := by
   rw [hz4, ← hxs]
   simp only [Builtin.zeroCells, List.size_toArray, List.length_cons, List.length_nil, Array.toList_map, Array.toList_range, Nat.zero_add, Nat.mul_one, Nat.mod_one, List.map_replicate]
   rw [List.map_const', List.length_range]
   rfl
  have hbl : len ≠ 0 := by omega
  simp only [execOp, hop, resolve, hcal, Sem.run_bind, Sem.run_pure, Result.andThen_ok, invoke, builtin, hargs, List.map_toArray, List.map_cons, List.map_nil]
  rw [hnew]
  rw [ho'] at hst
  simp [Builtin.clear_, ht, run_underlying hu, ex, hbl, hz1, hzc, ho']
  rw [hst]
  simp
theorem Rel.take {b : Ini} (h : Rel b E N env hp a w) {d g : Nat} (hd : NewN hp d) {c' : AV} {xs ys : Array Value} {T : TypeId} (hx : w.heap[g]? = some (.cells xs T (0, 0))) (hsz : ys.size = xs.size)
  (hno : ∀ n c, hp n = some c → c.live = true → (E.cnt n).isSome = true → E.ρ n ≠ g) (him : ∀ f j, (froN d = true → c'.rowSz ≤ j) → E.im f g j = none) (himk : ∀ f j v, E.im f g j = some v → ys[j]? = xs[j]?) (hb : b.w.heap.size ≤ g ∨ b.L g) (hcl : newN d = true → b.w.heap.size ≤ g) (hc : RepR E c' ys.toList) (hn : c'.named (fun n => (hp n).isSome) = true) :
  Rel b (E.add d g (some ys.size) (c'.rowLen.getD 0)) N env (updH hp [(d, c')]) a (w.setRow g ys) := by
 have hle := Emb.add_le (E := E) (r := g) (c := some ys.size) (l := c'.rowLen.getD 0) hd.1
 refine h.mem hle (fun n hn => updH_some hn) ?_
 refine { rheap := ?_, inj := ?_, imm := ?_, imle := h.imle, pers := h.pers, new := h.new, imm0 := h.imm0, below := ?_, shp := ?_, fixed := fun j q hj hl => Emb.add_fixed hd.2 hl (h.fixed j q hj hl), gone := ?_, newn := fun n u hu hl hn1 hk => ?_ }
 rotate_left 6
 ·by_cases e : n = d
  ·subst e; simp only [Emb.add, if_true]; exact hcl hn1
  ·rw [updH_other e] at hu
   simp only [Emb.add, if_neg e] at hk ⊢
   exact h.newn n u hu hl hn1 hk
 ·intro n u hu hl
  by_cases e : n = d
  ·subst e
   rw [updH_same] at hu; cases hu
   exact ⟨fun k hk => by simp [Emb.add, hk], .inr ⟨ys, T, by simp [Emb.add], by simp only [Emb.add, if_true]; exact setRow_heap w _ _ _ _ _ hx, hc.mono hle hn, by simpa [Emb.add] using him, by simpa [Emb.add] using hb⟩⟩
  ·rw [updH_other e] at hu
   obtain ⟨g1, g2⟩ := h.rheap n u hu hl
   refine ⟨fun k hk => by rw [g1 k hk]; simp [Emb.add, e], ?_⟩
   rcases g2 with ⟨g3, g4⟩ | ⟨zs, T', k1, k2, k3, k4, k5⟩
   ·exact .inl ⟨by simp [Emb.add, e, g3], g4⟩
   ·refine .inr ⟨zs, T', by simp [Emb.add, e, k1], ?_, k3.mono hle (h.shp n u hu), by simpa [Emb.add, e] using k4, by simpa [Emb.add, e] using k5⟩
    simp only [Emb.add, if_neg e]
    rw [setRow_other _ _ _ _ (hno n u hu hl (by simp [k1]))]
    exact k2
 ·intro n m c1 c2 hn1 hm1 l1 l2 k1 k2 eq
  by_cases e1 : n = d <;> by_cases e2 : m = d
  ·rw [e1, e2]
  ·subst e1
   rw [updH_other e2] at hm1
   simp only [Emb.add, if_neg e2, if_true] at k2 eq
   exact absurd eq.symm (hno m c2 hm1 l2 k2)
  ·subst e2
   rw [updH_other e1] at hn1
   simp only [Emb.add, if_neg e1, if_true] at k1 eq
   exact absurd eq (hno n c1 hn1 l1 k1)
  ·rw [updH_other e1] at hn1; rw [updH_other e2] at hm1
   simp only [Emb.add, if_neg e1, if_neg e2] at k1 k2 eq
   exact h.inj n m c1 c2 hn1 hm1 l1 l2 k1 k2 eq
 ·intro f g' j v hv
  obtain ⟨c1, T1, fz, h1, h2⟩ := h.imm f g' j v hv
  by_cases hne : g' = g
  ·subst hne
   rw [hx] at h1; cases h1
   exact ⟨ys, T, (0, 0), setRow_heap w _ _ _ _ _ hx, by rw [himk f j v hv]; exact h2⟩
  ·exact ⟨c1, T1, fz, by rw [setRow_other _ _ _ _ hne]; exact h1, h2⟩
 ·refine h.below.trans ⟨rfl, rfl, rfl, by simp, fun k hk hL => ?_⟩
  rw [setRow_other]
  intro e; subst e
  rcases hb with hb | hb
  ·omega
  ·exact hL hb
 ·intro n u hu
  by_cases e : n = d
  ·subst e; rw [updH_same] at hu; cases hu; exact AV.named_mono (fun n hn => updH_some hn) hn
  ·rw [updH_other e] at hu; exact AV.named_mono (fun n hn => updH_some hn) (h.shp n u hu)
 ·intro n k hu
  by_cases e : n = d
  ·subst e; rw [updH_same] at hu; cases hu; exact absurd hc (by simp [RepR, RepC])
  ·rw [updH_other e] at hu; rw [h.gone n k hu]; simp [Emb.add, e]
theorem updH_two {d n : Nat} {c c' : AV} : updH (updH hp [(n, c')]) [(d, c)] = updH hp [(d, c), (n, c')] := by
 funext m
 by_cases e : m = d
 ·subst e; rw [updH_same, updH_same]
 ·rw [updH_other e, updH_cons e]
theorem run_append_here {P : Program} (t tx ty e : TypeId) (i : TypeInfo) (ht : P.underlying t = some (.slice e)) (hi : P.info? e = some i) (b off sLen sCap : Nat) (x : Value) (n : Nat) (news : List Value) (hs : Src P i.size tx x n news w)
  (hroom : sLen + n ≤ sCap) {w' : World} (hst : (storeCells ⟨b, off + sLen * i.size, none⟩ news).run P w = .ok () w') :
  (Builtin.append_ #[t, tx] ty #[.slice (some ⟨b, off, none⟩) sLen sCap, x]).run P w = .ok (.slice (some ⟨b, off, none⟩) (sLen + n) sCap) w' := by
 rcases hs.kind with ⟨e', hk⟩ | hk <;> simp [Builtin.append_, run_underlying ht, run_underlying hk, sizeOf, typeInfo, hi, hs.len, hroom, hs.cells, Addr.add_lit, hst]
theorem zeroCells_one {z : Value} {s : Sh} (hz : z.cells.toList = s.dfltCells) (n : Nat) : (Builtin.zeroCells z.cells n).size = n * s.size ∧ ∀ v ∈ (Builtin.zeroCells z.cells n).toList, v.oneCell' = true := by
 have hl : z.cells.size = s.size := by
  have := congrArg List.length hz
  rw [dfltCells_len] at this
  simpa using this
 have hs := Sh.size_pos s
 refine ⟨by simp [Builtin.zeroCells, hl], fun v hv => ?_⟩
 simp only [Builtin.zeroCells, Array.toList_map, List.mem_map] at hv
 obtain ⟨j, _, rfl⟩ := hv
 have hlt : j % z.cells.size < z.cells.size := Nat.mod_lt _ (by omega)
 have : z.cells[j % z.cells.size]! = z.cells[j % z.cells.size] := getElem!_pos z.cells _ hlt
 rw [this]
 have hm : z.cells[j % z.cells.size] ∈ z.cells.toList := Array.mem_toList_iff.2 (Array.getElem_mem hlt)
 rw [hz] at hm
 exact RepC.oneCell (E := ⟨fun _ => 0, fun _ => none, fun _ => 0, fun _ _ _ => none⟩) (v := .arr s 1 [s.dflt]) (by simp only [RepC]; exact ⟨rfl, s.dfltCells, [], by simp, Sh.dflt_rep _ s, rfl⟩) _ hm
theorem append_new (h : Rel w0 E N env hp a w) {c : Call} {e : TypeId} {T1 T2 : TypeId} {d bytes sLen sCap : Nat} {base : Option Addr} {s : Sh} {l ys : List s.T} {lc yc : List Value} {y : Value} (hop : o.op = .call c) (hcal : c.callee = .builtin .append)
  (htys : c.argTypes = #[T1, T2]) (hu : cx.P.underlying T1 = some (.slice e)) (hs : shapeZ cx.P e = some s) (hby : bytesT cx.P e = some bytes) (hd : NewN hp d)
  (hargs : c.args.map a.eval = #[.slice base sLen sCap, y]) (hold : (Builtin.firstCells s.size sLen (.slice base sLen sCap)).run cx.P w.drew = .ok lc.toArray w.drew) (hlr : RcL E s l lc) (hlen : l.length = sLen)
  (hsrc : Src cx.P s.size T2 y ys.length yc w) (hyr : RcL E s ys yc) (hg : sCap < sLen + ys.length) (hroom : roomB bytes (sLen + ys.length) = true) :
  Good cx.P o w0 N env hp (.own d s) [(d, .row s (l ++ ys))] a w := by
 obtain ⟨i, z, hi, hz, hcells, hsz⟩ := shapeZ_spec hs
 obtain ⟨r1, r2⟩ := roomB_spec hroom
 have hbi : i.bytes = bytes := by simp [bytesT, hi] at hby; exact hby
 rw [← hsz] at hold hsrc
 have hrun := run_append_grow_src (P := cx.P) w T1 T2 o.type e i z hu hi hz base sLen sCap lc hold y ys.length yc hsrc hg (by omega) (growslice_fits hg (by rw [hbi]; exact r2))
 have hge := grownCap_ge w (sLen + ys.length) sCap e
 obtain ⟨z1, z2⟩ := zeroCells_one (s := s) hcells (grownCap w (sLen + ys.length) sCap e - (sLen + ys.length))
 obtain ⟨E', e1, e2, e3, e4, e5⟩ := (h.drewn).alloc (T := e) (c := .row s (l ++ ys)) (xs := (lc ++ yc).toArray ++ Builtin.zeroCells z.cells (grownCap w (sLen + ys.length) sCap e - (sLen + ys.length))) hd
  ⟨lc ++ yc, (Builtin.zeroCells z.cells (grownCap w (sLen + ys.length) sCap e - (sLen + ys.length))).toList, by simp, hlr.append hyr, z2⟩ (by simp [AV.named])
 refine Good.value (E' := E') (x := .slice (some ⟨w.heap.size, 0, none⟩) (sLen + ys.length) (grownCap w (sLen + ys.length) sCap e)) ?_ e5 ?_ (by simp [AV.named, updH_same])
 ·simp only [execOp, hop, resolve, hcal, Sem.run_bind, Sem.run_pure, Result.andThen_ok, invoke, builtin, hargs, htys, hrun]
  rfl
 ·refine Rep1.of_cells1 rfl ?_
  simp only [RepC]
  have hl1 := hlr.length
  have hl2 := hyr.length
  refine ⟨_, rfl, .inr ⟨0, grownCap w (sLen + ys.length) sCap e, ?_, ?_, fun _ => rfl, ?_⟩⟩
  ·rw [e1, e3]; simp [AV.rowLen, hlen]
  ·rw [e3]; simp [AV.rowLen, hlen]; exact hge
  ·rw [e2]
   congr 1
   simp only [Array.size_append, List.size_toArray, List.length_append, z1, hl1, hl2, hlen]
   rw [← Nat.add_mul, ← Nat.add_mul]
   congr 1
   omega
theorem append_none (h : Rel w0 E N env hp a w) {c : Call} {e : TypeId} {T1 T2 : TypeId} {d : Nat} {s : Sh} {y : Value} (hop : o.op = .call c) (hcal : c.callee = .builtin .append)
  (htys : c.argTypes = #[T1, T2]) (hu : cx.P.underlying T1 = some (.slice e)) (hs : shapeZ cx.P e = some s) (hd : NewN hp d)
  (hargs : c.args.map a.eval = #[.slice none 0 0, y]) (hsrc : Src cx.P s.size T2 y 0 [] w) :
  Good cx.P o w0 N env hp (.own d s) [(d, .row s [])] a w := by
 obtain ⟨i, z, hi, hz, hcells, hsz⟩ := shapeZ_spec hs
 rw [← hsz] at hsrc
 have hrun := run_append_nothing (P := cx.P) w T1 T2 o.type e i hu hi none 0 0 (Nat.le_refl _) y hsrc
 obtain ⟨E', e1, e2, e3, e4⟩ := h.nilrow hd s
 refine Good.value (E' := E') (x := .slice none 0 0) (w' := w) ?_ e4 ?_ (by simp [AV.named, updH_same])
 ·simp only [execOp, hop, resolve, hcal, Sem.run_bind, Sem.run_pure, Result.andThen_ok, invoke, builtin, hargs, htys, hrun]
 ·refine Rep1.of_cells1 rfl ?_
  simp only [RepC]
  exact ⟨_, rfl, .inl ⟨e1, e2, rfl⟩⟩
theorem Good.strike {d n : Nat} {s s0 : Sh} {l0 : List s0.T} {c : AV} (hdn : d ≠ n) (hm : hp n = some (.row s0 l0)) (hg : Good cx.P o w0 N env hp (.own d s) [(d, c)] a w) : Good cx.P o w0 N env hp (.own d s) [(d, c), (n, .tup [.int .i64 (l0.length : Nat)])] a w :=
 fun next Q k => hg next Q fun E' x w' h1 h2 h3 => by
  have e : updH (updH hp [(d, c)]) [(n, .tup [.int .i64 (l0.length : Nat)])] = updH hp [(d, c), (n, .tup [.int .i64 (l0.length : Nat)])] := by
   rw [updH_two]
   funext m
   by_cases e1 : m = n
   ·subst e1; rw [updH_same, updH_cons (Ne.symm hdn), updH_same]
   ·by_cases e2 : m = d
    ·subst e2; rw [updH_cons e1, updH_same, updH_same]
    ·rw [updH_cons e1, updH_cons e2, updH_cons e2, updH_cons e1]
  have h1' := h1.forget n l0.length ((h1.rheap n (.row s0 l0) (by rw [updH_other (Ne.symm hdn)]; exact hm) rfl).1 _ rfl)
  rw [e] at h1'
  exact k E' x w' h1' h2 (by simp [AV.named, updH_same])
theorem append_row (h : Rel w0 E N env hp a w) {c : Call} {e : TypeId} {T1 T2 : TypeId} {d n bytes len : Nat} {s : Sh} {l ys : List s.T} {yc : List Value} {v : AV} {x y : Value} (hop : o.op = .call c) (hcal : c.callee = .builtin .append)
  (htys : c.argTypes = #[T1, T2]) (hu : cx.P.underlying T1 = some (.slice e)) (hs : shapeZ cx.P e = some s) (hby : bytesT cx.P e = some bytes) (hd : NewN hp d) (hcl : newN d = true → newN n = true) (hcf : froN n = true → froN d = true ∧ len = l.length)
  (hargs : c.args.map a.eval = #[x, y]) (hm : hp n = some (.row s l)) (hv : (v = .own n s ∧ (0 : Nat) = 0 ∧ len = l.length) ∨ v = .osl n s 0 len) (hx : Rep E v x) (hll : len ≤ l.length)
  (hsrc : Src cx.P s.size T2 y ys.length yc w) (hyr : RcL E s ys yc) (hroom : roomB bytes (len + ys.length) = true) :
  Good cx.P o w0 N env hp (.own d s) [(d, .row s (l.take len ++ ys)), (n, .tup [.int .i64 (l.length : Nat)])] a w := by
 have hdn : d ≠ n := fun e => by subst e; rw [hd.1] at hm; cases hm
 obtain ⟨i, z, hi, hz, hcells, hsz⟩ := shapeZ_spec hs
 rcases row_slice h hm hv hx with ⟨h0, hl0, ex, hcn⟩ | ⟨off, cap, ex, hcap, hoff, hcn⟩
 ·subst h0; subst hl0
  rw [ex] at hargs
  refine Good.strike hdn hm ?_
  simp only [List.take_nil, List.nil_append]
  rcases Nat.eq_zero_or_pos ys.length with h0 | h0
  ·have : ys = [] := List.length_eq_zero_iff.1 h0
   subst this
   have hy : yc = [] := by simpa [RcL] using hyr
   subst hy
   exact append_none h hop hcal htys hu hs hd hargs hsrc
  ·exact append_new (l := []) (lc := []) h hop hcal htys hu hs hby hd hargs (by simp [Builtin.firstCells]) rfl rfl hsrc hyr (by omega) (by simpa using hroom)
 ·obtain ⟨_, ⟨hk, _⟩ | ⟨blk, T, k1, k2, k3, k4, k5⟩⟩ := h.rheap n _ hm rfl
  ·rw [hcn] at hk; cases hk
  ·obtain ⟨lc, zs, eb, hlc, hzs⟩ := k3
   have hlcl := hlc.length
   have htake : RcL E s (l.take len) (lc.take (len * s.size)) := (RcL.take_drop len hlc).1
   have htl := htake.length
   have htl' : (lc.take (len * s.size)).length = len * s.size := by rw [htl, List.length_take, Nat.min_eq_left hll]
   rw [Nat.zero_add] at hcn
   have hbs : blk.size = cap * s.size := by rw [k1] at hcn; simpa using hcn
   have hbl : blk.size = (lc ++ zs).length := by rw [← eb]; simp
   rw [ex] at hargs
   by_cases hfit : len + ys.length ≤ cap
   ·-- in place
    have hyl := hyr.length
    let blk' : Array Value := (blk.toList.take (len * s.size) ++ yc ++ blk.toList.drop (len * s.size + yc.length)).toArray
    have hcapm : len * s.size + yc.length ≤ blk.size := by rw [hbs, hyl, ← Nat.add_mul]; exact Nat.mul_le_mul_right _ hfit
    have hsize : blk'.size = blk.size := by
     simp only [blk', List.size_toArray, List.length_append, List.length_take, List.length_drop, Array.length_toList]
     omega
    have hst : (storeCells ⟨E.ρ n, off + len * i.size, none⟩ yc).run cx.P w = .ok () (w.setRow (E.ρ n) blk') := by
     rw [hsz]
     rcases Nat.eq_zero_or_pos yc.length with h0 | h0
     ·have hnil : yc = [] := List.length_eq_zero_iff.1 h0
      have : blk' = blk := by
       apply Array.ext'
       simp [blk', hnil]
      rw [hnil, this]
      simp [storeCells, setRow_self w _ _ _ _ k2]
     ·have hpos : 0 < cap := by
       have : 0 < ys.length := by rw [hyl] at h0; exact Nat.pos_of_mul_pos_right h0
       omega
      have ho := hoff hpos
      rw [Nat.zero_mul] at ho
      subst ho
      have hst := run_storeCells_at cx.P (E.ρ n) (0 + len * s.size) T yc 0 blk w k2 (by omega) hyr.oneCell
      rw [hst]
      simp [blk']
    have hrun := run_append_here (P := cx.P) T1 T2 o.type e i hu hi (E.ρ n) off len cap y ys.length yc (by rw [hsz]; exact hsrc) hfit hst
    have hrow : RepR E (.row s (l.take len ++ ys)) blk'.toList := by
     refine ⟨lc.take (len * s.size) ++ yc, blk.toList.drop (len * s.size + yc.length), ?_, htake.append hyr, fun z hz => ?_⟩
     ·have hle : len * s.size ≤ lc.length := by rw [hlcl]; exact Nat.mul_le_mul_right _ hll
      simp only [blk']
      rw [eb, List.take_append_of_le_length hle]
     ·have hz' := List.mem_of_mem_drop hz
      rw [eb] at hz'
      rcases List.mem_append.1 hz' with hz' | hz'
      ·exact hlc.oneCell z hz'
      ·exact hzs z hz'
    have hk4 : ∀ f j, (froN d = true → (AV.row s (l.take len ++ ys)).rowSz ≤ j) → E.im f (E.ρ n) j = none := fun f j hj => k4 f j fun hfn => by
     obtain ⟨hfd, hle⟩ := hcf hfn
     have := hj hfd
     simp only [AV.rowSz, List.length_append, List.length_take, hle, Nat.min_self, Nat.add_mul] at this ⊢
     omega
    have hk5 : ∀ f j v, E.im f (E.ρ n) j = some v → blk'[j]? = blk[j]? := fun f j v hv => by
     have hlt : froN n = true ∧ ¬ (AV.row s l).rowSz ≤ j := by
      refine Decidable.byContradiction fun hno => ?_
      rw [k4 f j fun hfn => Decidable.byContradiction fun hq => hno ⟨hfn, hq⟩] at hv
      cases hv
     obtain ⟨hfd, hle⟩ := hcf hlt.1
     have hj := hlt.2
     simp only [AV.rowSz, ← hle] at hj
     have hjb : j < (blk.toList.take (len * s.size)).length := by simp; omega
     simp only [blk', List.getElem?_toArray, List.append_assoc]
     rw [List.getElem?_append_left hjb, List.getElem?_take, if_pos (by omega)]
     simp
    have hd1 : NewN (updH hp [(n, .tup [.int .i64 (l.length : Nat)])]) d := ⟨by rw [updH_other hdn]; exact hd.1, hd.2⟩
    have hrel := (h.forget n l.length ((h.rheap n (.row s l) hm rfl).1 _ rfl)).take (d := d) (g := E.ρ n) (c' := .row s (l.take len ++ ys)) hd1 k2 hsize (fun m c2 hm2 hl2 hk2 => by
     by_cases e : m = n
     ·subst e; rw [updH_same] at hm2; cases hm2; cases hl2
     ·rw [updH_other e] at hm2
      intro eq
      exact e (h.inj m n c2 _ hm2 hm hl2 rfl hk2 (by simp [hcn]) eq)) hk4 hk5 k5 (fun hd' => h.newn n _ hm rfl (hcl hd') (by simp [hcn])) hrow (by simp [AV.named])
    rw [updH_two] at hrel
    refine Good.value (x := .slice (some ⟨E.ρ n, off, none⟩) (len + ys.length) cap) (w' := w.setRow (E.ρ n) blk') ?_ hrel ?_ (by simp [AV.named, updH_same])
    ·simp only [execOp, hop, resolve, hcal, Sem.run_bind, Sem.run_pure, Result.andThen_ok, invoke, builtin, hargs, htys, hrun]
    ·refine Rep1.of_cells1 rfl ?_
     simp only [RepC]
     refine ⟨_, rfl, .inr ⟨off, cap, ?_, ?_, fun hc => by rw [hoff hc]; simp, ?_⟩⟩
     ·simp [Emb.add, AV.rowLen, Nat.min_eq_left hll]
     ·simp [Emb.add, AV.rowLen, Nat.min_eq_left hll]; exact hfit
     ·simp only [Emb.add, if_true, hsize, hbs]
   ·-- a new row
    refine Good.strike hdn hm ?_
    refine append_new (l := l.take len) (lc := lc.take (len * s.size)) h hop hcal htys hu hs hby hd hargs ?_ htake (by rw [List.length_take, Nat.min_eq_left hll]) hsrc hyr (by omega) hroom
    refine run_firstCells_some w.drew _ _ _ _ _ _ htl' (fun j v hv => ?_)
    have hv' : lc[j]? = some v := by
     simp only [List.getElem?_take] at hv
     split at hv
     ·exact hv
     ·cases hv
    have hj : j < lc.length := by
     rcases Nat.lt_or_ge j lc.length with h' | h'
     ·exact h'
     ·simp [List.getElem?_eq_none h'] at hv'
    have hjl : j < len * s.size := by
     have : j < (lc.take (len * s.size)).length := by
      rcases Nat.lt_or_ge j (lc.take (len * s.size)).length with h' | h'
      ·exact h'
      ·simp only [List.getElem?_eq_none h'] at hv; cases hv
     omega
    have hpos : 0 < cap := by
     have : 0 < len := Nat.pos_of_mul_pos_right (show 0 < len * s.size by omega)
     omega
    have ho := hoff hpos
    rw [Nat.zero_mul] at ho
    subst ho
    have k2' : w.drew.heap[E.ρ n]? = some (.cells blk T (0, 0)) := k2
    rw [cell_at k2']
    have : blk[0 + j]? = blk.toList[j]? := by simp
    rw [this, eb, List.getElem?_append_left hj]; exact hv'
end
end Go.Sy
set_option linter.unusedVariables false
set_option linter.unusedSimpArgs false
namespace Go.Sy
open Go Go.RowKit
theorem Rel.stone {b : Ini} {E : Emb} {N : Nat} {env hp : Nat → Option AV} {a : Act} {w w' : World} (h : Rel b E N env hp a w) {c : Array Value} {T : TypeId} {fz : Nat × Nat}
  (ho : w'.os = w.os) (ht : w'.tape = w.tape) (hu : w'.output = w.output) (hs : w'.heap.size = w.heap.size + 1) (hold : ∀ j, j < w.heap.size → w'.heap[j]? = w.heap[j]?) (hnew : w'.heap[w.heap.size]? = some (.cells c T fz)) :
  ∃ E', (∀ f j v, c[j]? = some v → E'.im f w.heap.size j = some v) ∧ E.Le E' (fun n => (hp n).isSome) ∧ Rel b E' N env hp a w' := by
 have hbs := h.below.size
 have hni : ∀ f j, E.im f w.heap.size j = none := fun f j => by
  cases hi : E.im f w.heap.size j with
  | none => rfl
  | some v => have := h.imlt hi; omega
 have hle : E.Le { E with im := fun f g j => if g = w.heap.size then c[j]? else E.im f g j } (fun n => (hp n).isSome) :=
  ⟨fun _ _ => rfl, fun _ _ => rfl, fun _ _ => rfl, fun f g j v hv => by have := h.imlt hv; simp only; rw [if_neg (by omega)]; exact hv⟩
 refine ⟨{ E with im := fun f g j => if g = w.heap.size then c[j]? else E.im f g j }, fun f j v hv => by simpa using hv, hle, h.mem hle (fun n hn => hn) ?_⟩
 refine { rheap := ?_, inj := h.inj, imm := ?_, imle := ?_, pers := ?_, new := ?_, imm0 := ?_, below := ?_, shp := h.shp, fixed := h.fixed, gone := h.gone, newn := h.newn }
 ·intro n c' hc' hl'
  obtain ⟨g1, g2⟩ := h.rheap n c' hc' hl'
  refine ⟨g1, ?_⟩
  rcases g2 with g2 | ⟨ys, T', h1, hx, hr, hi, hb⟩
  ·exact .inl g2
  ·have hl := h.lt hc' hl' h1
   refine .inr ⟨ys, T', h1, by rw [hold _ hl]; exact hx, hr.mono hle (h.shp n c' hc'), fun f j hf => ?_, hb⟩
   simp only
   rw [if_neg (by omega)]
   exact hi f j hf
 ·intro f g j v hv
  simp only at hv
  split at hv
  ·rename_i e; subst e
   exact ⟨c, T, fz, hnew, hv⟩
  ·obtain ⟨c', T', fz', h1, h2⟩ := h.imm f g j v hv
   have := h.imlt hv
   exact ⟨c', T', fz', by rw [hold _ this]; exact h1, h2⟩
 ·intro g j v hv
  simp only at hv ⊢
  split at hv
  ·rename_i e; rw [if_pos e]; exact hv
  ·rename_i e; rw [if_neg e]; exact h.imle g j v hv
 ·intro g j v hv
  have h1 := h.pers g j v hv
  have := h.imlt h1
  simp only
  rw [if_neg (by omega)]
  exact h1
 ·intro g j v hv
  simp only at hv
  split at hv
  ·rename_i e; right; omega
  ·exact h.new g j v hv
 ·intro g c' T' fz' hL hg j v hv
  have h1 := h.imm0 g c' T' fz' hL hg j v hv
  have := h.imlt h1
  simp only
  rw [if_neg (by omega)]
  exact h1
 ·exact h.below.trans ⟨ho, ht, hu, by omega, fun k hk _ => hold k (by omega)⟩
theorem zero_rep1 {P : Program} {t : TypeId} {z : AV} (h : zeroOK P t z = true) (hf : zeroForm P t z = true) : ∃ val, (∀ w, (zeroValue t).run P w = .ok val w) ∧ (∀ E, Rep1 E z val) ∧ z.plain = true ∧ ∀ ok, z.named ok = true := by
 unfold zeroOK at h
 split at h
 ·rename_i v l h1 h2
  have e := sameCells_eq h
  unfold zeroForm at hf
  rw [h1] at hf
  have hag : (z.isAgg = true → ∃ xs, v = .agg xs) ∧ (z.isAgg = false → v.cells = #[v]) := by
   cases v with
   | agg xs => exact ⟨fun _ => ⟨_, rfl⟩, fun hz => by simp [hz] at hf⟩
   | _ => exact ⟨fun hz => by simp [hz] at hf, fun _ => rfl⟩
  refine ⟨v, fun w => ?_, fun E => ⟨by rw [e]; exact litCells_rep E h2, hag.1, hag.2⟩, lit_plain h2, fun ok => lit_named h2⟩
  cases hi : P.info? t with
  | none => rw [hi] at h1; cases h1
  | some i =>
   rw [hi] at h1
   simp at h1
   simp [zeroValue, typeInfo, hi, h1]
 ·cases h
section
variable {cx : Cx} {G : Ini → Prop} {w0 : Ini} {E : Emb} {N : Nat} {env hp : Nat → Option AV} {a : Act} {w : World} {o : Oper}
theorem good_bytesOf (h : Rel w0 E N env hp a w) {s d e : TypeId} {x : Operand} {l : List UInt8} (hop : o.op = .convert s d x)
  (hs : cx.P.underlying s = some .string) (hd : cx.P.underlying d = some (.slice e)) (he : cx.P.underlying e = some (.int .u8)) (hx : Rep1 E (.str l) (a.eval x)) :
  Good cx.P o w0 N env hp (.isl true (.int .u8) (l.map fun c => ((c.toNat : Nat) : Int))) [] a w := by
 have ex := Rep1.str.1 hx
 have hrun := Lib.run_convert_string_bytes (P := cx.P) w s d e ⟨l.toArray⟩ hs hd he
 obtain ⟨E', h1, h2, h3⟩ := h.stone (w' := Lib.bytesWorld w e ⟨l.toArray⟩) (c := Lib.bytesCells w e ⟨l.toArray⟩) (T := e) (fz := _) rfl rfl rfl (Lib.bytesWorld_size w e _) (Lib.bytesWorld_at_old w e _) (Lib.bytesWorld_at_new w e _)
 have hsz := bytes_size l
 refine Good.value (E' := E') (x := .slice (some ⟨w.heap.size, 0, none⟩) (⟨l.toArray⟩ : ByteArray).size (grownCap w (⟨l.toArray⟩ : ByteArray).size 0 e)) (w' := Lib.bytesWorld w e ⟨l.toArray⟩) ?_ h3 (Rep1.of_cells1 rfl ?_) (by simp [AV.named])
 ·simp only [execOp, hop, ex, Sem.run_bind, hrun, Result.andThen_ok]
  rfl
 ·simp only [RepC]
  refine ⟨_, l.map (fun c => Value.int .u8 ((c.toNat : Nat) : Int)), rfl, by rw [RcL_ints]; simp, _, _, _, rfl, by simp [hsz], ?_, .inr ⟨rfl, fun j v hv => ?_⟩⟩
  ·exact grownCap_ge w _ 0 e
  ·refine h1 _ _ _ ?_
   simp only [Lib.bytesCells]
   rw [Nat.zero_add, Array.getElem?_append_left]
   ·simpa using hv
   ·have : j < l.length := by
     rcases Nat.lt_or_ge j l.length with h' | h'
     ·exact h'
     ·rw [List.getElem?_eq_none (by simpa using h')] at hv; cases hv
    simpa using this
theorem good_makeInterface (h : Rel w0 E N env hp a w) {t : TypeId} {x : Operand} {v : AV} (hop : o.op = .makeInterface t x) {d : TypeDesc} (hu : cx.P.underlying t = some d) (hd : ∀ ms, d ≠ .interface ms)
  (hx : Rep1 E v (a.eval x)) (hn : v.named (fun n => (hp n).isSome) = true) : Good cx.P o w0 N env hp (.ifc t v) [] a w := by
 refine Good.value (E' := E) (x := .iface t (a.eval x)) (w' := w) ?_ h (Rep1.of_cells1 rfl ?_) (by simpa [AV.named, updH_nil] using hn)
 ·simp only [execOp, hop, Instr.makeInterface, Sem.run_bind, run_underlying hu, Result.andThen_ok]
  cases d <;> first | rfl | exact absurd rfl (hd _)
 ·simp only [RepC]
  exact ⟨_, rfl, hx.1, hx.2.1, hx.2.2⟩
theorem good_typeAssert (h : Rel w0 E N env hp a w) {t s tt : TypeId} {x : Operand} {v z : AV} (hop : o.op = .typeAssert x s tt true) {d : TypeDesc} (hu : cx.P.underlying tt = some d) (hd : ∀ ms, d ≠ .interface ms)
  (hx : Rep1 E (.ifc t v) (a.eval x)) (hp' : v.plain = true) (hn : v.named (fun n => (hp n).isSome) = true) (hz : zeroOK cx.P tt z = true) (hzf : zeroForm cx.P tt z = true) :
  Good cx.P o w0 N env hp (if t = tt then .tup [v, .bool true] else .tup [z, .bool false]) [] a w := by
 have hx' := hx.cells1 rfl
 simp only [RepC] at hx'
 obtain ⟨y, e, g1, g2, g3⟩ := hx'
 simp at e
 obtain ⟨val, z1, z2, z3, z4⟩ := zero_rep1 hz hzf
 by_cases ht : t = tt
 ·rw [if_pos ht]
  refine Good.value (E' := E) (x := .tuple #[y, .bool true]) (w' := w) ?_ h ⟨[y, .bool true], rfl, y, _, rfl, hp', ⟨g1, g2, g3⟩, .bool true, [], rfl, rfl, Rep1.bool.2 rfl, rfl⟩ (by simp [AV.named, AV.nameds, updH_nil, hn])
  simp only [execOp, hop, Instr.typeAssert, Sem.run_bind, run_underlying hu, Result.andThen_ok, e]
  cases d <;> first | (simp [ht]; done) | exact absurd rfl (hd _)
 ·rw [if_neg ht]
  have rz : Rep1 E z val := z2 E
  refine Good.value (E' := E) (x := .tuple #[val, .bool false]) (w' := w) ?_ h ⟨[val, .bool false], rfl, val, _, rfl, z3, rz, .bool false, [], rfl, rfl, Rep1.bool.2 rfl, rfl⟩ (by simp [AV.named, AV.nameds, z4])
  simp only [execOp, hop, Instr.typeAssert, Sem.run_bind, run_underlying hu, Result.andThen_ok, e]
  cases d <;> first | (simp [ht, z1 w]; done) | exact absurd rfl (hd _)
theorem good_typeAssert_nil (h : Rel w0 E N env hp a w) {s tt : TypeId} {x : Operand} {z : AV} (hop : o.op = .typeAssert x s tt true) {d : TypeDesc} (hu : cx.P.underlying tt = some d) (hd : ∀ ms, d ≠ .interface ms)
  (hx : Rep1 E .nili (a.eval x)) (hz : zeroOK cx.P tt z = true) (hzf : zeroForm cx.P tt z = true) : Good cx.P o w0 N env hp (.tup [z, .bool false]) [] a w := by
 have e := Rep1.nili.1 hx
 obtain ⟨val, z1, z2, z3, z4⟩ := zero_rep1 hz hzf
 have rz : Rep1 E z val := z2 E
 refine Good.value (E' := E) (x := .tuple #[val, .bool false]) (w' := w) ?_ h ⟨[val, .bool false], rfl, val, _, rfl, z3, rz, .bool false, [], rfl, rfl, Rep1.bool.2 rfl, rfl⟩ (by simp [AV.named, AV.nameds, z4])
 simp only [execOp, hop, Instr.typeAssert, Sem.run_bind, run_underlying hu, Result.andThen_ok, e]
 cases d <;> first | (simp [z1 w]; done) | exact absurd rfl (hd _)
theorem foldl_push : ∀ (l : List Int) (r : ByteArray), l.foldl (fun r n => r.push (UInt8.ofNat n.toNat)) r = ⟨(r.data.toList ++ l.map fun n => UInt8.ofNat n.toNat).toArray⟩
 | [], r => by simp
 | b :: l, r => by
  rw [List.foldl_cons, foldl_push l]
  simp [ByteArray.push]
theorem good_strOf (h : Rel w0 E N env hp a w) {s d e : TypeId} {x : Operand} {v : AV} {l : List Int} (hop : o.op = .convert s d x)
  (hs : cx.P.underlying s = some (.slice e)) (hd : cx.P.underlying d = some .string) (he : cx.P.underlying e = some (.int .u8)) (hf : listF0 hp v = some ⟨.int .u8, l⟩) (hx : Rep E v (a.eval x)) :
  Good cx.P o w0 N env hp (.str (l.map fun n => UInt8.ofNat n.toNat)) [] a w := by
 obtain ⟨ad, len, cap, ys, ex, hlen, hcap, hnone, hr, hcells⟩ := (listF0_shown h.toMem (fun n c hc => hc) hf hx).ex
 rw [RcL_ints] at hr
 subst hr
 refine Good.value (E' := E) (x := .string ⟨(l.map fun n => UInt8.ofNat n.toNat).toArray⟩) (w' := w) ?_ h (Rep1.str.2 rfl) (by simp [AV.named])
 have hconv : (convert s d (.slice ad len cap)).run cx.P w = (Conv.bytesToString (.slice ad len cap)).run cx.P w := by
  simp [convert, run_underlying hs, run_underlying hd, run_underlying he]
 have key : (Conv.bytesToString (.slice ad len cap)).run cx.P w = .ok (.string ⟨(l.map fun n => UInt8.ofNat n.toNat).toArray⟩) w := by
  cases ad with
  | none =>
   have hc0 : cap = 0 := hnone rfl
   have hl0 : l = [] := List.length_eq_zero_iff.1 (show l.length = 0 by have : len = l.length := hlen; omega)
   subst hl0
   rfl
  | some ad =>
   have hl : len = l.length := hlen
   have hload : (loadCells ad len).run cx.P w = .ok (l.map (Value.int .u8)).toArray w := by
    rw [hl]
    have := run_loadCells_list (P := cx.P) w ad (l.map (Value.int .u8)) (fun j v hv => ?_)
    ·simpa using this
    ·rcases hcells with h0 | ⟨g, off, e1, hc, _⟩
     ·rw [h0] at hv; simp at hv
     ·cases e1
      have := hc j v hv
      obtain ⟨c, T, fz, k1, k2⟩ := cellOf_of this
      rw [cell_at k1]; exact k2
   rw [run_bytesToString w ad len cap l hload, foldl_push]
   rfl
 simp only [execOp, hop, ex, Sem.run_bind, hconv, key, Result.andThen_ok]
 rfl
end
end Go.Sy
set_option linter.unusedVariables false
set_option linter.unusedSimpArgs false
namespace Go.Sy
open Go Go.RowKit
section
variable {cx : Cx} {G : Ini → Prop} {w0 : Ini} {E : Emb} {N : Nat} {env hp : Nat → Option AV} {a : Act} {w : World} {o : Oper}
theorem own_some (h : Rel w0 E N env hp a w) {n : Nat} {p : List Step} {x : Operand} {t : TypeId} (hc : CxOk cx G) (hG : G w0) (he : ev cx env t x = .ptr n p) : (hp n).isSome = true := by
 have := (ev_sound hc hG h t x).2
 rw [he] at this
 simpa [AV.named] using this
theorem own_someO (h : Rel w0 E N env hp a w) {n : Nat} {p : List Step} {x : Operand} {t : TypeId} (hc : CxOk cx G) (hG : G w0) (he : (ev cx env t x).open = .ptr n p) : (hp n).isSome = true := by
 have := AV.open_named (ev_sound hc hG h t x).2
 rw [he] at this
 simpa [AV.named] using this
theorem get_plain {v u : AV} {s : Step} {p : List Step} (h : get v (s :: p) = some u) : v.plain = true := by
 rw [← v.open_plain]
 cases s <;> simp only [get, getK] at h <;> generalize v.open = v at h <;> cases v <;> first | rfl | cases h
theorem pimq_pim {E : Emb} {u : AV} {x : Value} (h : Rep1 E (.pimq true u) x) : Rep1 E (.pim true u) x := by
 have := h.cells1 rfl
 simp only [RepC] at this
 refine Rep1.of_cells1 rfl ?_
 simp only [RepC]
 rcases this with ⟨h0, _⟩ | ⟨_, h1⟩
 ·exact absurd h0 (by decide)
 ·exact h1
theorem opF_good (hc : CxOk cx G) (hG : G w0) (h : Rel w0 E N env hp a w) {v : AV} {δ : List (Nat × AV)} (hf : opF cx o env hp = some (v, δ)) : Good cx.P o w0 N env hp v δ a w := by
 have hev := fun (t : TypeId) (x : Operand) => ev_sound hc hG h t x
 have hp1 : ∀ {t : TypeId} {x : Operand} {u : AV}, ev cx env t x = u → u.plain = true → Rep1 E u (a.eval x) ∧ u.named (fun n => (hp n).isSome) = true := fun he hpl => ev_plain hc hG h he hpl
 have hp1o : ∀ {t : TypeId} {x : Operand} {u : AV}, (ev cx env t x).open = u → u.plain = true → Rep1 E u (a.eval x) ∧ u.named (fun n => (hp n).isSome) = true := fun {t x u} he hpl => by
  have h0 : (ev cx env t x).plain = true := by rw [← AV.open_plain, he]; exact hpl
  have h1 := hp1 (t := t) (x := x) rfl h0
  subst he
  exact ⟨Rep1_open.2 h1.1, AV.open_named h1.2⟩
 unfold opF opK at hf
 split at hf
 ·rename_i x hop
  simp only [P2, Option.some.injEq, Prod.mk.injEq] at hf
  obtain ⟨rfl, rfl⟩ := hf
  exact Good.value (E' := E) (by simp [execOp, hop]) h (hev _ _).1 (hev _ _).2
 ·rename_i x hop
  simp only [P2, Option.some.injEq, Prod.mk.injEq] at hf
  obtain ⟨rfl, rfl⟩ := hf
  exact Good.value (E' := E) (by simp [execOp, hop]) h (hev _ _).1 (hev _ _).2
 ·rename_i c x y hop
  split at hf
  ·rename_i b hb
   have hcb : a.eval c = .bool b := Rep1.bool.1 (hp1 hb rfl).1
   cases b <;> simp only [cond_true, cond_false, P2, Option.some.injEq, Prod.mk.injEq] at hf <;> obtain ⟨rfl, rfl⟩ := hf
   ·exact Good.value (E' := E) (x := a.eval y) (by simp [execOp, hop, hcb, asBool]) h (hev _ _).1 (hev _ _).2
   ·exact Good.value (E' := E) (x := a.eval x) (by simp [execOp, hop, hcb, asBool]) h (hev _ _).1 (hev _ _).2
  ·cases hf
 ·rename_i t hop
  split at hf
  ·rename_i d z hd hz
   split at hf
   ·rename_i hk
    simp only [P2, Option.some.injEq, Prod.mk.injEq] at hf
    obtain ⟨rfl, rfl⟩ := hf
    simp only [Bool.and_eq_true] at hk
    exact good_alloc h hop ⟨by simpa using hk.1, Nat.le_add_left _ _⟩ hk.2
   ·cases hf
  ·cases hf
 ·rename_i t x hop
  split at hf
  ·rename_i d hd
   split at hf
   ·rename_i hk
    simp only [P2, Option.some.injEq, Prod.mk.injEq] at hf
    obtain ⟨rfl, rfl⟩ := hf
    simp only [Bool.and_eq_true] at hk
    exact good_box h hop ⟨by simpa using hk.1, Nat.le_add_left _ _⟩ (hp1 rfl hk.2).1 (hp1 rfl hk.2).2
   ·cases hf
  ·cases hf
 ·rename_i t parts hop
  split at hf
  ·rename_i z hz
   split at hf
   ·rename_i hk
    rw [partsK_eq] at hf
    cases hps : partsK cx.P t z (parts.toList.map fun p => (p.1, ev cx env 0 p.2)) some with
    | none => rw [hps] at hf; cases hf
    | some u =>
     rw [hps] at hf
     simp only [Option.bind_some, P2, Option.some.injEq, Prod.mk.injEq] at hf
     obtain ⟨rfl, rfl⟩ := hf
     simp only [Bool.and_eq_true] at hk
     exact good_build hc hG h hop hk.1.1 hk.1.2 hk.2 hps
   ·cases hf
  ·cases hf
 ·rename_i t n parts hop
  split at hf
  ·rename_i d e hd hu
   split at hf
   ·rename_i hdn
    split at hf
    ·rename_i s hs
     split at hf
     ·rename_i hn
      split at hf
      ·rename_i l hl
       simp only [P2, Option.some.injEq, Prod.mk.injEq] at hf
       obtain ⟨rfl, rfl⟩ := hf
       exact good_buildSlice h hc hG hop hu ⟨by simpa using hdn, Nat.le_add_left _ _⟩ hs (Nat.le_of_ble_eq_true hn) hl
      ·split at hf
       ·rename_i z hz
        split at hf
        ·rename_i hk
         simp only [Bool.and_eq_true] at hk
         split at hf
         ·rename_i l hl
          simp only [P2, Option.some.injEq, Prod.mk.injEq] at hf
          obtain ⟨rfl, rfl⟩ := hf
          exact good_buildSliceV h hc hG hop hu ⟨by simpa using hdn, Nat.le_add_left _ _⟩ hs (Nat.le_of_ble_eq_true hn) (Nat.eq_of_beq_eq_true hk.1.2) hk.1.1 (Nat.eq_of_beq_eq_true hk.2) hl
         ·cases hf
        ·cases hf
       ·cases hf
     ·cases hf
    ·cases hf
   ·cases hf
  ·cases hf
 ·rename_i t x y hop
  split at hf
  ·rename_i d e hd hu
   split at hf
   ·rename_i hdn
    split at hf
    ·rename_i s b n c hs hb hx hy
     cases h0 : decide (0 ≤ n)
     ·rw [h0] at hf; cases hf
     ·rw [h0] at hf
      simp only [cond_true] at hf
      cases h1 : decide (n ≤ c)
      ·rw [h1] at hf; cases hf
      ·rw [h1] at hf
       simp only [cond_true] at hf
       cases h2 : roomB b c.toNat
       ·rw [h2] at hf; cases hf
       ·rw [h2] at hf
        simp only [cond_true] at hf
        have hx' : a.eval x = .int .i64 n := Rep1.int.1 (hp1 hx rfl).1
        have hy' : a.eval y = .int .i64 c := Rep1.int.1 (hp1 hy rfl).1
        split at hf
        ·rename_i hsame
         simp only [P2, Option.some.injEq, Prod.mk.injEq] at hf
         obtain ⟨rfl, rfl⟩ := hf
         have hxy : x = y := by
          unfold opK.sameOp at hsame
          split at hsame
          ·rw [Nat.eq_of_beq_eq_true hsame]
          ·cases hsame
         subst hxy
         have hnc : n = c := by rw [hx'] at hy'; cases hy'; rfl
         subst hnc
         exact good_makeSlice h hop hu ⟨by simpa using hdn, Nat.le_add_left _ _⟩ hs hb hx' hy' (of_decide_eq_true h0) (of_decide_eq_true h1) h2 (.inl ⟨rfl, rfl⟩)
        ·simp only [P2, Option.some.injEq, Prod.mk.injEq] at hf
         obtain ⟨rfl, rfl⟩ := hf
         exact good_makeSlice h hop hu ⟨by simpa using hdn, Nat.le_add_left _ _⟩ hs hb hx' hy' (of_decide_eq_true h0) (of_decide_eq_true h1) h2 (.inr rfl)
    ·cases hf
   ·cases hf
  ·cases hf
 ·rename_i t x hop
  split at hf
  ·rename_i n p hx
   split at hf
   ·rename_i c hc'
    rw [getB_eq] at hf
    cases hg : gett c p with
    | none => rw [hg] at hf; cases hf
    | some u =>
     rw [hg] at hf
     simp only [Option.bind_some] at hf
     split at hf
     ·rename_i hft
      simp only [P2, Option.some.injEq, Prod.mk.injEq] at hf
      obtain ⟨rfl, rfl⟩ := hf
      exact good_load_pre h hop (hp1o hx rfl).1 hc' hg hft
     ·cases hf
   ·cases hf
  ·rename_i fr u hx
   split at hf
   ·rename_i hft
    simp only [P2, Option.some.injEq, Prod.mk.injEq] at hf
    obtain ⟨rfl, rfl⟩ := hf
    exact good_load_pim h hop (hp1o hx rfl).1 (by have := (hp1o hx rfl).2; simpa [AV.named] using this) hft
   ·cases hf
  ·rename_i ok u hx
   cases ok
   ·cases hf
   ·simp only [cond_true] at hf
    split at hf
    ·rename_i hft
     simp only [P2, Option.some.injEq, Prod.mk.injEq] at hf
     obtain ⟨rfl, rfl⟩ := hf
     exact good_load_pim h hop (pimq_pim (hp1o hx rfl).1) (by have := (hp1o hx rfl).2; simpa [AV.named] using this) hft
    ·cases hf
  ·cases hf
 ·rename_i t x y hop
  split at hf
  ·rename_i n p hx
   split at hf
   ·rename_i c hc'
    split at hf
    ·rename_i hft0
     simp only [Bool.and_eq_true, Bool.not_eq_true'] at hft0
     have hft := hft0.1
     rw [setB_eq] at hf
     cases hs : sett c p (ev cx env t y) with
     | none => rw [hs] at hf; cases hf
     | some c' =>
      rw [hs] at hf
      simp only [Option.bind_some, P2, Option.some.injEq, Prod.mk.injEq] at hf
      obtain ⟨rfl, rfl⟩ := hf
      have hy := hp1 (t := t) (x := y) rfl (fitsT_spec hft).2.2
      exact good_store (hfr := hft0.2) h hop (hp1 hx rfl).1 hy.1 hy.2 hc' hs hft
    ·cases hf
   ·cases hf
  ·cases hf
 ·rename_i x hop
  split at hf
  ·rename_i n p hx
   simp only [P2, Option.some.injEq, Prod.mk.injEq] at hf
   obtain ⟨rfl, rfl⟩ := hf
   have := hp1o hx rfl
   have e := Rep1.ptr.1 this.1
   exact Good.value (E' := E) (x := a.eval x) (by simp [execOp, hop, e]) h this.1 this.2
  ·rename_i fr u hx
   simp only [P2, Option.some.injEq, Prod.mk.injEq] at hf
   obtain ⟨rfl, rfl⟩ := hf
   have := hp1o hx rfl
   obtain ⟨b, off, ys, e, _⟩ := pim_inv this.1
   exact Good.value (E' := E) (x := a.eval x) (by simp [execOp, hop, e]) h this.1 this.2
  ·rename_i ok u hx
   cases ok
   ·cases hf
   ·simp only [cond_true, P2, Option.some.injEq, Prod.mk.injEq] at hf
    obtain ⟨rfl, rfl⟩ := hf
    have h1 := hp1o hx rfl
    have h2 := pimq_pim h1.1
    obtain ⟨b, off, ys, e, _⟩ := pim_inv h2
    exact Good.value (E' := E) (x := a.eval x) (by simp [execOp, hop, e]) h h2 (by simpa [AV.named, updH_nil] using h1.2)
  ·cases hf
 ·rename_i op t x y yt hop
  rw [binK_eq] at hf
  cases hb : binK cx.P op t (ev cx env 0 x) (ev cx env 0 y) some with
  | none => rw [hb] at hf; cases hf
  | some u =>
   rw [hb] at hf
   simp only [Option.bind_some, P2, Option.some.injEq, Prod.mk.injEq] at hf
   obtain ⟨rfl, rfl⟩ := hf
   obtain ⟨z, h1, h2, h3, h4⟩ := binK_run (w := w) hb (hev 0 x).1 (hev 0 y).1 x y
   refine Good.value (E' := E) (x := z) (w' := w) ?_ h ((Rep.one h3).2 h2) (h4 _)
   simp only [execOp, hop, Sem.run_bind] at h1 ⊢
   rw [h1]; rfl
 ·rename_i op t x hop
  rw [unK_eq] at hf
  cases hb : unK op (ev cx env 0 x) some with
  | none => rw [hb] at hf; cases hf
  | some u =>
   rw [hb] at hf
   simp only [Option.bind_some, P2, Option.some.injEq, Prod.mk.injEq] at hf
   obtain ⟨rfl, rfl⟩ := hf
   obtain ⟨z, h1, h2, h3, h4⟩ := unK_run (P := cx.P) (w := w) hb (hev 0 x).1
   refine Good.value (E' := E) (x := z) (w' := w) ?_ h ((Rep.one h3).2 h2) (h4 _)
   simp [execOp, hop, h1]
 ·rename_i s d x hop
  split at hf
  ·rename_i ds kd n k hs hd hx
   simp only [P2, Option.some.injEq, Prod.mk.injEq] at hf
   obtain ⟨rfl, rfl⟩ := hf
   have e := Rep1.int.1 (hp1 hx rfl).1
   refine Good.value (E' := E) (x := .int kd (kd.wrap k)) (w' := w) ?_ h (Rep1.int.2 rfl) (by simp [AV.named])
   simp [execOp, hop, convert, run_underlying hs, run_underlying hd, e, Conv.intToInt]
  ·rename_i e l hs hd hx
   split at hf
   ·rename_i he
    simp only [P2, Option.some.injEq, Prod.mk.injEq] at hf
    obtain ⟨rfl, rfl⟩ := hf
    exact good_bytesOf h hop hs hd he (hp1 hx rfl).1
   ·cases hf
  ·rename_i e hs hd
   split at hf
   ·rename_i he
    rw [listK0_eq] at hf
    cases hl : listF0 hp (ev cx env 0 x) with
    | none => rw [hl] at hf; cases hf
    | some q =>
     rw [hl] at hf
     simp only [Option.bind_some] at hf
     obtain ⟨qs, ql⟩ := q
     cases qs with
     | int kq =>
      cases kq with
      | u8 =>
       simp only [P2, Option.some.injEq, Prod.mk.injEq] at hf
       obtain ⟨rfl, rfl⟩ := hf
       exact good_strOf h hop hs hd he hl (hev 0 x).1
      | _ => cases hf
     | _ => cases hf
   ·cases hf
  ·cases hf
 ·rename_i s x f hop
  split at hf
  ·rename_i fs hu
   split at hf
   ·rename_i fd n p hfd hx
    split at hf
    ·cases hf
    ·rename_i hs
     simp only [P2, Option.some.injEq, Prod.mk.injEq] at hf
     obtain ⟨rfl, rfl⟩ := hf
     exact good_fieldAddr h hop hu hfd hs (hp1o hx rfl).1 (own_someO h hc hG hx)
   ·rename_i fd fr u hfd hx
    split at hf
    ·cases hf
    ·rename_i hs
     rw [getK_eq] at hf
     cases hg : get u [.fld f fd.offset] with
     | none => rw [hg] at hf; cases hf
     | some u' =>
      rw [hg] at hf
      simp only [Option.bind_some, P2, Option.some.injEq, Prod.mk.injEq] at hf
      obtain ⟨rfl, rfl⟩ := hf
      exact good_fieldAddr_pim h hop hu hfd hs (hp1o hx rfl).1 (by have := (hp1o hx rfl).2; simpa [AV.named] using this) hg
   ·rename_i fd ok u hfd hx
    cases ok
    ·cases hf
    ·simp only [cond_true] at hf
     split at hf
     ·cases hf
     ·rename_i hs
      rw [getK_eq] at hf
      cases hg : get u [.fld f fd.offset] with
      | none => rw [hg] at hf; cases hf
      | some u' =>
       rw [hg] at hf
       simp only [Option.bind_some, P2, Option.some.injEq, Prod.mk.injEq] at hf
       obtain ⟨rfl, rfl⟩ := hf
       exact good_fieldAddr_pim h hop hu hfd hs (pimq_pim (hp1o hx rfl).1) (by have := (hp1o hx rfl).2; simpa [AV.named] using this) hg
   ·cases hf
  ·cases hf
 ·rename_i t x f hop
  split at hf
  ·rename_i fs hu
   split at hf
   ·rename_i fd hfd
    rw [getK_eq] at hf
    cases hg : get (ev cx env 0 x) [.fld f fd.offset] with
    | none => rw [hg] at hf; cases hf
    | some u =>
     rw [hg] at hf
     simp only [Option.bind_some] at hf
     split at hf
     ·rename_i hft
      simp only [P2, Option.some.injEq, Prod.mk.injEq] at hf
      obtain ⟨rfl, rfl⟩ := hf
      have hpl : (ev cx env 0 x).plain = true := get_plain hg
      have := hp1 (t := 0) (x := x) rfl hpl
      exact good_field h hop hu hfd this.1 this.2 hg hft
     ·cases hf
   ·cases hf
  ·cases hf
 ·rename_i t x i hop
  split at hf
  ·rename_i k j hi
   have hij : a.eval i = .int k j := Rep1.int.1 (hp1 hi rfl).1
   cases h0 : decide (0 ≤ j)
   ·rw [h0] at hf; cases hf
   ·rw [h0] at hf
    simp only [cond_true] at hf
    have h0' : 0 ≤ j := by simpa using h0
    split at hf
    ·rename_i n e hu
     cases hb : Nat.blt j.toNat n
     ·rw [hb] at hf; cases hf
     ·rw [hb] at hf
      simp only [cond_true] at hf
      have hb' : j.toNat < n := by simpa using hb
      split at hf
      ·rename_i sz hs
       split at hf
       ·rename_i m p hx
        simp only [P2, Option.some.injEq, Prod.mk.injEq] at hf
        obtain ⟨rfl, rfl⟩ := hf
        exact good_indexAddr h hop hu hij h0' hb' hs (hp1 hx rfl).1 (own_some h hc hG hx)
       ·rename_i fr u hx
        rw [getK_eq] at hf
        cases hg : get u [.idx j.toNat sz] with
        | none => rw [hg] at hf; cases hf
        | some u' =>
         rw [hg] at hf
         simp only [Option.bind_some, P2, Option.some.injEq, Prod.mk.injEq] at hf
         obtain ⟨rfl, rfl⟩ := hf
         exact good_indexAddr_pim h hop hu hij h0' hb' hs (hp1 hx rfl).1 (by have := (hp1 hx rfl).2; simpa [AV.named] using this) hg
       ·cases hf
      ·cases hf
    ·rename_i e hu
     split at hf
     ·rename_i sz hs
      split at hf
      ·rename_i m p s i0 len cap hx
       split at hf
       ·rename_i hsz
        cases hb : Nat.blt j.toNat len
        ·rw [hb] at hf; cases hf
        ·rw [hb] at hf
         simp only [cond_true, P2, Option.some.injEq, Prod.mk.injEq] at hf
         obtain ⟨rfl, rfl⟩ := hf
         have hb' : j.toNat < len := by simpa using hb
         exact good_indexAddr_sl h hop hu hij h0' hb' hs hsz (hp1 hx rfl).1 (by have := (hp1 hx rfl).2; simpa [AV.named] using this)
       ·cases hf
      ·rename_i m s hx
       split at hf
       ·rename_i s' l hm
        split at hf
        ·rename_i hsz
         cases hb : Nat.blt j.toNat l.length
         ·rw [hb] at hf; cases hf
         ·rw [hb] at hf
          simp only [cond_true, P2, Option.some.injEq, Prod.mk.injEq] at hf
          obtain ⟨rfl, rfl⟩ := hf
          have hb' : j.toNat < l.length := by simpa using hb
          exact good_indexAddr_own h hop hu hij h0' hm hb' hs (hp1 hx rfl).1
        ·cases hf
       ·cases hf
      ·rename_i m s i0 len hx
       split at hf
       ·rename_i hsz
        cases hb : Nat.blt j.toNat len
        ·rw [hb] at hf; cases hf
        ·rw [hb] at hf
         simp only [cond_true, P2, Option.some.injEq, Prod.mk.injEq] at hf
         obtain ⟨rfl, rfl⟩ := hf
         have hb' : j.toNat < len := by simpa using hb
         exact good_indexAddr_osl h hop hu hij h0' hb' hs hsz (hp1 hx rfl).1 (by have := (hp1 hx rfl).2; simpa [AV.named] using this)
       ·cases hf
      ·rename_i fr s l hx
       split at hf
       ·rename_i hsz
        cases hb : Nat.blt j.toNat l.length
        ·rw [hb] at hf; cases hf
        ·rw [hb] at hf
         simp only [cond_true, P2, Option.some.injEq, Prod.mk.injEq] at hf
         obtain ⟨rfl, rfl⟩ := hf
         have hb' : j.toNat < l.length := by simpa using hb
         exact good_indexAddr_isl h hop hu hij h0' hb' hs hsz (hp1 hx rfl).1
       ·cases hf
      ·rename_i fr s l n hx
       split at hf
       ·rename_i hsz
        cases hb : (Nat.blt j.toNat n && Nat.ble n l.length)
        ·rw [hb] at hf; cases hf
        ·rw [hb] at hf
         simp only [cond_true, P2, Option.some.injEq, Prod.mk.injEq] at hf
         obtain ⟨rfl, rfl⟩ := hf
         simp only [Bool.and_eq_true] at hb
         exact good_indexAddr_isw h hop hu hij h0' (by simpa using hb.1) (Nat.le_of_ble_eq_true hb.2) hs hsz (hp1 hx rfl).1
       ·cases hf
      ·cases hf
     ·cases hf
    ·cases hf
  ·cases hf
 ·rename_i t x i hop
  split at hf
  ·rename_i k j hi
   have hij : a.eval i = .int k j := Rep1.int.1 (hp1 hi rfl).1
   cases h0 : decide (0 ≤ j)
   ·rw [h0] at hf; cases hf
   ·rw [h0] at hf
    simp only [cond_true] at hf
    have h0' : 0 ≤ j := by simpa using h0
    split at hf
    ·rename_i n e hu
     cases hb : Nat.blt j.toNat n
     ·rw [hb] at hf; cases hf
     ·rw [hb] at hf
      simp only [cond_true] at hf
      have hb' : j.toNat < n := by simpa using hb
      split at hf
      ·rename_i sz hs
       rw [getK_eq] at hf
       cases hg : get (ev cx env 0 x) [.idx j.toNat sz] with
       | none => rw [hg] at hf; cases hf
       | some u =>
        rw [hg] at hf
        simp only [Option.bind_some] at hf
        split at hf
        ·rename_i hft
         simp only [P2, Option.some.injEq, Prod.mk.injEq] at hf
         obtain ⟨rfl, rfl⟩ := hf
         have hpl : (ev cx env 0 x).plain = true := get_plain hg
         have := hp1 (t := 0) (x := x) rfl hpl
         exact good_index h hop hu hij h0' hb' hs this.1 this.2 hg hft
        ·cases hf
      ·cases hf
    ·rename_i hu
     split at hf
     ·rename_i l hx
      cases hb : Nat.blt j.toNat l.length
      ·rw [hb] at hf; cases hf
      ·rw [hb] at hf
       simp only [cond_true, P2, Option.some.injEq, Prod.mk.injEq] at hf
       obtain ⟨rfl, rfl⟩ := hf
       have hb' : j.toNat < l.length := by simpa using hb
       exact good_index_str h hop hu hij h0' hb' (hp1 hx rfl).1
     ·cases hf
    ·cases hf
  ·cases hf
 ·rename_i x i hop
  split at hf
  ·rename_i l hx
   split at hf
   ·rename_i u hi
    simp only [P2, Option.some.injEq, Prod.mk.injEq] at hf
    obtain ⟨rfl, rfl⟩ := hf
    have := hev 0 x
    rw [hx] at this
    exact good_extract h hop this.1 (by simpa [AV.named] using this.2) hi
   ·cases hf
  ·cases hf
 ·rename_i t x lo hi hop
  split at hf
  ·rename_i n e hu
   split at hf
   ·rename_i s m p hs hx
    split at hf
    ·rename_i hsz
     rw [boundK_eq] at hf
     cases h1 : boundK cx env hi n n some with
     | none => rw [h1] at hf; cases hf
     | some hh =>
      rw [h1] at hf
      simp only [Option.bind_some] at hf
      rw [boundK_eq] at hf
      cases h2 : boundK cx env lo 0 hh some with
      | none => rw [h2] at hf; cases hf
      | some l =>
       rw [h2] at hf
       simp only [Option.bind_some, P2, Option.some.injEq, Prod.mk.injEq] at hf
       obtain ⟨rfl, rfl⟩ := hf
       exact good_slice_arr hc hG h hop hu hsz (hp1 hx rfl).1 (own_some h hc hG hx) h1 h2
    ·cases hf
   ·cases hf
  ·rename_i e hu
   split at hf
   ·rename_i m p s i len cap hx
    split at hf
    ·rename_i hsz
     rw [boundK_eq] at hf
     cases h1 : boundK cx env hi len cap some with
     | none => rw [h1] at hf; cases hf
     | some hh =>
      rw [h1] at hf
      simp only [Option.bind_some] at hf
      rw [boundK_eq] at hf
      cases h2 : boundK cx env lo 0 hh some with
      | none => rw [h2] at hf; cases hf
      | some l =>
       rw [h2] at hf
       simp only [Option.bind_some, P2, Option.some.injEq, Prod.mk.injEq] at hf
       obtain ⟨rfl, rfl⟩ := hf
       exact good_slice_sl hc hG h hop hu hsz (hp1 hx rfl).1 (by have := (hp1 hx rfl).2; simpa [AV.named] using this) h1 h2
    ·cases hf
   ·rename_i m s hx
    split at hf
    ·rename_i s' l0 hm
     split at hf
     ·rename_i hsz
      have hN : (hp m).isSome = true := by rw [hm]; rfl
      have fin : ∀ {v δ}, (boundK cx env hi l0.length l0.length fun h => boundK cx env lo 0 h fun l => P2 (.osl m s l (h - l)) []) = some (v, δ) → Good cx.P o w0 N env hp v δ a w := by
       intro v δ hf
       rw [boundK_eq] at hf
       cases h1 : boundK cx env hi l0.length l0.length some with
       | none => rw [h1] at hf; cases hf
       | some hh =>
        rw [h1] at hf
        simp only [Option.bind_some] at hf
        rw [boundK_eq] at hf
        cases h2 : boundK cx env lo 0 hh some with
        | none => rw [h2] at hf; cases hf
        | some l =>
         rw [h2] at hf
         simp only [Option.bind_some, P2, Option.some.injEq, Prod.mk.injEq] at hf
         obtain ⟨rfl, rfl⟩ := hf
         exact good_slice_own hc hG h hop hu hsz.1 hsz.2 (hp1 hx rfl).1 hm h1 h2
      split at hf
      ·simp only [P2, Option.some.injEq, Prod.mk.injEq] at hf
       obtain ⟨rfl, rfl⟩ := hf
       exact good_slice_whole h hop hu hsz.1 (hp1 hx rfl).1 hN
      ·exact fin hf
     ·cases hf
    ·cases hf
   ·rename_i m s i len hx
    split at hf
    ·rename_i s' l0 hm
     split at hf
     ·rename_i hsz
      rw [boundK_eq] at hf
      cases h1 : boundK cx env hi len (l0.length - i) some with
      | none => rw [h1] at hf; cases hf
      | some hh =>
       rw [h1] at hf
       simp only [Option.bind_some] at hf
       rw [boundK_eq] at hf
       cases h2 : boundK cx env lo 0 hh some with
       | none => rw [h2] at hf; cases hf
       | some l =>
        rw [h2] at hf
        simp only [Option.bind_some, P2, Option.some.injEq, Prod.mk.injEq] at hf
        obtain ⟨rfl, rfl⟩ := hf
        exact good_slice_osl hc hG h hop hu hsz.1 hsz.2 (hp1 hx rfl).1 hm h1 h2
     ·cases hf
    ·cases hf
   ·rename_i fr s l0 hx
    split at hf
    ·rename_i hsz
     rw [boundK_eq] at hf
     cases h1 : boundK cx env hi l0.length l0.length some with
     | none => rw [h1] at hf; cases hf
     | some hh =>
      rw [h1] at hf
      simp only [Option.bind_some] at hf
      rw [boundK_eq] at hf
      cases h2 : boundK cx env lo 0 hh some with
      | none => rw [h2] at hf; cases hf
      | some l =>
       rw [h2] at hf
       simp only [Option.bind_some, P2, Option.some.injEq, Prod.mk.injEq] at hf
       obtain ⟨rfl, rfl⟩ := hf
       exact good_slice_isl hc hG h hop hu hsz (hp1 hx rfl).1 h1 h2
    ·cases hf
   ·rename_i fr s l0 n hx
    split at hf
    ·rename_i hsz
     rw [boundK_eq] at hf
     cases h1 : boundK cx env hi n l0.length some with
     | none => rw [h1] at hf; cases hf
     | some hh =>
      rw [h1] at hf
      simp only [Option.bind_some] at hf
      rw [boundK_eq] at hf
      cases h2 : boundK cx env lo 0 hh some with
      | none => rw [h2] at hf; cases hf
      | some l =>
       rw [h2] at hf
       simp only [Option.bind_some, P2, Option.some.injEq, Prod.mk.injEq] at hf
       obtain ⟨rfl, rfl⟩ := hf
       exact good_slice_isw hc hG h hop hu hsz (hp1 hx rfl).1 h1 h2
    ·cases hf
   ·cases hf
  ·rename_i hu
   split at hf
   ·rename_i l0 hx
    rw [boundK_eq] at hf
    cases h1 : boundK cx env hi l0.length l0.length some with
    | none => rw [h1] at hf; cases hf
    | some hh =>
     rw [h1] at hf
     simp only [Option.bind_some] at hf
     rw [boundK_eq] at hf
     cases h2 : boundK cx env lo 0 hh some with
     | none => rw [h2] at hf; cases hf
     | some l =>
      rw [h2] at hf
      simp only [Option.bind_some, P2, Option.some.injEq, Prod.mk.injEq] at hf
      obtain ⟨rfl, rfl⟩ := hf
      exact good_slice_str hc hG h hop hu (hp1 hx rfl).1 h1 h2
   ·cases hf
  ·cases hf
 ·rename_i c hop
  split at hf
  ·rename_i fop hcal
   split at hf
   ·rename_i g caps hg
    have := (hp1 hg rfl).1.cells1 rfl
    simp only [RepC] at this
    obtain ⟨vs, e, hvs⟩ := this
    simp at e
    split at hf
    ·rename_i hcp
     exact good_call hc hG h hop hcal e hcp (by simpa using hvs) hf
    ·cases hf
   ·cases hf
  ·rename_i hcal
   have hargs : ∀ {l : List AV}, c.args.toList.map (ev cx env 0) = l → ∀ (i : Nat) (v : AV), l[i]? = some v → ∃ x, c.args[i]? = some x ∧ ev cx env 0 x = v := by
    intro l hl i v hv
    rw [← hl, List.getElem?_map] at hv
    cases hq : c.args.toList[i]? with
    | none => rw [hq] at hv; cases hv
    | some x => rw [hq] at hv; simp at hv; exact ⟨x, by simpa using hq, hv⟩
   have hrun : ∀ {n : Int} {T : TypeId}, c.argTypes[0]? = some T → (∀ x, c.args[0]? = some x → (Builtin.len_ c.argTypes o.type (c.args.map a.eval)).run cx.P w = .ok (goInt n) w) → (∃ x, c.args[0]? = some x) → Good cx.P o w0 N env hp (.int .i64 n) [] a w := by
    intro n T hT hr ⟨x, hx⟩
    refine Good.value (E' := E) (x := goInt n) (w' := w) ?_ h (Rep1.int.2 rfl) (by simp [AV.named])
    simp [execOp, hop, resolve, hcal, invoke, builtin, hr x hx]
   split at hf
   ·rename_i m p s i len cap e hl hT
    simp only [P2, Option.some.injEq, Prod.mk.injEq] at hf
    obtain ⟨rfl, rfl⟩ := hf
    obtain ⟨x, hx, hex⟩ := hargs hl 0 _ rfl
    obtain ⟨T, hT1, hT2⟩ := Option.bind_eq_some_iff.1 hT
    have hr := (hp1 hex rfl).1.cells1 rfl
    simp only [RepC] at hr
    obtain ⟨_, off, e1, _⟩ := hr
    simp at e1
    refine hrun hT1 (fun y hy => ?_) ⟨x, hx⟩
    rw [hx] at hy; cases hy
    simp [Builtin.len_, hT1, hx, run_underlying hT2, e1]
   ·rename_i m s i len e hl hT
    simp only [P2, Option.some.injEq, Prod.mk.injEq] at hf
    obtain ⟨rfl, rfl⟩ := hf
    obtain ⟨x, hx, hex⟩ := hargs hl 0 _ rfl
    obtain ⟨T, hT1, hT2⟩ := Option.bind_eq_some_iff.1 hT
    have e1 : ∃ ad cap, a.eval x = .slice ad len cap := by
     rcases osl_inv (hp1 hex rfl).1 with ⟨_, h2, h3⟩ | ⟨off, cap, h3, _⟩
     ·exact ⟨_, _, by rw [h3, h2]⟩
     ·exact ⟨_, _, h3⟩
    obtain ⟨ad, cap, e1⟩ := e1
    refine hrun hT1 (fun y hy => ?_) ⟨x, hx⟩
    rw [hx] at hy; cases hy
    simp [Builtin.len_, hT1, hx, run_underlying hT2, e1]
   ·rename_i m s e hl hT
    split at hf
    ·rename_i s' l hm
     split at hf
     ·rename_i hss
      simp only [P2, Option.some.injEq, Prod.mk.injEq] at hf
      obtain ⟨rfl, rfl⟩ := hf
      obtain ⟨x, hx, hex⟩ := hargs hl 0 _ rfl
      obtain ⟨T, hT1, hT2⟩ := Option.bind_eq_some_iff.1 hT
      have e1 : ∃ ad cap, a.eval x = .slice ad l.length cap := by
       rcases own_inv h hm (hp1 hex rfl).1 with ⟨h2, _, h3⟩ | ⟨off, cap, h3, _⟩
       ·exact ⟨_, _, by rw [h3, h2]; rfl⟩
       ·exact ⟨_, _, h3⟩
      obtain ⟨ad, cap, e1⟩ := e1
      refine hrun hT1 (fun y hy => ?_) ⟨x, hx⟩
      rw [hx] at hy; cases hy
      simp [Builtin.len_, hT1, hx, run_underlying hT2, e1]
     ·cases hf
    ·rename_i mm hm
     simp only [P2, Option.some.injEq, Prod.mk.injEq] at hf
     obtain ⟨rfl, rfl⟩ := hf
     obtain ⟨x, hx, hex⟩ := hargs hl 0 _ rfl
     obtain ⟨T, hT1, hT2⟩ := Option.bind_eq_some_iff.1 hT
     have e1 : ∃ ad cap, a.eval x = .slice ad (E.len m) cap := by
      have hr := (hp1 hex rfl).1.cells1 rfl
      simp only [RepC] at hr
      obtain ⟨y, e0, ⟨_, h2, h3⟩ | ⟨off, cap, h3, _⟩⟩ := hr
      ·simp at e0; exact ⟨_, _, by rw [e0, h3, h2]⟩
      ·simp at e0; exact ⟨_, _, by rw [e0, h3]⟩
     obtain ⟨ad, cap, e1⟩ := e1
     rw [h.gone m mm hm]
     refine hrun hT1 (fun y hy => ?_) ⟨x, hx⟩
     rw [hx] at hy; cases hy
     simp [Builtin.len_, hT1, hx, run_underlying hT2, e1]
    ·cases hf
   ·rename_i fr s l e hl hT
    simp only [P2, Option.some.injEq, Prod.mk.injEq] at hf
    obtain ⟨rfl, rfl⟩ := hf
    obtain ⟨x, hx, hex⟩ := hargs hl 0 _ rfl
    obtain ⟨T, hT1, hT2⟩ := Option.bind_eq_some_iff.1 hT
    have hr := (hp1 hex rfl).1.cells1 rfl
    simp only [RepC] at hr
    obtain ⟨y, ys, e1, _, ad, len, cap, e2, e3, _⟩ := hr
    simp at e1
    refine hrun hT1 (fun y' hy => ?_) ⟨x, hx⟩
    rw [hx] at hy; cases hy
    simp [Builtin.len_, hT1, hx, run_underlying hT2, e1, e2, e3]
   ·rename_i fr s l n e hl hT
    simp only [P2, Option.some.injEq, Prod.mk.injEq] at hf
    obtain ⟨rfl, rfl⟩ := hf
    obtain ⟨x, hx, hex⟩ := hargs hl 0 _ rfl
    obtain ⟨T, hT1, hT2⟩ := Option.bind_eq_some_iff.1 hT
    have hr := (hp1 hex rfl).1.cells1 rfl
    simp only [RepC] at hr
    obtain ⟨y, ys, e1, _, ad, cap, e2, _⟩ := hr
    simp at e1
    refine hrun hT1 (fun y' hy => ?_) ⟨x, hx⟩
    rw [hx] at hy; cases hy
    simp [Builtin.len_, hT1, hx, run_underlying hT2, e1, e2]
   ·rename_i s e hl hT
    simp only [P2, Option.some.injEq, Prod.mk.injEq] at hf
    obtain ⟨rfl, rfl⟩ := hf
    obtain ⟨x, hx, hex⟩ := hargs hl 0 _ rfl
    obtain ⟨T, hT1, hT2⟩ := Option.bind_eq_some_iff.1 hT
    have hr := (hp1 hex rfl).1.cells1 rfl
    simp only [RepC] at hr
    simp at hr
    refine hrun hT1 (fun y hy => ?_) ⟨x, hx⟩
    rw [hx] at hy; cases hy
    simp [Builtin.len_, hT1, hx, run_underlying hT2, hr]
   ·rename_i l hl hT
    simp only [P2, Option.some.injEq, Prod.mk.injEq] at hf
    obtain ⟨rfl, rfl⟩ := hf
    obtain ⟨x, hx, hex⟩ := hargs hl 0 _ rfl
    obtain ⟨T, hT1, hT2⟩ := Option.bind_eq_some_iff.1 hT
    have hr := (hp1 hex rfl).1.cells1 rfl
    simp only [RepC] at hr
    simp at hr
    refine hrun hT1 (fun y hy => ?_) ⟨x, hx⟩
    rw [hx] at hy; cases hy
    have hsz : (⟨l.toArray⟩ : ByteArray).size = l.length := by simp [ByteArray.size]
    simp [Builtin.len_, hT1, hx, run_underlying hT2, hr, hsz]
   ·rename_i n e _ _ hT
    split at hf
    ·rename_i _ x hx
     simp only [P2, Option.some.injEq, Prod.mk.injEq] at hf
     obtain ⟨rfl, rfl⟩ := hf
     obtain ⟨T, hT1, hT2⟩ := Option.bind_eq_some_iff.1 hT
     refine hrun hT1 (fun y hy => ?_) ⟨x, hx⟩
     rw [hx] at hy; cases hy
     simp [Builtin.len_, hT1, hx, run_underlying hT2]
    ·cases hf
   ·cases hf
  ·rename_i hcal
   split at hf
   ·rename_i d s e hl hT
    split at hf
    ·rename_i hsz
     obtain ⟨T, hT1, hT2⟩ := Option.bind_eq_some_iff.1 hT
     obtain ⟨x, y, hxy⟩ : ∃ x y, c.args = #[x, y] := by
      have hlen := congrArg List.length hl
      simp at hlen
      match hq : c.args, hlen with
      | ⟨[x, y]⟩, _ => exact ⟨x, y, rfl⟩
     rw [hxy] at hl
     simp at hl
     obtain ⟨h1, h2⟩ := hl
     have hd := (hev 0 x).1
     have hs := (hev 0 y).1
     rw [h1] at hd
     rw [h2] at hs
     unfold copyK at hf
     split at hf
     ·rename_i n s0
      simp only [opK.sliceSh, Option.map_some] at hsz
      rw [listK0_eq] at hf
      cases hq : listF0 hp s with
      | none => rw [hq] at hf; cases hf
      | some q =>
       rw [hq] at hf
       simp only [Option.bind_some] at hf
       split at hf
       ·rename_i s2 l hm
        split at hf
        ·rename_i hss
         simp only [Bool.and_eq_true, Bool.not_eq_true'] at hss
         simp only [Option.bind_eq_some_iff] at hf
         obtain ⟨ys, hys, hf⟩ := hf
         simp only [P2, Option.some.injEq, Prod.mk.injEq] at hf
         obtain ⟨rfl, rfl⟩ := hf
         exact good_copy_row (hfr := hss.2) h hop hcal hxy hT1 hT2 hsz hd hs hq (.inl ⟨rfl, rfl, rfl⟩) hm hss.1 hys (by omega)
        ·cases hf
       ·cases hf
     ·rename_i n s0 i len
      simp only [opK.sliceSh, Option.map_some] at hsz
      rw [listK0_eq] at hf
      cases hq : listF0 hp s with
      | none => rw [hq] at hf; cases hf
      | some q =>
       rw [hq] at hf
       simp only [Option.bind_some] at hf
       split at hf
       ·rename_i s2 l hm
        split at hf
        ·rename_i hss
         simp only [Bool.and_eq_true, Bool.not_eq_true'] at hss
         simp only [Option.bind_eq_some_iff] at hf
         obtain ⟨ys, hys, hf⟩ := hf
         cases hb : Nat.ble (i + len) l.length
         ·rw [hb] at hf; cases hf
         ·rw [hb] at hf
          simp only [cond_true, P2, Option.some.injEq, Prod.mk.injEq] at hf
          obtain ⟨rfl, rfl⟩ := hf
          exact good_copy_row (hfr := hss.2) h hop hcal hxy hT1 hT2 hsz hd hs hq (.inr rfl) hm hss.1 hys (Nat.le_of_ble_eq_true hb)
        ·cases hf
       ·cases hf
     ·rename_i n p kb i len cap
      simp only [opK.sliceSh, Option.map_some] at hsz
      rw [listK0_eq] at hf
      cases hq : listF0 hp s with
      | none => rw [hq] at hf; cases hf
      | some q =>
       rw [hq] at hf
       simp only [Option.bind_some] at hf
       obtain ⟨qs, ql⟩ := q
       simp only at hf
       split at hf
       ·rename_i ka xs
        split at hf
        ·rename_i hkk
         obtain ⟨hkk, hfr⟩ := hkk
         subst hkk
         split at hf
         ·rename_i cc hcc
          rw [getB_eq] at hf
          cases hg : gett cc p with
          | none => rw [hg] at hf; cases hf
          | some u =>
           rw [hg] at hf
           simp only [Option.bind_some] at hf
           split at hf
           ·rename_i kc m l hi
            split at hf
            ·rename_i hkc
             subst hkc
             cases hb : (Nat.ble (i + len) m && intsFit u (spliceL l i ((xs : List Int).take len)))
             ·rw [hb] at hf; cases hf
             ·rw [hb] at hf
              simp only [cond_true] at hf
              rw [setB_eq] at hf
              cases hset : sett cc p (intsTo u (spliceL l i ((xs : List Int).take len))) with
              | none => rw [hset] at hf; cases hf
              | some c' =>
               rw [hset] at hf
               simp only [Option.bind_some, P2, Option.some.injEq, Prod.mk.injEq] at hf
               obtain ⟨rfl, rfl⟩ := hf
               simp only [Bool.and_eq_true] at hb
               exact good_copy_sl (hfr := hfr) h hop hcal hxy hT1 hT2 hsz hd hs hq hcc hg hi (Nat.le_of_ble_eq_true hb.1) hb.2 hset
            ·cases hf
           ·cases hf
         ·cases hf
        ·cases hf
       ·cases hf
     ·cases hf
    ·cases hf
   ·cases hf
  ·rename_i hcal
   split at hf
   ·rename_i d e hl hT
    obtain ⟨T, hT1, hT2⟩ := Option.bind_eq_some_iff.1 hT
    obtain ⟨x, hxy⟩ : ∃ x, c.args = #[x] := by
     have hlen := congrArg List.length hl
     simp at hlen
     match hq : c.args, hlen with
     | ⟨[x]⟩, _ => exact ⟨x, rfl⟩
    rw [hxy] at hl
    simp at hl
    have hd := (hev 0 x).1
    rw [hl] at hd
    unfold clearK at hf
    split at hf
    ·rename_i n p kb i len cap
     split at hf
     ·rename_i hk
      obtain ⟨hfr, hz⟩ := hk
      split at hf
      ·rename_i cc hcc
       rw [getB_eq] at hf
       cases hg : gett cc p with
       | none => rw [hg] at hf; cases hf
       | some u =>
        rw [hg] at hf
        simp only [Option.bind_some] at hf
        split at hf
        ·rename_i kc m l hi
         split at hf
         ·rename_i hkc
          subst hkc
          cases hb : (Nat.ble (i + len) m && intsFit u (spliceL l i (List.replicate len 0)))
          ·rw [hb] at hf; cases hf
          ·rw [hb] at hf
           simp only [cond_true] at hf
           rw [setB_eq] at hf
           cases hset : sett cc p (intsTo u (spliceL l i (List.replicate len 0))) with
           | none => rw [hset] at hf; cases hf
           | some c' =>
            rw [hset] at hf
            simp only [Option.bind_some, P2, Option.some.injEq, Prod.mk.injEq] at hf
            obtain ⟨rfl, rfl⟩ := hf
            simp only [Bool.and_eq_true] at hb
            exact good_clear_sl (hfr := hfr) h hop hcal hxy hT1 hT2 hz hd hcc hg hi (Nat.le_of_ble_eq_true hb.1) hb.2 hset
         ·cases hf
        ·cases hf
      ·cases hf
     ·cases hf
    ·cases hf
   ·cases hf
  ·rename_i hcal
   split at hf
   ·rename_i dd d s e e' hdst hl hT hT'
    split at hf
    ·rename_i hk
     simp only [Bool.and_eq_true] at hk
     split at hf
     ·rename_i b hb
      obtain ⟨T, hT1, hT2⟩ := Option.bind_eq_some_iff.1 hT
      obtain ⟨U, hU1, hU2⟩ := Option.bind_eq_some_iff.1 hT'
      obtain ⟨x, y, hxy⟩ : ∃ x y, c.args = #[x, y] := by
       have hlen := congrArg List.length hl
       simp at hlen
       match hq : c.args, hlen with
       | ⟨[x, y]⟩, _ => exact ⟨x, y, rfl⟩
      rw [hxy] at hl
      simp at hl
      obtain ⟨h1, h2⟩ := hl
      have hd := (hev (c.argTypes[0]?.getD 0) x).1
      have hs := (hev (c.argTypes[1]?.getD 0) y).1
      rw [h1] at hd
      rw [h2] at hs
      have hdn : NewN hp (apN d (freeN hp (dd + 1000))) := ⟨by simpa using hk.1.1, apN_big _ _ (freeN_big hp _ (Nat.le_add_left _ _))⟩
      have hsz2 := Nat.eq_of_beq_eq_true hk.2
      have htys : c.argTypes = #[T, U] := by
       match hq : c.argTypes, hsz2 with
       | ⟨[p, q]⟩, _ =>
        rw [hq] at hT1 hU1
        simp at hT1 hU1
        rw [hT1, hU1]
      have hargs2 : c.args.map a.eval = #[a.eval x, a.eval y] := by rw [hxy]; simp
      obtain ⟨s0, hs0, hsz0⟩ : ∃ s0, opK.sliceSh d = some s0 ∧ shapeZ cx.P e = some s0 := by
       have := hk.1.2
       unfold opK.appOK at this
       split at this
       ·rename_i s1 s2 q1 q2
        have := shEq_eq' this
        subst this
        exact ⟨_, q1, q2⟩
       ·cases this
      have hsh : ∀ {q : SL}, listF0 hp s = some q → Shown E hp w q.s q.l (a.eval y) := fun hq => listF0_shown h.toMem (fun _ _ h => h) hq hs
      unfold appendK at hf
      split at hf
      ·rename_i s1
       simp only [opK.sliceSh, Option.some.injEq] at hs0
       subst hs0
       rw [listK0_eq] at hf
       cases hq : listF0 hp s with
       | none => rw [hq] at hf; cases hf
       | some q =>
        rw [hq] at hf
        simp only [Option.bind_some, Option.bind_eq_some_iff] at hf
        obtain ⟨ys, hys, hf⟩ := hf
        cases hr : roomB b ys.length
        ·rw [hr] at hf; cases hf
        ·rw [hr] at hf
         simp only [cond_true, P2, Option.some.injEq, Prod.mk.injEq] at hf
         obtain ⟨rfl, rfl⟩ := hf
         obtain ⟨q1, q2⟩ := q
         obtain ⟨e1, e2⟩ := castL_eq hys
         simp only at e1 e2
         subst e1; simp only at e2; subst e2
         obtain ⟨yc, r1, r2, _⟩ := shown_src (P := cx.P) hU2 (hsh hq)
         have hx0 := Rep1.cells1 (E := E) (v := .nsl s1) hd rfl
         simp only [RepC] at hx0
         simp at hx0
         rw [hx0] at hargs2
         rcases Nat.eq_zero_or_pos q2.length with h0 | h0
         ·have : q2 = [] := List.length_eq_zero_iff.1 h0
          subst this
          have hy : yc = [] := by simpa [RcL] using r1
          subst hy
          exact append_none h hop hcal htys hT2 hsz0 hdn hargs2 r2
         ·exact append_new (l := []) (lc := []) h hop hcal htys hT2 hsz0 hb hdn hargs2 (by simp [Builtin.firstCells]) rfl rfl r2 r1 (by omega) (by simpa using hr)
      ·rename_i n s1
       simp only [opK.sliceSh, Option.some.injEq] at hs0
       subst hs0
       rw [listK0_eq] at hf
       cases hq : listF0 hp s with
       | none => rw [hq] at hf; cases hf
       | some q =>
        rw [hq] at hf
        simp only [Option.bind_some] at hf
        split at hf
        ·rename_i s2 l hm
         split at hf
         ·rename_i hss
          have := shEq_eq' hss
          subst this
          simp only [Option.bind_eq_some_iff] at hf
          obtain ⟨ys, hys, hf⟩ := hf
          cases hr : roomB b (l.length + ys.length)
          ·rw [hr] at hf; cases hf
          ·rw [hr] at hf
           simp only [cond_true, P2, Option.some.injEq, Prod.mk.injEq] at hf
           obtain ⟨rfl, rfl⟩ := hf
           obtain ⟨q1, q2⟩ := q
           obtain ⟨e1, e2⟩ := castL_eq hys
           simp only at e1 e2
           subst e1; simp only at e2; subst e2
           obtain ⟨yc, r1, r2, _⟩ := shown_src (P := cx.P) hU2 (hsh hq)
           have := append_row (len := l.length) h hop hcal htys hT2 hsz0 hb hdn apN_own (fun hfn => ⟨apN_fro hfn, rfl⟩) hargs2 hm (.inl ⟨rfl, rfl, rfl⟩) hd (Nat.le_refl _) r2 r1 hr
           rwa [List.take_length] at this
         ·cases hf
        ·cases hf
      ·rename_i n s1 i len
       simp only [opK.sliceSh, Option.some.injEq] at hs0
       subst hs0
       rw [listK0_eq] at hf
       cases hq : listF0 hp s with
       | none => rw [hq] at hf; cases hf
       | some q =>
        rw [hq] at hf
        simp only [Option.bind_some] at hf
        split at hf
        ·rename_i s2 l hm
         split at hf
         ·rename_i hss
          simp only [Bool.and_eq_true] at hss
          have := shEq_eq' hss.1
          subst this
          have hi0 := Nat.eq_of_beq_eq_true hss.2.1
          subst hi0
          simp only [Option.bind_eq_some_iff] at hf
          obtain ⟨ys, hys, hf⟩ := hf
          cases hr : (Nat.ble len l.length && roomB b (len + ys.length))
          ·rw [hr] at hf; cases hf
          ·rw [hr] at hf
           simp only [cond_true, P2, Option.some.injEq, Prod.mk.injEq] at hf
           obtain ⟨rfl, rfl⟩ := hf
           simp only [Bool.and_eq_true] at hr
           obtain ⟨q1, q2⟩ := q
           obtain ⟨e1, e2⟩ := castL_eq hys
           simp only at e1 e2
           subst e1; simp only at e2; subst e2
           obtain ⟨yc, r1, r2, _⟩ := shown_src (P := cx.P) hU2 (hsh hq)
           exact append_row (len := len) h hop hcal htys hT2 hsz0 hb hdn apN_osl (fun hfn => by have h2 := hss.2; simp [hfn] at h2) hargs2 hm (.inr rfl) hd (Nat.le_of_ble_eq_true hr.1) r2 r1 hr.2
         ·cases hf
        ·cases hf
      ·rename_i n p s1 i len cap
       simp only [opK.sliceSh, Option.some.injEq] at hs0
       subst hs0
       rw [listK0_eq] at hf
       cases hq : listF0 hp s with
       | none => rw [hq] at hf; cases hf
       | some q =>
        rw [hq] at hf
        simp only [Option.bind_some] at hf
        rw [listK0_eq] at hf
        cases hq' : listF0 hp (.sl n p s1 i len cap) with
        | none => rw [hq'] at hf; cases hf
        | some q' =>
         rw [hq'] at hf
         simp only [Option.bind_some, Option.bind_eq_some_iff] at hf
         obtain ⟨ys, hys, hf⟩ := hf
         split at hf
         ·rename_i m hlv
          split at hf
          ·rename_i hblt
           cases hr : roomB b (len + ys.length)
           ·rw [hr] at hf; cases hf
           ·rw [hr] at hf
            simp only [cond_true, P2, Option.some.injEq, Prod.mk.injEq] at hf
            obtain ⟨rfl, rfl⟩ := hf
            obtain ⟨q1, q2⟩ := q
            obtain ⟨k1, k2⟩ := q'
            obtain ⟨e1, e2⟩ := castL_eq hys
            simp only at e1 e2
            subst e1; simp only at e2; subst e2
            obtain ⟨yc, r1, r2, _⟩ := shown_src (P := cx.P) hU2 (hsh hq)
            have hk1 : k1 = s1 := by
             unfold listF0 listK0 at hq'
             simp only at hq'
             split at hq'
             ·rw [getB_eq] at hq'
              cases hg : gett _ p with
              | none => rw [hg] at hq'; cases hq'
              | some u =>
               rw [hg] at hq'
               simp only [Option.bind_some] at hq'
               split at hq'
               ·split at hq'
                ·rename_i hss
                 generalize Nat.ble _ _ = bb at hq'
                 cases bb
                 ·cases hq'
                 ·simp at hq'; rw [← hq'.1]; exact (shEq_eq' hss).symm
                ·cases hq'
               ·split at hq'
                ·rename_i hss
                 generalize Nat.ble _ _ = bb at hq'
                 cases bb
                 ·cases hq'
                 ·simp at hq'; rw [← hq'.1]; exact (shEq_eq' hss).symm
                ·cases hq'
               ·cases hq'
             ·cases hq'
            subst hk1
            have hsh' := listF0_shown h.toMem (fun _ _ h => h) hq' hd
            obtain ⟨lc, t1, t2, _⟩ := shown_src (P := cx.P) hT2 hsh'
            have hx0 := Rep1.cells1 (E := E) (v := .sl n p k1 i len cap) hd rfl
            simp only [RepC] at hx0
            obtain ⟨_, off, ex, _⟩ := hx0
            simp at ex
            have hlen : k2.length = len := by
             have := t2.len w
             rw [ex] at this
             simp [Builtin.lenOf] at this
             exact this.symm
            have hm : q2.length = m := by
             have hl2 := r2.len w
             unfold lenV at hlv
             split at hlv
             ·rename_i n' p' s' i' len' cap'
              simp at hlv; subst hlv
              have hy0 := Rep1.cells1 (E := E) (v := .sl n' p' s' i' len' cap') hs rfl
              simp only [RepC] at hy0
              obtain ⟨_, off', ey, _⟩ := hy0
              simp at ey
              rw [ey] at hl2
              simp [Builtin.lenOf] at hl2
              exact hl2.symm
             ·rename_i n' s' i' len'
              simp at hlv; subst hlv
              rcases osl_inv (E := E) (m := n') (i0 := i') (len := len') (s := s') hs with ⟨_, w2, w3⟩ | ⟨off', cap', w3, _⟩
              ·rw [w3] at hl2; simp [Builtin.lenOf] at hl2; omega
              ·rw [w3] at hl2; simp [Builtin.lenOf] at hl2; exact hl2.symm
             ·rename_i fr' s' l'
              simp at hlv; subst hlv
              have hy0 := Rep1.cells1 (E := E) (v := .isl fr' s' l') hs rfl
              simp only [RepC] at hy0
              obtain ⟨y', ys', ey, _, ad', len', cap', ey', elen', _⟩ := hy0
              simp at ey
              rw [ey, ey'] at hl2
              simp [Builtin.lenOf] at hl2
              omega
             ·rename_i fr' s' l' n'
              simp at hlv; subst hlv
              have hy0 := Rep1.cells1 (E := E) (v := .isw fr' s' l' n') hs rfl
              simp only [RepC] at hy0
              obtain ⟨y', ys', ey, _, ad', cap', ey', _⟩ := hy0
              simp at ey
              rw [ey, ey'] at hl2
              simp [Builtin.lenOf] at hl2
              omega
             ·rename_i s'
              simp at hlv; subst hlv
              have hy0 := Rep1.cells1 (E := E) (v := .nsl s') hs rfl
              simp only [RepC] at hy0
              simp at hy0
              rw [hy0] at hl2
              simp [Builtin.lenOf] at hl2
              exact hl2.symm
             ·cases hlv
            have hcells := t2.cellsD
            rw [hlen, ex] at hcells
            rw [ex] at hargs2
            have hlt : cap < len + m := by simpa using hblt
            exact append_new (l := k2) (lc := lc) h hop hcal htys hT2 hsz0 hb hdn hargs2 hcells t1 hlen r2 r1 (by omega) hr
          ·cases hf
         ·cases hf
      ·cases hf
     ·cases hf
    ·cases hf
   ·cases hf
  ·rename_i hcal
   split at hf
   ·rename_i ka x kb y hl
    split at hf
    ·rename_i hk
     subst hk
     simp only [P2, Option.some.injEq, Prod.mk.injEq] at hf
     obtain ⟨rfl, rfl⟩ := hf
     obtain ⟨p, q, hxy⟩ : ∃ x y, c.args = #[x, y] := by
      have hlen := congrArg List.length hl
      simp at hlen
      match hq : c.args, hlen with
      | ⟨[x, y]⟩, _ => exact ⟨x, y, rfl⟩
     rw [hxy] at hl
     simp at hl
     obtain ⟨h1, h2⟩ := hl
     have e1 := Rep1.int.1 (hp1 h1 rfl).1
     have e2 := Rep1.int.1 (hp1 h2 rfl).1
     refine Good.value (E' := E) (x := .int ka (if y < x then y else x)) (w' := w) ?_ h (Rep1.int.2 rfl) (by simp [AV.named])
     simp [execOp, hop, resolve, hcal, invoke, builtin, hxy, Builtin.min_, e1, e2, Builtin.min2]
    ·cases hf
   ·cases hf
  ·rename_i hcal
   split at hf
   ·rename_i ka x kb y hl
    split at hf
    ·rename_i hk
     subst hk
     simp only [P2, Option.some.injEq, Prod.mk.injEq] at hf
     obtain ⟨rfl, rfl⟩ := hf
     obtain ⟨ox, oy, hxy⟩ : ∃ ox oy, c.args = #[ox, oy] := by
      have hlen := congrArg List.length hl
      simp at hlen
      match hq : c.args.toList, hlen with
      | [p, q], _ => exact ⟨p, q, by apply Array.ext'; simpa using hq⟩
      | [], hlen => rw [← Array.length_toList, hq] at hlen; cases hlen
      | [_], hlen => rw [← Array.length_toList, hq] at hlen; cases hlen
      | _ :: _ :: _ :: _, hlen => rw [← Array.length_toList, hq] at hlen; simp at hlen
     rw [hxy] at hl
     simp at hl
     obtain ⟨h1, h2⟩ := hl
     have e1 := Rep1.int.1 (hp1 h1 rfl).1
     have e2 := Rep1.int.1 (hp1 h2 rfl).1
     refine Good.value (E' := E) (x := .int ka (if x < y then y else x)) (w' := w) ?_ h (Rep1.int.2 rfl) (by simp [AV.named])
     simp [execOp, hop, resolve, hcal, invoke, builtin, hxy, Builtin.max_, e1, e2, Builtin.max2]
    ·cases hf
   ·cases hf
  ·cases hf
 ·rename_i arr x hop
  split at hf
  ·rename_i m e n p s len cap hu hx
   cases hb : (Nat.ble m len && Nat.blt 0 len)
   ·rw [hb] at hf; cases hf
   ·rw [hb] at hf
    simp only [cond_true, P2, Option.some.injEq, Prod.mk.injEq] at hf
    obtain ⟨rfl, rfl⟩ := hf
    simp only [Bool.and_eq_true] at hb
    have hm := Nat.le_of_ble_eq_true hb.1
    have hl := Nat.le_of_ble_eq_true hb.2
    have h1 := hp1 hx rfl
    have h2 := h1.1.cells1 rfl
    simp only [RepC] at h2
    obtain ⟨hle, off, ex, ho⟩ := h2
    simp at ex
    have ho' := ho (by omega)
    simp only [Nat.zero_mul, Nat.add_zero] at ho'
    refine Good.value (E' := E) (x := .pointer (some ⟨E.ρ n, off, none⟩)) (w' := w) ?_ h (Rep1.ptr.2 (by rw [ho'])) (show AV.named (fun n => (hp n).isSome) (.ptr n p) = true by simpa [AV.named] using h1.2)
    have hlt : ¬ len < m := by omega
    simp [execOp, hop, Instr.arrayAt, run_underlying hu, ex, hlt]
  ·cases hf
 ·rename_i t x hop
  split at hf
  ·cases hf
  ·rename_i d hd hu
   split at hf
   ·rename_i hft
    simp only [P2, Option.some.injEq, Prod.mk.injEq] at hf
    obtain ⟨rfl, rfl⟩ := hf
    have := hp1 (t := t) (x := x) rfl (fitsT_spec hft).2.2
    exact good_makeInterface h hop hu (fun ms e => hd ms e) this.1 this.2
   ·cases hf
  ·cases hf
 ·rename_i x s tt hop
  split at hf
  ·cases hf
  ·rename_i d hd hu
   split at hf
   ·rename_i t v z hx hz
    split at hf
    ·rename_i hk
     simp only [Bool.and_eq_true] at hk
     obtain ⟨⟨k1, k2⟩, k3⟩ := hk
     have h1 := hp1 hx rfl
     have g := good_typeAssert h hop hu (fun ms e => hd ms e) h1.1 k1 (by simpa [AV.named] using h1.2) k2 k3
     split at hf
     ·rename_i ht
      rw [if_pos ht] at g
      simp only [P2, Option.some.injEq, Prod.mk.injEq] at hf
      obtain ⟨rfl, rfl⟩ := hf
      exact g
     ·rename_i ht
      rw [if_neg ht] at g
      simp only [P2, Option.some.injEq, Prod.mk.injEq] at hf
      obtain ⟨rfl, rfl⟩ := hf
      exact g
    ·cases hf
   ·rename_i z hx hz
    split at hf
    ·rename_i hk
     simp only [Bool.and_eq_true] at hk
     simp only [P2, Option.some.injEq, Prod.mk.injEq] at hf
     obtain ⟨rfl, rfl⟩ := hf
     exact good_typeAssert_nil h hop hu (fun ms e => hd ms e) (hp1 hx rfl).1 hk.1 hk.2
    ·cases hf
   ·cases hf
  ·cases hf
 ·rename_i g first caps hop
  split at hf
  ·rename_i hk
   simp only [P2, Option.some.injEq, Prod.mk.injEq] at hf
   obtain ⟨rfl, rfl⟩ := hf
   have hf0 : first = #[] := Array.size_eq_zero_iff.1 hk.1
   subst hf0
   have key : ∀ (l : List Operand), capsOK (l.map (ev cx env 0)) = true → RepCs E (l.map (ev cx env 0)) (l.map a.eval) ∧ AV.nameds (fun n => (hp n).isSome) (l.map (ev cx env 0)) = true := by
    intro l
    induction l with
    | nil => intro _; exact ⟨rfl, rfl⟩
    | cons x l ih =>
     intro hc
     simp only [List.map_cons, capsOK, Bool.and_eq_true, Bool.not_eq_true'] at hc
     obtain ⟨i1, i2⟩ := ih hc.2
     obtain ⟨g1, g2⟩ := hp1 (t := 0) (x := x) rfl hc.1.1
     refine ⟨?_, by simp only [List.map_cons, AV.nameds, Bool.and_eq_true]; exact ⟨g2, i2⟩⟩
     simp only [List.map_cons, RepCs]
     exact ⟨[a.eval x], l.map a.eval, rfl, g1.cells1 hc.1.2, i1⟩
   obtain ⟨k1, k2⟩ := key caps.toList hk.2
   refine Good.value (E' := E) (x := .func (.func g) #[] (caps.map a.eval)) (w' := w) ?_ h ?_ (by simpa [AV.named, updH_nil] using k2)
   ·simp [execOp, hop, Instr.makeFunc]
   ·refine Rep1.of_cells1 rfl ?_
    simp only [RepC]
    exact ⟨caps.toList.map a.eval, by rw [← Array.toList_map, Array.toArray_toList], k1⟩
  ·cases hf
 ·cases hf
end
end Go.Sy
