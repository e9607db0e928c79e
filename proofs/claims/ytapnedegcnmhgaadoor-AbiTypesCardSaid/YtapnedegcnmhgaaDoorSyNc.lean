/- What an operation does in the model is what the symbolic reading says: copy into arrays; append. -/
import Derived.Test.YtapnedegcnmhgaaDoorSyNb
set_option linter.unusedVariables false
set_option linter.unusedSimpArgs false
namespace Go.Sy
open Go Go.RowKit

theorem intsOf_rep {E : Emb} {v : AV} {k : IntKind} {m : Nat} {l : List Int} {xs : List Value} (h : intsOf v = some (k, m, l)) (hr : RepC E v xs) : xs = l.map (.int k) ∧ l.length = m := by
  unfold intsOf at h
  split at h
  · simp at h
    obtain ⟨rfl, rfl, rfl⟩ := h
    simp only [RepC] at hr
    exact ⟨hr, rfl⟩
  · rename_i k' n l'
    simp at h
    obtain ⟨rfl, rfl, rfl⟩ := h
    simp only [RepC] at hr
    exact ⟨RcL_ints.1 hr.2, hr.1⟩
  · cases h

theorem limb_zero (j : Nat) : limb 0 j = 0 := by simp [limb]

theorem ofLimbs_cells {l : List Int} (h : l.length = 4) (ha : l.all inU64 = true) : ucells (ofLimbs l) = l.map (.int .u64) := by
  match l, h with
  | [p, q, r, s], _ =>
    simp only [List.all_cons, List.all_nil, Bool.and_true, Bool.and_eq_true] at ha
    obtain ⟨hp, hq, hr, hs⟩ := ha
    simp only [ofLimbs, List.getD_cons_zero, List.getD_cons_succ, ucells, limbs, List.map_cons, List.map_nil]
    rw [setLimb_limb hs (by omega) (by omega), setLimb_limb hs (by omega) (by omega), setLimb_limb hs (by omega) (by omega), setLimb_limb hs (by omega) (by omega)]
    simp only [setLimb_limb hr (show 2 < 4 by omega) (show 0 < 4 by omega), setLimb_limb hr (show 2 < 4 by omega) (show 1 < 4 by omega), setLimb_limb hr (show 2 < 4 by omega) (show 2 < 4 by omega)]
    simp only [setLimb_limb hq (show 1 < 4 by omega) (show 0 < 4 by omega), setLimb_limb hq (show 1 < 4 by omega) (show 1 < 4 by omega)]
    simp only [setLimb_limb hp (show 0 < 4 by omega) (show 0 < 4 by omega)]
    simp

theorem intsTo_rep {E : Emb} {v : AV} {k : IntKind} {m : Nat} {l l' : List Int} (h : intsOf v = some (k, m, l)) (hl : l'.length = m) (hf : intsFit v l' = true) : RepC E (intsTo v l') (l'.map (.int k)) ∧ ∀ ok, (intsTo v l').named ok = true := by
  unfold intsOf at h
  split at h
  · simp at h
    obtain ⟨rfl, rfl, rfl⟩ := h
    simp only [intsTo, RepC, AV.named]
    exact ⟨(ofLimbs_cells hl hf).symm, fun _ => trivial⟩
  · rename_i k' n l'
    simp at h
    obtain ⟨rfl, rfl, rfl⟩ := h
    simp only [intsTo, RepC, AV.named]
    exact ⟨⟨hl, RcL_ints.2 rfl⟩, fun _ => trivial⟩
  · cases h

section
variable {cx : Cx} {G : Ini → Prop} {w0 : Ini} {E : Emb} {N : Nat} {env hp : Nat → Option AV} {a : Act} {w : World} {o : Oper}

theorem good_copy_sl (h : Rel w0 E N env hp a w) {c : Call} {v2 : AV} {e : TypeId} {T1 : TypeId} {x y : Operand} {n i len cap m : Nat} {p : List Step} {kc : IntKind} {xs l : List Int} {cc u c' : AV} (hfr : froN n = false) (hop : o.op = .call c) (hcal : c.callee = .builtin .copy)
    (hargs : c.args = #[x, y]) (ht : c.argTypes[0]? = some T1) (hu : cx.P.underlying T1 = some (.slice e)) (hsz : sizeT cx.P e = some 1)
    (hd : Rep E (.sl n p (.int kc) i len cap) (a.eval x)) (hs : Rep E v2 (a.eval y)) (hq : listF0 hp v2 = some ⟨.int kc, xs⟩) (hc : hp n = some cc) (hg : gett cc p = some u) (hi : intsOf u = some (kc, m, l))
    (hb1 : i + len ≤ m) (hb2 : intsFit u (spliceL l i (xs.take len)) = true) (hset : sett cc p (intsTo u (spliceL l i (xs.take len))) = some c') :
    Good cx.P o w0 N env hp (.int .i64 (min xs.length len : Nat)) [(n, c')] a w := by
  have hshow := listF0_shown h.toMem (fun _ _ h => h) hq hs
  obtain ⟨yc, r1, r2, r3⟩ := shown_src (P := cx.P) hu hshow
  have r1' := RcL_ints.1 r1
  obtain ⟨hlive, blk, T, hk, h1, h2, _⟩ := own_cells h hc hg
  have hlm : l.length = m := by
    obtain ⟨_, ys, _, _, _, hr⟩ := gett_sound hg h2
    exact (intsOf_rep hi hr).2
  have hspl : (spliceL l i (xs.take len)).length = m := by simp [spliceL]; omega
  obtain ⟨hti, htn⟩ := intsTo_rep (E := E) hi hspl hb2
  obtain ⟨pre, ys, post, e1, e2, e3, e4, e5, _⟩ := sett_sound hset h2 hti
  have hys : ys = l.map (.int kc) := by
    obtain ⟨pre', ys', post', f1, f2, f3⟩ := gett_sound hg h2
    have := (intsOf_rep hi f3).1
    rw [← this]
    have hle : ys.length = ys'.length := by rw [e3, this]; simp [hspl, hlm]
    rw [e1] at f1
    have hpre : pre = pre' := by
      have := congrArg (List.take (offs p)) f1
      rw [← e2, List.append_assoc, List.take_left] at this
      rw [this, e2, ← f2, List.append_assoc, List.take_left]
    subst hpre
    rw [List.append_assoc, List.append_assoc] at f1
    have f1' := List.append_cancel_left f1
    have := congrArg (List.take ys.length) f1'
    rw [List.take_left, hle, List.take_left] at this
    exact this
  have hx := Rep1.cells1 (E := E) (v := .sl n p (.int kc) i len cap) hd rfl
  simp only [RepC] at hx
  obtain ⟨hle, off, ex, ho⟩ := hx
  simp at ex
  have hyc : yc.take (len * 1) = (xs.take len).map (Value.int kc) := by rw [r1', Nat.mul_one, List.map_take]
  have hnew : (pre ++ (spliceL l i (xs.take len)).map (Value.int kc) ++ post) = blk.toList.take (offs p + i) ++ (xs.take len).map (Value.int kc) ++ blk.toList.drop (offs p + i + (xs.take len).length) := by
    rw [e1, hys]
    have hil : i + (xs.take len).length ≤ l.length := by rw [List.length_take]; omega
    rw [List.append_assoc pre, List.append_assoc pre, ← e2, take_len_add, Nat.add_assoc, drop_len_add]
    rw [List.take_append_of_le_length (by simp; omega), List.drop_append_of_le_length (by simp; simp at hil; omega)]
    simp only [spliceL, List.map_append, List.append_assoc, List.map_take, List.map_drop]
  have hbsz : blk.size = (pre ++ ys ++ post).length := by rw [← e1]; simp
  have hw := h.write (c' := c') (ys := (pre ++ (spliceL l i (xs.take len)).map (Value.int kc) ++ post).toArray) hc hlive hfr hk h1 (by
    rw [hbsz]; simp only [List.size_toArray, List.length_append]; omega) (by simpa using e4) e5 (sett_named hset (h.shp n cc hc) (htn _))
  refine Good.value (E' := E) (x := goInt (min xs.length len : Nat)) (w' := w.setRow (E.ρ n) (pre ++ (spliceL l i (xs.take len)).map (Value.int kc) ++ post).toArray) ?_ hw (Rep1.int.2 rfl) (by simp [AV.named])
  have hstore : (storeCells ⟨E.ρ n, off, none⟩ ((xs.take len).map (Value.int kc))).run cx.P w = .ok () (w.setRow (E.ρ n) (pre ++ (spliceL l i (xs.take len)).map (Value.int kc) ++ post).toArray) := by
    rcases Nat.eq_zero_or_pos (xs.take len).length with h0 | h0
    · have hnil : xs.take len = [] := List.length_eq_zero_iff.1 h0
      have hsp : spliceL l i (xs.take len) = l := by rw [hnil]; simp [spliceL]
      rw [hsp, ← hys, ← e1, hnil]
      simp [storeCells, setRow_self w _ _ _ _ h1]
    · have hlen0 : 0 < len := by rw [List.length_take] at h0; omega
      have ho' := ho (by omega)
      simp only [Sh.size, Nat.mul_one] at ho'
      have hst := run_storeCells_at cx.P (E.ρ n) off T ((xs.take len).map (Value.int kc)) 0 blk w h1 (by
        rw [hbsz, hys]; simp [e2, ho']; omega) (by intro v hv; rw [List.mem_map] at hv; obtain ⟨_, _, rfl⟩ := hv; rfl)
      rw [hst, hnew]
      simp [ho']
  have hmin : Nat.min xs.length len = min xs.length len := rfl
  have hcells := r3 len
  simp only [Sh.size] at hcells
  rw [hyc] at hcells
  have hlen : ∀ w', (Builtin.lenOf (a.eval y)).run cx.P w' = .ok xs.length w' := r2.len
  simp only [execOp, hop, resolve, hcal, Sem.run_bind, Sem.run_pure, Result.andThen_ok, invoke, builtin, hargs, List.map_toArray, List.map_cons, List.map_nil]
  simp only [Builtin.copy_, ht, List.getElem?_toArray, List.getElem?_cons_zero, List.getElem?_cons_succ, Sem.run_bind, run_underlying hu, Result.andThen_ok, ex, hlen, run_sizeT hsz, hmin, hcells, hstore, Sem.run_pure]

/-! ### append -/

/-- A new name takes a block over. -/
theorem Rel.take {b : Ini} (h : Rel b E N env hp a w) {d g : Nat} (hd : NewN hp d) {c' : AV} {xs ys : Array Value} {T : TypeId} (hx : w.heap[g]? = some (.cells xs T (0, 0))) (hsz : ys.size = xs.size)
    (hno : ∀ n c, hp n = some c → c.live = true → (E.cnt n).isSome = true → E.ρ n ≠ g) (him : ∀ f j, (froN d = true → c'.rowSz ≤ j) → E.im f g j = none) (himk : ∀ f j v, E.im f g j = some v → ys[j]? = xs[j]?) (hb : b.w.heap.size ≤ g ∨ b.L g) (hcl : newN d = true → b.w.heap.size ≤ g) (hc : RepR E c' ys.toList) (hn : c'.named (fun n => (hp n).isSome) = true) :
    Rel b (E.add d g (some ys.size) (c'.rowLen.getD 0)) N env (updH hp [(d, c')]) a (w.setRow g ys) := by
  have hle := Emb.add_le (E := E) (r := g) (c := some ys.size) (l := c'.rowLen.getD 0) hd.1
  refine h.mem hle (fun n hn => updH_some hn) ?_
  refine { rheap := ?_, inj := ?_, imm := ?_, imle := h.imle, pers := h.pers, new := h.new, imm0 := h.imm0, below := ?_, shp := ?_, fixed := fun j q hj hl => Emb.add_fixed hd.2 hl (h.fixed j q hj hl), gone := ?_, newn := fun n u hu hl hn1 hk => ?_ }
  rotate_left 6
  · by_cases e : n = d
    · subst e; simp only [Emb.add, if_true]; exact hcl hn1
    · rw [updH_other e] at hu
      simp only [Emb.add, if_neg e] at hk ⊢
      exact h.newn n u hu hl hn1 hk
  · intro n u hu hl
    by_cases e : n = d
    · subst e
      rw [updH_same] at hu; cases hu
      exact ⟨fun k hk => by simp [Emb.add, hk], .inr ⟨ys, T, by simp [Emb.add], by simp only [Emb.add, if_true]; exact setRow_heap w _ _ _ _ _ hx, hc.mono hle hn, by simpa [Emb.add] using him, by simpa [Emb.add] using hb⟩⟩
    · rw [updH_other e] at hu
      obtain ⟨g1, g2⟩ := h.rheap n u hu hl
      refine ⟨fun k hk => by rw [g1 k hk]; simp [Emb.add, e], ?_⟩
      rcases g2 with ⟨g3, g4⟩ | ⟨zs, T', k1, k2, k3, k4, k5⟩
      · exact .inl ⟨by simp [Emb.add, e, g3], g4⟩
      · refine .inr ⟨zs, T', by simp [Emb.add, e, k1], ?_, k3.mono hle (h.shp n u hu), by simpa [Emb.add, e] using k4, by simpa [Emb.add, e] using k5⟩
        simp only [Emb.add, if_neg e]
        rw [setRow_other _ _ _ _ (hno n u hu hl (by simp [k1]))]
        exact k2
  · intro n m c1 c2 hn1 hm1 l1 l2 k1 k2 eq
    by_cases e1 : n = d <;> by_cases e2 : m = d
    · rw [e1, e2]
    · subst e1
      rw [updH_other e2] at hm1
      simp only [Emb.add, if_neg e2, if_true] at k2 eq
      exact absurd eq.symm (hno m c2 hm1 l2 k2)
    · subst e2
      rw [updH_other e1] at hn1
      simp only [Emb.add, if_neg e1, if_true] at k1 eq
      exact absurd eq (hno n c1 hn1 l1 k1)
    · rw [updH_other e1] at hn1; rw [updH_other e2] at hm1
      simp only [Emb.add, if_neg e1, if_neg e2] at k1 k2 eq
      exact h.inj n m c1 c2 hn1 hm1 l1 l2 k1 k2 eq
  · intro f g' j v hv
    obtain ⟨c1, T1, fz, h1, h2⟩ := h.imm f g' j v hv
    by_cases hne : g' = g
    · subst hne
      rw [hx] at h1; cases h1
      exact ⟨ys, T, (0, 0), setRow_heap w _ _ _ _ _ hx, by rw [himk f j v hv]; exact h2⟩
    · exact ⟨c1, T1, fz, by rw [setRow_other _ _ _ _ hne]; exact h1, h2⟩
  · refine h.below.trans ⟨rfl, rfl, rfl, by simp, fun k hk hL => ?_⟩
    rw [setRow_other]
    intro e; subst e
    rcases hb with hb | hb
    · omega
    · exact hL hb
  · intro n u hu
    by_cases e : n = d
    · subst e; rw [updH_same] at hu; cases hu; exact AV.named_mono (fun n hn => updH_some hn) hn
    · rw [updH_other e] at hu; exact AV.named_mono (fun n hn => updH_some hn) (h.shp n u hu)
  · intro n k hu
    by_cases e : n = d
    · subst e; rw [updH_same] at hu; cases hu; exact absurd hc (by simp [RepR, RepC])
    · rw [updH_other e] at hu; rw [h.gone n k hu]; simp [Emb.add, e]

theorem updH_two {d n : Nat} {c c' : AV} : updH (updH hp [(n, c')]) [(d, c)] = updH hp [(d, c), (n, c')] := by
  funext m
  by_cases e : m = d
  · subst e; rw [updH_same, updH_same]
  · rw [updH_other e, updH_cons e]

theorem run_append_here {P : Program} (t tx ty e : TypeId) (i : TypeInfo) (ht : P.underlying t = some (.slice e)) (hi : P.info? e = some i) (b off sLen sCap : Nat) (x : Value) (n : Nat) (news : List Value) (hs : Src P i.size tx x n news w)
    (hroom : sLen + n ≤ sCap) {w' : World} (hst : (storeCells ⟨b, off + sLen * i.size, none⟩ news).run P w = .ok () w') :
    (Builtin.append_ #[t, tx] ty #[.slice (some ⟨b, off, none⟩) sLen sCap, x]).run P w = .ok (.slice (some ⟨b, off, none⟩) (sLen + n) sCap) w' := by
  rcases hs.kind with ⟨e', hk⟩ | hk <;> simp [Builtin.append_, run_underlying ht, run_underlying hk, sizeOf, typeInfo, hi, hs.len, hroom, hs.cells, Addr.add_lit, hst]

theorem zeroCells_one {z : Value} {s : Sh} (hz : z.cells.toList = s.dfltCells) (n : Nat) : (Builtin.zeroCells z.cells n).size = n * s.size ∧ ∀ v ∈ (Builtin.zeroCells z.cells n).toList, v.oneCell' = true := by
  have hl : z.cells.size = s.size := by
    have := congrArg List.length hz
    rw [dfltCells_len] at this
    simpa using this
  have hs := Sh.size_pos s
  refine ⟨by simp [Builtin.zeroCells, hl], fun v hv => ?_⟩
  simp only [Builtin.zeroCells, Array.toList_map, List.mem_map] at hv
  obtain ⟨j, _, rfl⟩ := hv
  have hlt : j % z.cells.size < z.cells.size := Nat.mod_lt _ (by omega)
  have : z.cells[j % z.cells.size]! = z.cells[j % z.cells.size] := getElem!_pos z.cells _ hlt
  rw [this]
  have hm : z.cells[j % z.cells.size] ∈ z.cells.toList := Array.mem_toList_iff.2 (Array.getElem_mem hlt)
  rw [hz] at hm
  exact RepC.oneCell (E := ⟨fun _ => 0, fun _ => none, fun _ => 0, fun _ _ _ => none⟩) (v := .arr s 1 [s.dflt]) (by simp only [RepC]; exact ⟨rfl, s.dfltCells, [], by simp, Sh.dflt_rep _ s, rfl⟩) _ hm

/-- An append that makes a new row. -/
theorem append_new (h : Rel w0 E N env hp a w) {c : Call} {e : TypeId} {T1 T2 : TypeId} {d bytes sLen sCap : Nat} {base : Option Addr} {s : Sh} {l ys : List s.T} {lc yc : List Value} {y : Value} (hop : o.op = .call c) (hcal : c.callee = .builtin .append)
    (htys : c.argTypes = #[T1, T2]) (hu : cx.P.underlying T1 = some (.slice e)) (hs : shapeZ cx.P e = some s) (hby : bytesT cx.P e = some bytes) (hd : NewN hp d)
    (hargs : c.args.map a.eval = #[.slice base sLen sCap, y]) (hold : (Builtin.firstCells s.size sLen (.slice base sLen sCap)).run cx.P w.drew = .ok lc.toArray w.drew) (hlr : RcL E s l lc) (hlen : l.length = sLen)
    (hsrc : Src cx.P s.size T2 y ys.length yc w) (hyr : RcL E s ys yc) (hg : sCap < sLen + ys.length) (hroom : roomB bytes (sLen + ys.length) = true) :
    Good cx.P o w0 N env hp (.own d s) [(d, .row s (l ++ ys))] a w := by
  obtain ⟨i, z, hi, hz, hcells, hsz⟩ := shapeZ_spec hs
  obtain ⟨r1, r2⟩ := roomB_spec hroom
  have hbi : i.bytes = bytes := by simp [bytesT, hi] at hby; exact hby
  rw [← hsz] at hold hsrc
  have hrun := run_append_grow_src (P := cx.P) w T1 T2 o.type e i z hu hi hz base sLen sCap lc hold y ys.length yc hsrc hg (by omega) (growslice_fits hg (by rw [hbi]; exact r2))
  have hge := grownCap_ge w (sLen + ys.length) sCap e
  obtain ⟨z1, z2⟩ := zeroCells_one (s := s) hcells (grownCap w (sLen + ys.length) sCap e - (sLen + ys.length))
  obtain ⟨E', e1, e2, e3, e4, e5⟩ := (h.drewn).alloc (T := e) (c := .row s (l ++ ys)) (xs := (lc ++ yc).toArray ++ Builtin.zeroCells z.cells (grownCap w (sLen + ys.length) sCap e - (sLen + ys.length))) hd
    ⟨lc ++ yc, (Builtin.zeroCells z.cells (grownCap w (sLen + ys.length) sCap e - (sLen + ys.length))).toList, by simp, hlr.append hyr, z2⟩ (by simp [AV.named])
  refine Good.value (E' := E') (x := .slice (some ⟨w.heap.size, 0, none⟩) (sLen + ys.length) (grownCap w (sLen + ys.length) sCap e)) ?_ e5 ?_ (by simp [AV.named, updH_same])
  · simp only [execOp, hop, resolve, hcal, Sem.run_bind, Sem.run_pure, Result.andThen_ok, invoke, builtin, hargs, htys, hrun]
    rfl
  · refine Rep1.of_cells1 rfl ?_
    simp only [RepC]
    have hl1 := hlr.length
    have hl2 := hyr.length
    refine ⟨_, rfl, .inr ⟨0, grownCap w (sLen + ys.length) sCap e, ?_, ?_, fun _ => rfl, ?_⟩⟩
    · rw [e1, e3]; simp [AV.rowLen, hlen]
    · rw [e3]; simp [AV.rowLen, hlen]; exact hge
    · rw [e2]
      congr 1
      simp only [Array.size_append, List.size_toArray, List.length_append, z1, hl1, hl2, hlen]
      rw [← Nat.add_mul, ← Nat.add_mul]
      congr 1
      omega

/-- An append of nothing to a nil slice. -/
theorem append_none (h : Rel w0 E N env hp a w) {c : Call} {e : TypeId} {T1 T2 : TypeId} {d : Nat} {s : Sh} {y : Value} (hop : o.op = .call c) (hcal : c.callee = .builtin .append)
    (htys : c.argTypes = #[T1, T2]) (hu : cx.P.underlying T1 = some (.slice e)) (hs : shapeZ cx.P e = some s) (hd : NewN hp d)
    (hargs : c.args.map a.eval = #[.slice none 0 0, y]) (hsrc : Src cx.P s.size T2 y 0 [] w) :
    Good cx.P o w0 N env hp (.own d s) [(d, .row s [])] a w := by
  obtain ⟨i, z, hi, hz, hcells, hsz⟩ := shapeZ_spec hs
  rw [← hsz] at hsrc
  have hrun := run_append_nothing (P := cx.P) w T1 T2 o.type e i hu hi none 0 0 (Nat.le_refl _) y hsrc
  obtain ⟨E', e1, e2, e3, e4⟩ := h.nilrow hd s
  refine Good.value (E' := E') (x := .slice none 0 0) (w' := w) ?_ e4 ?_ (by simp [AV.named, updH_same])
  · simp only [execOp, hop, resolve, hcal, Sem.run_bind, Sem.run_pure, Result.andThen_ok, invoke, builtin, hargs, htys, hrun]
  · refine Rep1.of_cells1 rfl ?_
    simp only [RepC]
    exact ⟨_, rfl, .inl ⟨e1, e2, rfl⟩⟩

/-- The old name is struck behind an append. -/
theorem Good.strike {d n : Nat} {s s0 : Sh} {l0 : List s0.T} {c : AV} (hdn : d ≠ n) (hm : hp n = some (.row s0 l0)) (hg : Good cx.P o w0 N env hp (.own d s) [(d, c)] a w) : Good cx.P o w0 N env hp (.own d s) [(d, c), (n, .tup [.int .i64 (l0.length : Nat)])] a w :=
  fun next Q k => hg next Q fun E' x w' h1 h2 h3 => by
    have e : updH (updH hp [(d, c)]) [(n, .tup [.int .i64 (l0.length : Nat)])] = updH hp [(d, c), (n, .tup [.int .i64 (l0.length : Nat)])] := by
      rw [updH_two]
      funext m
      by_cases e1 : m = n
      · subst e1; rw [updH_same, updH_cons (Ne.symm hdn), updH_same]
      · by_cases e2 : m = d
        · subst e2; rw [updH_cons e1, updH_same, updH_same]
        · rw [updH_cons e1, updH_cons e2, updH_cons e2, updH_cons e1]
    have h1' := h1.forget n l0.length ((h1.rheap n (.row s0 l0) (by rw [updH_other (Ne.symm hdn)]; exact hm) rfl).1 _ rfl)
    rw [e] at h1'
    exact k E' x w' h1' h2 (by simp [AV.named, updH_same])

/-- An append onto a row. -/
theorem append_row (h : Rel w0 E N env hp a w) {c : Call} {e : TypeId} {T1 T2 : TypeId} {d n bytes len : Nat} {s : Sh} {l ys : List s.T} {yc : List Value} {v : AV} {x y : Value} (hop : o.op = .call c) (hcal : c.callee = .builtin .append)
    (htys : c.argTypes = #[T1, T2]) (hu : cx.P.underlying T1 = some (.slice e)) (hs : shapeZ cx.P e = some s) (hby : bytesT cx.P e = some bytes) (hd : NewN hp d) (hcl : newN d = true → newN n = true) (hcf : froN n = true → froN d = true ∧ len = l.length)
    (hargs : c.args.map a.eval = #[x, y]) (hm : hp n = some (.row s l)) (hv : (v = .own n s ∧ (0 : Nat) = 0 ∧ len = l.length) ∨ v = .osl n s 0 len) (hx : Rep E v x) (hll : len ≤ l.length)
    (hsrc : Src cx.P s.size T2 y ys.length yc w) (hyr : RcL E s ys yc) (hroom : roomB bytes (len + ys.length) = true) :
    Good cx.P o w0 N env hp (.own d s) [(d, .row s (l.take len ++ ys)), (n, .tup [.int .i64 (l.length : Nat)])] a w := by
  have hdn : d ≠ n := fun e => by subst e; rw [hd.1] at hm; cases hm
  obtain ⟨i, z, hi, hz, hcells, hsz⟩ := shapeZ_spec hs
  rcases row_slice h hm hv hx with ⟨h0, hl0, ex, hcn⟩ | ⟨off, cap, ex, hcap, hoff, hcn⟩
  · subst h0; subst hl0
    rw [ex] at hargs
    refine Good.strike hdn hm ?_
    simp only [List.take_nil, List.nil_append]
    rcases Nat.eq_zero_or_pos ys.length with h0 | h0
    · have : ys = [] := List.length_eq_zero_iff.1 h0
      subst this
      have hy : yc = [] := by simpa [RcL] using hyr
      subst hy
      exact append_none h hop hcal htys hu hs hd hargs hsrc
    · exact append_new (l := []) (lc := []) h hop hcal htys hu hs hby hd hargs (by simp [Builtin.firstCells]) rfl rfl hsrc hyr (by omega) (by simpa using hroom)
  · obtain ⟨_, ⟨hk, _⟩ | ⟨blk, T, k1, k2, k3, k4, k5⟩⟩ := h.rheap n _ hm rfl
    · rw [hcn] at hk; cases hk
    · obtain ⟨lc, zs, eb, hlc, hzs⟩ := k3
      have hlcl := hlc.length
      have htake : RcL E s (l.take len) (lc.take (len * s.size)) := (RcL.take_drop len hlc).1
      have htl := htake.length
      have htl' : (lc.take (len * s.size)).length = len * s.size := by rw [htl, List.length_take, Nat.min_eq_left hll]
      rw [Nat.zero_add] at hcn
      have hbs : blk.size = cap * s.size := by rw [k1] at hcn; simpa using hcn
      have hbl : blk.size = (lc ++ zs).length := by rw [← eb]; simp
      rw [ex] at hargs
      by_cases hfit : len + ys.length ≤ cap
      · -- in place
        have hyl := hyr.length
        let blk' : Array Value := (blk.toList.take (len * s.size) ++ yc ++ blk.toList.drop (len * s.size + yc.length)).toArray
        have hcapm : len * s.size + yc.length ≤ blk.size := by rw [hbs, hyl, ← Nat.add_mul]; exact Nat.mul_le_mul_right _ hfit
        have hsize : blk'.size = blk.size := by
          simp only [blk', List.size_toArray, List.length_append, List.length_take, List.length_drop, Array.length_toList]
          omega
        have hst : (storeCells ⟨E.ρ n, off + len * i.size, none⟩ yc).run cx.P w = .ok () (w.setRow (E.ρ n) blk') := by
          rw [hsz]
          rcases Nat.eq_zero_or_pos yc.length with h0 | h0
          · have hnil : yc = [] := List.length_eq_zero_iff.1 h0
            have : blk' = blk := by
              apply Array.ext'
              simp [blk', hnil]
            rw [hnil, this]
            simp [storeCells, setRow_self w _ _ _ _ k2]
          · have hpos : 0 < cap := by
              have : 0 < ys.length := by rw [hyl] at h0; exact Nat.pos_of_mul_pos_right h0
              omega
            have ho := hoff hpos
            rw [Nat.zero_mul] at ho
            subst ho
            have hst := run_storeCells_at cx.P (E.ρ n) (0 + len * s.size) T yc 0 blk w k2 (by omega) hyr.oneCell
            rw [hst]
            simp [blk']
        have hrun := run_append_here (P := cx.P) T1 T2 o.type e i hu hi (E.ρ n) off len cap y ys.length yc (by rw [hsz]; exact hsrc) hfit hst
        have hrow : RepR E (.row s (l.take len ++ ys)) blk'.toList := by
          refine ⟨lc.take (len * s.size) ++ yc, blk.toList.drop (len * s.size + yc.length), ?_, htake.append hyr, fun z hz => ?_⟩
          · have hle : len * s.size ≤ lc.length := by rw [hlcl]; exact Nat.mul_le_mul_right _ hll
            simp only [blk']
            rw [eb, List.take_append_of_le_length hle]
          · have hz' := List.mem_of_mem_drop hz
            rw [eb] at hz'
            rcases List.mem_append.1 hz' with hz' | hz'
            · exact hlc.oneCell z hz'
            · exact hzs z hz'
        have hk4 : ∀ f j, (froN d = true → (AV.row s (l.take len ++ ys)).rowSz ≤ j) → E.im f (E.ρ n) j = none := fun f j hj => k4 f j fun hfn => by
          obtain ⟨hfd, hle⟩ := hcf hfn
          have := hj hfd
          simp only [AV.rowSz, List.length_append, List.length_take, hle, Nat.min_self, Nat.add_mul] at this ⊢
          omega
        have hk5 : ∀ f j v, E.im f (E.ρ n) j = some v → blk'[j]? = blk[j]? := fun f j v hv => by
          have hlt : froN n = true ∧ ¬ (AV.row s l).rowSz ≤ j := by
            refine Decidable.byContradiction fun hno => ?_
            rw [k4 f j fun hfn => Decidable.byContradiction fun hq => hno ⟨hfn, hq⟩] at hv
            cases hv
          obtain ⟨hfd, hle⟩ := hcf hlt.1
          have hj := hlt.2
          simp only [AV.rowSz, ← hle] at hj
          have hjb : j < (blk.toList.take (len * s.size)).length := by simp; omega
          simp only [blk', List.getElem?_toArray, List.append_assoc]
          rw [List.getElem?_append_left hjb, List.getElem?_take, if_pos (by omega)]
          simp
        have hd1 : NewN (updH hp [(n, .tup [.int .i64 (l.length : Nat)])]) d := ⟨by rw [updH_other hdn]; exact hd.1, hd.2⟩
        have hrel := (h.forget n l.length ((h.rheap n (.row s l) hm rfl).1 _ rfl)).take (d := d) (g := E.ρ n) (c' := .row s (l.take len ++ ys)) hd1 k2 hsize (fun m c2 hm2 hl2 hk2 => by
          by_cases e : m = n
          · subst e; rw [updH_same] at hm2; cases hm2; cases hl2
          · rw [updH_other e] at hm2
            intro eq
            exact e (h.inj m n c2 _ hm2 hm hl2 rfl hk2 (by simp [hcn]) eq)) hk4 hk5 k5 (fun hd' => h.newn n _ hm rfl (hcl hd') (by simp [hcn])) hrow (by simp [AV.named])
        rw [updH_two] at hrel
        refine Good.value (x := .slice (some ⟨E.ρ n, off, none⟩) (len + ys.length) cap) (w' := w.setRow (E.ρ n) blk') ?_ hrel ?_ (by simp [AV.named, updH_same])
        · simp only [execOp, hop, resolve, hcal, Sem.run_bind, Sem.run_pure, Result.andThen_ok, invoke, builtin, hargs, htys, hrun]
        · refine Rep1.of_cells1 rfl ?_
          simp only [RepC]
          refine ⟨_, rfl, .inr ⟨off, cap, ?_, ?_, fun hc => by rw [hoff hc]; simp, ?_⟩⟩
          · simp [Emb.add, AV.rowLen, Nat.min_eq_left hll]
          · simp [Emb.add, AV.rowLen, Nat.min_eq_left hll]; exact hfit
          · simp only [Emb.add, if_true, hsize, hbs]
      · -- a new row
        refine Good.strike hdn hm ?_
        refine append_new (l := l.take len) (lc := lc.take (len * s.size)) h hop hcal htys hu hs hby hd hargs ?_ htake (by rw [List.length_take, Nat.min_eq_left hll]) hsrc hyr (by omega) hroom
        refine run_firstCells_some w.drew _ _ _ _ _ _ htl' (fun j v hv => ?_)
        have hv' : lc[j]? = some v := by
          simp only [List.getElem?_take] at hv
          split at hv
          · exact hv
          · cases hv
        have hj : j < lc.length := by
          rcases Nat.lt_or_ge j lc.length with h' | h'
          · exact h'
          · simp [List.getElem?_eq_none h'] at hv'
        have hjl : j < len * s.size := by
          have : j < (lc.take (len * s.size)).length := by
            rcases Nat.lt_or_ge j (lc.take (len * s.size)).length with h' | h'
            · exact h'
            · simp only [List.getElem?_eq_none h'] at hv; cases hv
          omega
        have hpos : 0 < cap := by
          have : 0 < len := Nat.pos_of_mul_pos_right (show 0 < len * s.size by omega)
          omega
        have ho := hoff hpos
        rw [Nat.zero_mul] at ho
        subst ho
        have k2' : w.drew.heap[E.ρ n]? = some (.cells blk T (0, 0)) := k2
        rw [cell_at k2']
        have : blk[0 + j]? = blk.toList[j]? := by simp
        rw [this, eb, List.getElem?_append_left hj]; exact hv'
end
end Go.Sy
