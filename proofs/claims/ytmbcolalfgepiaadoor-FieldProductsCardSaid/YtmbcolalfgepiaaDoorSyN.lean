/- What an operation does in the model is what the symbolic reading says: copy; all operations together. -/
import Derived.Test.YtmbcolalfgepiaaDoorSyM
set_option linter.unusedVariables false
set_option linter.unusedSimpArgs false
namespace Go.Sy
open Go Go.RowKit

theorem intsOf_rep {E : Emb} {v : AV} {k : IntKind} {m : Nat} {l : List Int} {xs : List Value} (h : intsOf v = some (k, m, l)) (hr : RepC E v xs) : xs = l.map (.int k) ∧ l.length = m := by
  unfold intsOf at h
  split at h
  · simp at h
    obtain ⟨rfl, rfl, rfl⟩ := h
    simp only [RepC] at hr
    exact ⟨hr, rfl⟩
  · rename_i k' n l'
    simp at h
    obtain ⟨rfl, rfl, rfl⟩ := h
    simp only [RepC] at hr
    exact ⟨RcL_ints.1 hr.2, hr.1⟩
  · cases h

theorem limb_zero (j : Nat) : limb 0 j = 0 := by simp [limb]

theorem ofLimbs_cells {l : List Int} (h : l.length = 4) (ha : l.all inU64 = true) : ucells (ofLimbs l) = l.map (.int .u64) := by
  match l, h with
  | [p, q, r, s], _ =>
    simp only [List.all_cons, List.all_nil, Bool.and_true, Bool.and_eq_true] at ha
    obtain ⟨hp, hq, hr, hs⟩ := ha
    simp only [ofLimbs, List.getD_cons_zero, List.getD_cons_succ, ucells, limbs, List.map_cons, List.map_nil]
    rw [setLimb_limb hs (by omega) (by omega), setLimb_limb hs (by omega) (by omega), setLimb_limb hs (by omega) (by omega), setLimb_limb hs (by omega) (by omega)]
    simp only [setLimb_limb hr (show 2 < 4 by omega) (show 0 < 4 by omega), setLimb_limb hr (show 2 < 4 by omega) (show 1 < 4 by omega), setLimb_limb hr (show 2 < 4 by omega) (show 2 < 4 by omega)]
    simp only [setLimb_limb hq (show 1 < 4 by omega) (show 0 < 4 by omega), setLimb_limb hq (show 1 < 4 by omega) (show 1 < 4 by omega)]
    simp only [setLimb_limb hp (show 0 < 4 by omega) (show 0 < 4 by omega)]
    simp

theorem intsTo_rep {E : Emb} {v : AV} {k : IntKind} {m : Nat} {l l' : List Int} (h : intsOf v = some (k, m, l)) (hl : l'.length = m) (hf : intsFit v l' = true) : RepC E (intsTo v l') (l'.map (.int k)) ∧ ∀ ok, (intsTo v l').named ok = true := by
  unfold intsOf at h
  split at h
  · simp at h
    obtain ⟨rfl, rfl, rfl⟩ := h
    simp only [intsTo, RepC, AV.named]
    exact ⟨(ofLimbs_cells hl hf).symm, fun _ => trivial⟩
  · rename_i k' n l'
    simp at h
    obtain ⟨rfl, rfl, rfl⟩ := h
    simp only [intsTo, RepC, AV.named]
    exact ⟨⟨hl, RcL_ints.2 rfl⟩, fun _ => trivial⟩
  · cases h

section
variable {cx : Cx} {G : World → Prop} {w0 : World} {E : Emb} {N : Nat} {env hp : Nat → Option AV} {a : Act} {w : World} {o : Oper}

theorem loadCells_ints {P : Program} {b o : Nat} {xs : Array Value} {T : TypeId} {fz : Nat × Nat} {k : IntKind} {l : List Int} (hg : w.heap[b]? = some (.cells xs T fz)) (hx : ∀ j v, (l.map (Value.int k))[j]? = some v → xs[o + j]? = some v) (n : Nat) :
    (loadCells ⟨b, o, none⟩ (min l.length n)).run P w = .ok ((l.take n).map (.int k)).toArray w := by
  have hlen : min l.length n = ((l.take n).map (Value.int k)).length := by simp [Nat.min_comm]
  rw [hlen]
  refine run_loadCells_list w _ _ (fun j v hv => ?_)
  rw [cell_at hg]
  refine hx j v ?_
  simp only [List.getElem?_map, List.getElem?_take] at hv ⊢
  split at hv
  · exact hv
  · cases hv

/-- The source of a copy. -/
theorem src_run {P : Program} (h : Rel w0 E N env hp a w) {v : AV} {x : Value} {ka : IntKind} {l : List Int} (hs : srcInts hp v (fun a b => some (a, b)) = some (ka, l)) (hr : Rep E v x) :
    (∀ w', (Builtin.lenOf x).run P w' = .ok l.length w') ∧ ∀ n, (Builtin.firstCells 1 (min l.length n) x).run P w = .ok ((l.take n).map (.int ka)).toArray w := by
  unfold srcInts at hs
  split at hs
  · rename_i fr k l'
    simp at hs
    obtain ⟨rfl, rfl⟩ := hs
    have := Rep1.cells1 (E := E) (v := .isl fr (.int k) l') hr rfl
    simp only [RepC] at this
    obtain ⟨y, ys, h1, h2, ad, len, cap, h3, h4, h5, h6⟩ := this
    simp at h1; subst h1; subst h3
    have hlen : len = (l' : List Int).length := h4
    refine ⟨fun w' => by simp [Builtin.lenOf, hlen], fun n => ?_⟩
    have hys := RcL_ints.1 h2
    cases ad with
    | none =>
      have h6 : cap = 0 := h6
      have : (l' : List Int) = [] := List.length_eq_zero_iff.1 (by omega)
      simp [Builtin.firstCells, this]
    | some ad =>
      have h6 : ys = [] ∨ Lies E fr ad ys := h6
      rcases h6 with h6 | ⟨h7, _, c, T, fz, h8, h9⟩
      · rw [h6] at hys
        have : (l' : List Int) = [] := by simpa using hys.symm
        simp [Builtin.firstCells, this, loadCells, loadCellsFrom]
      · obtain ⟨b, off, spot⟩ := ad
        have : spot = none := h7
        subst this
        have := loadCells_ints (P := P) (k := k) (l := l') (o := off) (h.imm _ _ h8) (fun j v hv => h9 j v (by rw [hys]; exact hv)) n
        simpa [Builtin.firstCells] using this
  · rename_i n p k i len cap
    split at hs
    · rename_i c hc
      rw [getK_eq] at hs
      cases hg : get c p with
      | none => rw [hg] at hs; cases hs
      | some u =>
        rw [hg] at hs
        simp only [Option.bind_some] at hs
        split at hs
        · rename_i ka' m l' hi
          split at hs
          · rename_i hk
            subst hk
            cases hb : Nat.ble (i + len) m
            · rw [hb] at hs; cases hs
            · rw [hb] at hs
              simp at hs
              obtain ⟨rfl, rfl⟩ := hs
              obtain ⟨xs, T, ys, h1, h2, h3, _⟩ := own_part h hc hg
              obtain ⟨e1, e2⟩ := intsOf_rep hi h3
              have hx := Rep1.cells1 (E := E) (v := .sl n p (.int ka') i len cap) hr rfl
              simp only [RepC] at hx
              obtain ⟨hle, off, ex, ho⟩ := hx
              simp at ex; subst ex
              have hbl := Nat.le_of_ble_eq_true hb
              have hll : ((l'.drop i).take len).length = len := by simp; omega
              refine ⟨fun w' => by simp [Builtin.lenOf]; omega, fun q => ?_⟩
              rcases Nat.eq_zero_or_pos len with h0 | h0
              · subst h0; simp [Builtin.firstCells, loadCells, loadCellsFrom]
              · have ho' := ho (by omega)
                have := loadCells_ints (P := P) (k := ka') (l := (l'.drop i).take len) (o := off) h1 (fun j v hv => by
                  rw [ho', Nat.add_assoc]
                  simp only [Sh.size, Nat.mul_one]
                  refine h2 (i + j) v ?_
                  rw [e1]
                  simp only [List.getElem?_map, List.getElem?_take, List.getElem?_drop] at hv ⊢
                  split at hv
                  · exact hv
                  · cases hv) q
                simpa [Builtin.firstCells] using this
          · cases hs
        · cases hs
    · cases hs
  · cases hs

theorem good_copy (h : Rel w0 E N env hp a w) {c : Call} {d s : AV} {v : AV} {δ : Option (Nat × AV)} {e : TypeId} {T1 : TypeId} {x y : Operand} (hop : o.op = .call c) (hcal : c.callee = .builtin .copy)
    (hargs : c.args = #[x, y]) (ht : c.argTypes[0]? = some T1) (hu : cx.P.underlying T1 = some (.slice e)) (hsz : sizeT cx.P e = some 1)
    (hd : Rep E d (a.eval x)) (hs : Rep E s (a.eval y)) (hk : copyK hp d s P2 = some (v, δ)) : Good cx.P o w0 N env hp v δ a w := by
  unfold copyK at hk
  split at hk
  · rename_i n p kb i len cap
    rw [srcInts_eq] at hk
    cases hsrc : srcInts hp s (fun a b => some (a, b)) with
    | none => rw [hsrc] at hk; cases hk
    | some q =>
      obtain ⟨ka, xs⟩ := q
      rw [hsrc] at hk
      simp only [Option.bind_some] at hk
      split at hk
      · rename_i hkk
        subst hkk
        split at hk
        · rename_i cc hc
          rw [getK_eq] at hk
          cases hg : get cc p with
          | none => rw [hg] at hk; cases hk
          | some u =>
            rw [hg] at hk
            simp only [Option.bind_some] at hk
            split at hk
            · rename_i kc m l hi
              split at hk
              · rename_i hkc
                subst hkc
                cases hb : (Nat.ble (i + len) m && intsFit u (spliceL l i (xs.take len)))
                · rw [hb] at hk; cases hk
                · rw [hb] at hk
                  simp only [cond_true] at hk
                  rw [setK_eq] at hk
                  cases hset : set cc p (intsTo u (spliceL l i (xs.take len))) with
                  | none => rw [hset] at hk; cases hk
                  | some c' =>
                    rw [hset] at hk
                    simp only [Option.bind_some, P2, Option.some.injEq, Prod.mk.injEq] at hk
                    obtain ⟨rfl, rfl⟩ := hk
                    simp only [Bool.and_eq_true] at hb
                    obtain ⟨hb1, hb2⟩ := hb
                    have hbl := Nat.le_of_ble_eq_true hb1
                    obtain ⟨blk, T, h1, h2, _⟩ := h.rheap n cc hc
                    have hlm : l.length = m := by
                      obtain ⟨_, ys, _, _, _, hr⟩ := get_sound p hg h2
                      exact (intsOf_rep hi hr).2
                    have hspl : (spliceL l i (xs.take len)).length = m := by simp [spliceL]; omega
                    obtain ⟨hti, htn⟩ := intsTo_rep (E := E) hi hspl hb2
                    obtain ⟨pre, ys, post, e1, e2, e3, e4, _, _⟩ := set_sound p hset h2 hti
                    have hys : ys = l.map (.int kc) := by
                      obtain ⟨pre', ys', post', f1, f2, f3⟩ := get_sound p hg h2
                      have hl' := f3.length
                      have := (intsOf_rep hi f3).1
                      rw [← this]
                      have hle : ys.length = ys'.length := by rw [e3, this]; simp [hspl, hlm]
                      rw [e1] at f1
                      have hpre : pre = pre' := by
                        have := congrArg (List.take (offs p)) f1
                        rw [← e2, List.append_assoc, List.take_left] at this
                        rw [this, e2, ← f2, List.append_assoc, List.take_left]
                      subst hpre
                      rw [List.append_assoc, List.append_assoc] at f1
                      have f1' := List.append_cancel_left f1
                      have := congrArg (List.take ys.length) f1'
                      rw [List.take_left, hle, List.take_left] at this
                      exact this
                    have hx := Rep1.cells1 (E := E) (v := .sl n p (.int kc) i len cap) hd rfl
                    simp only [RepC] at hx
                    obtain ⟨hle, off, ex, ho⟩ := hx
                    simp at ex
                    obtain ⟨g1, g2⟩ := src_run (P := cx.P) h hsrc hs
                    have hq : (min xs.length len) = (xs.take len).length := by simp [Nat.min_comm]
                    -- the new cells
                    have hnew : (pre ++ (spliceL l i (xs.take len)).map (Value.int kc) ++ post) = blk.toList.take (offs p + i) ++ (xs.take len).map (Value.int kc) ++ blk.toList.drop (offs p + i + (xs.take len).length) := by
                      rw [e1, hys]
                      have hil : i + (xs.take len).length ≤ l.length := by rw [List.length_take]; omega
                      rw [List.append_assoc pre, List.append_assoc pre, ← e2, take_len_add, Nat.add_assoc, drop_len_add]
                      rw [List.take_append_of_le_length (by simp; omega), List.drop_append_of_le_length (by simp; simp at hil; omega)]
                      simp only [spliceL, List.map_append, List.append_assoc, List.map_take, List.map_drop]
                    have hcells : (Builtin.firstCells 1 (min xs.length len) (a.eval y)).run cx.P w = .ok ((xs.take len).map (.int kc)).toArray w := g2 len
                    have hw := h.write hc (c' := c') (ys := (pre ++ (spliceL l i (xs.take len)).map (Value.int kc) ++ post).toArray) (by simpa using e4) (set_named p hset (h.shp n cc hc) (htn _))
                    refine Good.value (E' := E) (x := goInt (min xs.length len : Nat)) (w' := w.setRow (E.ρ n) (pre ++ (spliceL l i (xs.take len)).map (Value.int kc) ++ post).toArray) ?_ hw (Rep1.int.2 rfl) (by simp [AV.named])
                    have hstore : (storeCells ⟨E.ρ n, off, none⟩ ((xs.take len).map (Value.int kc))).run cx.P w = .ok () (w.setRow (E.ρ n) (pre ++ (spliceL l i (xs.take len)).map (Value.int kc) ++ post).toArray) := by
                      rcases Nat.eq_zero_or_pos (xs.take len).length with h0 | h0
                      · have hnil : xs.take len = [] := List.length_eq_zero_iff.1 h0
                        have hsp : spliceL l i (xs.take len) = l := by rw [hnil]; simp [spliceL]
                        rw [hsp, ← hys, ← e1, hnil]
                        simp [storeCells, setRow_self w _ _ _ _ h1]
                      · have hlen0 : 0 < len := by rw [List.length_take] at h0; omega
                        have ho' := ho (by omega)
                        simp only [Sh.size, Nat.mul_one] at ho'
                        have hbs : blk.size = (pre ++ ys ++ post).length := by rw [← e1]; simp
                        have hst := run_storeCells_at cx.P (E.ρ n) off T ((xs.take len).map (Value.int kc)) 0 blk w h1 (by
                          rw [hbs, hys]; simp [e2, ho']; omega) (by intro v hv; rw [List.mem_map] at hv; obtain ⟨_, _, rfl⟩ := hv; rfl)
                        rw [hst, hnew]
                        simp [ho']
                    have hmin : Nat.min xs.length len = min xs.length len := rfl
                    simp only [execOp, hop, resolve, hcal, Sem.run_bind, Sem.run_pure, Result.andThen_ok, invoke, builtin, hargs, List.map_toArray, List.map_cons, List.map_nil]
                    simp only [Builtin.copy_, ht, List.getElem?_toArray, List.getElem?_cons_zero, List.getElem?_cons_succ, Sem.run_bind, run_underlying hu, Result.andThen_ok, ex, g1, run_sizeT hsz, hmin, hcells, hstore, Sem.run_pure]
              · cases hk
            · cases hk
        · cases hk
      · cases hk
  · cases hk
end
end Go.Sy
