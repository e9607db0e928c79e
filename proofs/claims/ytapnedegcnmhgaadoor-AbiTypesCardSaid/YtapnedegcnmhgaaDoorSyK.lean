/- What an operation does in the model is what the symbolic reading says: composites, places, slices. -/
import Derived.Test.YtapnedegcnmhgaaDoorSyJ
import Derived.Laws.Tables
set_option linter.unusedVariables false
set_option linter.unusedSimpArgs false
namespace Go.Sy
open Go Go.RowKit

/-! ### Composites -/

theorem foldl_set (off : Nat) : ∀ (xs : List Value) (k : Nat) (c : Array Value), off + k + xs.length ≤ c.size →
    ((xs.zipIdx k).foldl (fun (cs : Array Value) (p : Value × Nat) => cs.setIfInBounds (off + p.2) p.1) c).toList = c.toList.take (off + k) ++ xs ++ c.toList.drop (off + k + xs.length)
  | [], k, c, h => by simp
  | x :: xs, k, c, h => by
    simp only [List.zipIdx_cons, List.foldl_cons]
    rw [foldl_set off xs (k + 1) (c.setIfInBounds (off + k) x) (by simp at h ⊢; omega)]
    have e := list_seg_step c.toList (off + k) x xs (by simp at h ⊢; omega)
    simpa [Array.toList_setIfInBounds, Nat.add_assoc] using e

theorem fold_cells (off : Nat) (v : Value) (c : Array Value) (h : off + v.cells.size ≤ c.size) :
    (v.cells.zipIdx.foldl (fun (cs : Array Value) (p : Value × Nat) => cs.setIfInBounds (off + p.2) p.1) c).toList = c.toList.take off ++ v.cells.toList ++ c.toList.drop (off + v.cells.size) := by
  rw [← Array.foldl_toList, Array.toList_zipIdx]
  have := foldl_set off v.cells.toList 0 c (by simpa using h)
  simpa using this

theorem parts_sound {P : Program} {t : TypeId} {E : Emb} {ok : Nat → Bool} {place : Nat → Option (Nat × Nat)} {ea : Operand → AV} {er : Operand → Value}
    (hev : ∀ x, Rep E (ea x) (er x) ∧ (ea x).named ok = true)
    (hpl : ∀ i (u : AV), (∀ fs f, P.underlying t = some (.struct fs) → fs[i]? = some f → sizeT P f.type = some u.size → place i = some (f.offset, u.size)) ∧
      (∀ n e, P.underlying t = some (.array n e) → sizeT P e = some u.size → place i = some (i * u.size, u.size))) :
    ∀ (ps : List (Nat × Operand)) (v v' : AV) (cells : Array Value), partsK P t v (ps.map fun p => (p.1, ea p.2)) some = some v' → RepC E v cells.toList → v.named ok = true →
      ∃ cells', Instr.fill place cells (ps.map fun p => (p.1, er p.2)) = some cells' ∧ RepC E v' cells'.toList ∧ v'.named ok = true ∧ v'.isAgg = v.isAgg
  | [], v, v', cells, h, hr, hn => by
    simp [partsK] at h; subst h
    exact ⟨cells, by simp [Instr.fill], hr, hn, rfl⟩
  | (i, x) :: ps, v, v', cells, h, hr, hn => by
    simp only [List.map_cons, partsK] at h
    have step : ∀ (p : List Step) (off sz : Nat), offs p = off → (ea x).size = sz → (ea x).plain = true → place i = some (off, sz) →
        setK v p (ea x) (fun v1 => partsK P t v1 (ps.map fun p => (p.1, ea p.2)) some) = some v' →
        ∃ cells', Instr.fill place cells (((i, x) :: ps).map fun p => (p.1, er p.2)) = some cells' ∧ RepC E v' cells'.toList ∧ v'.named ok = true ∧ v'.isAgg = v.isAgg := by
      intro p off sz hoff hsz hpl' hplace hset
      rw [setK_eq] at hset
      cases hs : set v p (ea x) with
      | none => rw [hs] at hset; cases hset
      | some v1 =>
        rw [hs] at hset
        simp only [Option.bind_some] at hset
        have hx := (Rep.one hpl').1 (hev x).1
        obtain ⟨pre, ys, post, e, hl, hly, hr1, _, hag⟩ := set_sound p hs hr hx.1
        have hcs : (er x).cells.size = sz := by rw [← hsz]; simpa using hx.1.length
        have hsize : cells.size = (pre ++ ys ++ post).length := by rw [← e]; simp
        have hfit : off + (er x).cells.size ≤ cells.size := by
          rw [hsize]; simp [hl, hoff, hly]
        have e1 : cells.toList.take off = pre := by rw [e, ← hoff, ← hl, List.append_assoc, List.take_left]
        have e2 : cells.toList.drop (off + (er x).cells.size) = post := by
          have : (er x).cells.size = ys.length := by rw [hly]; simp
          rw [e, ← hoff, ← hl, this, ← List.length_append, List.drop_left]
        obtain ⟨cells', h1, h2, h3, h4⟩ := parts_sound hev hpl ps v1 v' (cells := ((er x).cells.zipIdx.foldl (fun (cs : Array Value) (p : Value × Nat) => cs.setIfInBounds (off + p.2) p.1) cells)) hset (by rw [fold_cells _ _ _ hfit, e1, e2]; exact hr1) (set_named p hs hn (hev x).2)
        refine ⟨cells', ?_, h2, h3, by rw [h4, hag]⟩
        simp only [List.map_cons, Instr.fill, hplace]
        rw [if_neg (by simp [hcs]; rw [← hcs]; exact hfit)]
        exact h1
    split at h
    · rename_i fs hu
      split at h
      · rename_i f hf
        split at h
        · rename_i hfit
          obtain ⟨_, hs, hp⟩ := fitsT_spec hfit
          exact step _ f.offset _ (by simp [offs]) rfl hp ((hpl i (ea x)).1 fs f hu hf hs) h
        · cases h
      · cases h
    · rename_i n e hu
      split at h
      · rename_i sz hsz
        split at h
        · rename_i hfit
          obtain ⟨_, hs, hp⟩ := fitsT_spec hfit
          have : sz = (ea x).size := by rw [hsz] at hs; exact Option.some.inj hs
          exact step _ (i * (ea x).size) _ (by simp [offs, this]) rfl hp ((hpl i (ea x)).2 n e hu hs) h
        · cases h
      · cases h
    · cases h

theorem mapM_sized {P : Program} : ∀ (fs : List Field), (fs.all fun f => (sizeT P f.type).isSome) = true →
    fs.mapM (fun f => (P.info? f.type).map fun i => (f.offset, i.size)) = some (fs.map fun f => (f.offset, P.cellsOf f.type))
  | [], _ => by simp
  | f :: fs, h => by
    simp only [List.all_cons, Bool.and_eq_true] at h
    have ih := mapM_sized fs h.2
    cases hi : P.info? f.type with
    | none => simp [sizeT, hi] at h
    | some i =>
      simp only [List.mapM_cons, hi, Option.map_some, Option.bind_eq_bind, Option.bind_some, ih, Option.pure_def, List.map_cons]
      simp [Program.cellsOf, hi]

section
variable {cx : Cx} {G : Ini → Prop} {w0 : Ini} {E : Emb} {N : Nat} {env hp : Nat → Option AV} {a : Act} {w : World} {o : Oper}

theorem good_build (hc : CxOk cx G) (hG : G w0) (h : Rel w0 E N env hp a w) {t : TypeId} {parts : Array (Nat × Operand)} {z v : AV} (hop : o.op = .build t parts)
    (hz : zeroOK cx.P t z = true) (ha : z.isAgg = true) (hs : sizedT cx.P t = true) (hp' : partsK cx.P t z (parts.toList.map fun p => (p.1, ev cx env 0 p.2)) some = some v) :
    Good cx.P o w0 N env hp v [] a w := by
  obtain ⟨val, h1, h2, h3, h4⟩ := zeroOK_spec hz
  have hinfo : ∃ it, cx.P.info? t = some it ∧ it.zero = some val := by
    have := h1 w
    unfold zeroValue typeInfo at this
    cases hi : cx.P.info? t with
    | none => simp [hi, stuck] at this
    | some it =>
      simp only [Sem.run_bind, run_program, Result.andThen_ok, hi, Sem.run_pure] at this
      cases hzv : it.zero with
      | none => simp [hzv, unsupported] at this
      | some z' => simp [hzv] at this; exact ⟨it, rfl, by rw [hzv, this]⟩
  obtain ⟨it, hit, hzero⟩ := hinfo
  have key : ∀ place, (∀ i (u : AV), (∀ fs f, cx.P.underlying t = some (.struct fs) → fs[i]? = some f → sizeT cx.P f.type = some u.size → place i = some (f.offset, u.size)) ∧
      (∀ n e, cx.P.underlying t = some (.array n e) → sizeT cx.P e = some u.size → place i = some (i * u.size, u.size))) →
      (Instr.fill place val.cells (parts.toList.map fun p => (p.1, a.eval p.2)) = cx.P.built t (parts.toList.map fun p => (p.1, a.eval p.2))) → Good cx.P o w0 N env hp v [] a w := by
    intro place hpl hb
    obtain ⟨cells', f1, f2, f3, f4⟩ := parts_sound (ok := fun n => (hp n).isSome) (fun x => ev_sound hc hG h 0 x) hpl parts.toList z v val.cells hp' (h2 E) (h4 _)
    have hag : v.isAgg = true := by rw [f4, ha]
    refine Good.value (E' := E) (x := .agg cells') (w' := w) ?_ h ((Rep.one f2.plain).2 (by have := Rep1.of_agg hag f2; simpa using this)) f3
    have hr := run_build (P := cx.P) w t (parts.map fun p => (p.1, a.eval p.2)) cells' (by rw [Array.toList_map, ← hb]; exact f1)
    simp only [execOp, hop, Sem.run_bind, hr, Result.andThen_ok, Sem.run_pure]
  cases hu : cx.P.underlying t with
  | none => simp [sizedT, hu] at hs
  | some d =>
    cases d <;> simp [sizedT, hu] at hs
    case array n e =>
      cases hie : cx.P.info? e with
      | none => simp [sizeT, hie] at hs
      | some ie =>
        refine key (fun i => some (i * ie.size, ie.size)) (fun i u => ⟨(fun fs f h' => by rw [hu] at h'; cases h'), (fun n' e' h' hs' => ?_)⟩) ?_
        · rw [hu] at h'; cases h'
          simp [sizeT, hie] at hs'
          rw [hs']
        · simp [Program.built, hit, hu, hzero, hie]
    case struct fs =>
      have hm := mapM_sized (P := cx.P) fs.toList (by simpa using hs)
      refine key ((fs.toList.map fun f => (f.offset, cx.P.cellsOf f.type)).toArray[·]?) (fun i u => ⟨(fun fs' f h' hf hs' => ?_), (fun n' e' h' => by rw [hu] at h'; cases h')⟩) ?_
      · rw [hu] at h'; cases h'
        have := sizeT_cells hs'
        simp [hf, this]
      · simp [Program.built, hit, hu, hzero, hm]
end
end Go.Sy
