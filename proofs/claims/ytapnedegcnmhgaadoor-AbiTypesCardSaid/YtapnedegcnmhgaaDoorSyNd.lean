/- What an operation does in the model is what the symbolic reading says: texts and bytes, interfaces. -/
import Derived.Test.YtapnedegcnmhgaaDoorSyNc
import Derived.Lib.ConvBytes
import Derived.Laws.BytesString
set_option linter.unusedVariables false
set_option linter.unusedSimpArgs false
namespace Go.Sy
open Go Go.RowKit

/-- A new block whose cells stay. -/
theorem Rel.stone {b : Ini} {E : Emb} {N : Nat} {env hp : Nat → Option AV} {a : Act} {w w' : World} (h : Rel b E N env hp a w) {c : Array Value} {T : TypeId} {fz : Nat × Nat}
    (ho : w'.os = w.os) (ht : w'.tape = w.tape) (hu : w'.output = w.output) (hs : w'.heap.size = w.heap.size + 1) (hold : ∀ j, j < w.heap.size → w'.heap[j]? = w.heap[j]?) (hnew : w'.heap[w.heap.size]? = some (.cells c T fz)) :
    ∃ E', (∀ f j v, c[j]? = some v → E'.im f w.heap.size j = some v) ∧ E.Le E' (fun n => (hp n).isSome) ∧ Rel b E' N env hp a w' := by
  have hbs := h.below.size
  have hni : ∀ f j, E.im f w.heap.size j = none := fun f j => by
    cases hi : E.im f w.heap.size j with
    | none => rfl
    | some v => have := h.imlt hi; omega
  have hle : E.Le { E with im := fun f g j => if g = w.heap.size then c[j]? else E.im f g j } (fun n => (hp n).isSome) :=
    ⟨fun _ _ => rfl, fun _ _ => rfl, fun _ _ => rfl, fun f g j v hv => by have := h.imlt hv; simp only; rw [if_neg (by omega)]; exact hv⟩
  refine ⟨{ E with im := fun f g j => if g = w.heap.size then c[j]? else E.im f g j }, fun f j v hv => by simpa using hv, hle, h.mem hle (fun n hn => hn) ?_⟩
  refine { rheap := ?_, inj := h.inj, imm := ?_, imle := ?_, pers := ?_, new := ?_, imm0 := ?_, below := ?_, shp := h.shp, fixed := h.fixed, gone := h.gone, newn := h.newn }
  · intro n c' hc' hl'
    obtain ⟨g1, g2⟩ := h.rheap n c' hc' hl'
    refine ⟨g1, ?_⟩
    rcases g2 with g2 | ⟨ys, T', h1, hx, hr, hi, hb⟩
    · exact .inl g2
    · have hl := h.lt hc' hl' h1
      refine .inr ⟨ys, T', h1, by rw [hold _ hl]; exact hx, hr.mono hle (h.shp n c' hc'), fun f j hf => ?_, hb⟩
      simp only
      rw [if_neg (by omega)]
      exact hi f j hf
  · intro f g j v hv
    simp only at hv
    split at hv
    · rename_i e; subst e
      exact ⟨c, T, fz, hnew, hv⟩
    · obtain ⟨c', T', fz', h1, h2⟩ := h.imm f g j v hv
      have := h.imlt hv
      exact ⟨c', T', fz', by rw [hold _ this]; exact h1, h2⟩
  · intro g j v hv
    simp only at hv ⊢
    split at hv
    · rename_i e; rw [if_pos e]; exact hv
    · rename_i e; rw [if_neg e]; exact h.imle g j v hv
  · intro g j v hv
    have h1 := h.pers g j v hv
    have := h.imlt h1
    simp only
    rw [if_neg (by omega)]
    exact h1
  · intro g j v hv
    simp only at hv
    split at hv
    · rename_i e; right; omega
    · exact h.new g j v hv
  · intro g c' T' fz' hL hg j v hv
    have h1 := h.imm0 g c' T' fz' hL hg j v hv
    have := h.imlt h1
    simp only
    rw [if_neg (by omega)]
    exact h1
  · exact h.below.trans ⟨ho, ht, hu, by omega, fun k hk _ => hold k (by omega)⟩

theorem zero_rep1 {P : Program} {t : TypeId} {z : AV} (h : zeroOK P t z = true) (hf : zeroForm P t z = true) : ∃ val, (∀ w, (zeroValue t).run P w = .ok val w) ∧ (∀ E, Rep1 E z val) ∧ z.plain = true ∧ ∀ ok, z.named ok = true := by
  unfold zeroOK at h
  split at h
  · rename_i v l h1 h2
    have e := sameCells_eq h
    unfold zeroForm at hf
    rw [h1] at hf
    have hag : (z.isAgg = true → ∃ xs, v = .agg xs) ∧ (z.isAgg = false → v.cells = #[v]) := by
      cases v with
      | agg xs => exact ⟨fun _ => ⟨_, rfl⟩, fun hz => by simp [hz] at hf⟩
      | _ => exact ⟨fun hz => by simp [hz] at hf, fun _ => rfl⟩
    refine ⟨v, fun w => ?_, fun E => ⟨by rw [e]; exact litCells_rep E h2, hag.1, hag.2⟩, lit_plain h2, fun ok => lit_named h2⟩
    cases hi : P.info? t with
    | none => rw [hi] at h1; cases h1
    | some i =>
      rw [hi] at h1
      simp at h1
      simp [zeroValue, typeInfo, hi, h1]
  · cases h

section
variable {cx : Cx} {G : Ini → Prop} {w0 : Ini} {E : Emb} {N : Nat} {env hp : Nat → Option AV} {a : Act} {w : World} {o : Oper}

theorem good_bytesOf (h : Rel w0 E N env hp a w) {s d e : TypeId} {x : Operand} {l : List UInt8} (hop : o.op = .convert s d x)
    (hs : cx.P.underlying s = some .string) (hd : cx.P.underlying d = some (.slice e)) (he : cx.P.underlying e = some (.int .u8)) (hx : Rep1 E (.str l) (a.eval x)) :
    Good cx.P o w0 N env hp (.isl true (.int .u8) (l.map fun c => ((c.toNat : Nat) : Int))) [] a w := by
  have ex := Rep1.str.1 hx
  have hrun := Lib.run_convert_string_bytes (P := cx.P) w s d e ⟨l.toArray⟩ hs hd he
  obtain ⟨E', h1, h2, h3⟩ := h.stone (w' := Lib.bytesWorld w e ⟨l.toArray⟩) (c := Lib.bytesCells w e ⟨l.toArray⟩) (T := e) (fz := _) rfl rfl rfl (Lib.bytesWorld_size w e _) (Lib.bytesWorld_at_old w e _) (Lib.bytesWorld_at_new w e _)
  have hsz := bytes_size l
  refine Good.value (E' := E') (x := .slice (some ⟨w.heap.size, 0, none⟩) (⟨l.toArray⟩ : ByteArray).size (grownCap w (⟨l.toArray⟩ : ByteArray).size 0 e)) (w' := Lib.bytesWorld w e ⟨l.toArray⟩) ?_ h3 (Rep1.of_cells1 rfl ?_) (by simp [AV.named])
  · simp only [execOp, hop, ex, Sem.run_bind, hrun, Result.andThen_ok]
    rfl
  · simp only [RepC]
    refine ⟨_, l.map (fun c => Value.int .u8 ((c.toNat : Nat) : Int)), rfl, by rw [RcL_ints]; simp, _, _, _, rfl, by simp [hsz], ?_, .inr ⟨rfl, fun j v hv => ?_⟩⟩
    · exact grownCap_ge w _ 0 e
    · refine h1 _ _ _ ?_
      simp only [Lib.bytesCells]
      rw [Nat.zero_add, Array.getElem?_append_left]
      · simpa using hv
      · have : j < l.length := by
          rcases Nat.lt_or_ge j l.length with h' | h'
          · exact h'
          · rw [List.getElem?_eq_none (by simpa using h')] at hv; cases hv
        simpa using this

theorem good_makeInterface (h : Rel w0 E N env hp a w) {t : TypeId} {x : Operand} {v : AV} (hop : o.op = .makeInterface t x) {d : TypeDesc} (hu : cx.P.underlying t = some d) (hd : ∀ ms, d ≠ .interface ms)
    (hx : Rep1 E v (a.eval x)) (hn : v.named (fun n => (hp n).isSome) = true) : Good cx.P o w0 N env hp (.ifc t v) [] a w := by
  refine Good.value (E' := E) (x := .iface t (a.eval x)) (w' := w) ?_ h (Rep1.of_cells1 rfl ?_) (by simpa [AV.named, updH_nil] using hn)
  · simp only [execOp, hop, Instr.makeInterface, Sem.run_bind, run_underlying hu, Result.andThen_ok]
    cases d <;> first | rfl | exact absurd rfl (hd _)
  · simp only [RepC]
    exact ⟨_, rfl, hx.1, hx.2.1, hx.2.2⟩

theorem good_typeAssert (h : Rel w0 E N env hp a w) {t s tt : TypeId} {x : Operand} {v z : AV} (hop : o.op = .typeAssert x s tt true) {d : TypeDesc} (hu : cx.P.underlying tt = some d) (hd : ∀ ms, d ≠ .interface ms)
    (hx : Rep1 E (.ifc t v) (a.eval x)) (hp' : v.plain = true) (hn : v.named (fun n => (hp n).isSome) = true) (hz : zeroOK cx.P tt z = true) (hzf : zeroForm cx.P tt z = true) :
    Good cx.P o w0 N env hp (if t = tt then .tup [v, .bool true] else .tup [z, .bool false]) [] a w := by
  have hx' := hx.cells1 rfl
  simp only [RepC] at hx'
  obtain ⟨y, e, g1, g2, g3⟩ := hx'
  simp at e
  obtain ⟨val, z1, z2, z3, z4⟩ := zero_rep1 hz hzf
  by_cases ht : t = tt
  · rw [if_pos ht]
    refine Good.value (E' := E) (x := .tuple #[y, .bool true]) (w' := w) ?_ h ⟨[y, .bool true], rfl, y, _, rfl, hp', ⟨g1, g2, g3⟩, .bool true, [], rfl, rfl, Rep1.bool.2 rfl, rfl⟩ (by simp [AV.named, AV.nameds, updH_nil, hn])
    simp only [execOp, hop, Instr.typeAssert, Sem.run_bind, run_underlying hu, Result.andThen_ok, e]
    cases d <;> first | (simp [ht]; done) | exact absurd rfl (hd _)
  · rw [if_neg ht]
    have rz : Rep1 E z val := z2 E
    refine Good.value (E' := E) (x := .tuple #[val, .bool false]) (w' := w) ?_ h ⟨[val, .bool false], rfl, val, _, rfl, z3, rz, .bool false, [], rfl, rfl, Rep1.bool.2 rfl, rfl⟩ (by simp [AV.named, AV.nameds, z4])
    simp only [execOp, hop, Instr.typeAssert, Sem.run_bind, run_underlying hu, Result.andThen_ok, e]
    cases d <;> first | (simp [ht, z1 w]; done) | exact absurd rfl (hd _)

theorem good_typeAssert_nil (h : Rel w0 E N env hp a w) {s tt : TypeId} {x : Operand} {z : AV} (hop : o.op = .typeAssert x s tt true) {d : TypeDesc} (hu : cx.P.underlying tt = some d) (hd : ∀ ms, d ≠ .interface ms)
    (hx : Rep1 E .nili (a.eval x)) (hz : zeroOK cx.P tt z = true) (hzf : zeroForm cx.P tt z = true) : Good cx.P o w0 N env hp (.tup [z, .bool false]) [] a w := by
  have e := Rep1.nili.1 hx
  obtain ⟨val, z1, z2, z3, z4⟩ := zero_rep1 hz hzf
  have rz : Rep1 E z val := z2 E
  refine Good.value (E' := E) (x := .tuple #[val, .bool false]) (w' := w) ?_ h ⟨[val, .bool false], rfl, val, _, rfl, z3, rz, .bool false, [], rfl, rfl, Rep1.bool.2 rfl, rfl⟩ (by simp [AV.named, AV.nameds, z4])
  simp only [execOp, hop, Instr.typeAssert, Sem.run_bind, run_underlying hu, Result.andThen_ok, e]
  cases d <;> first | (simp [z1 w]; done) | exact absurd rfl (hd _)

theorem foldl_push : ∀ (l : List Int) (r : ByteArray), l.foldl (fun r n => r.push (UInt8.ofNat n.toNat)) r = ⟨(r.data.toList ++ l.map fun n => UInt8.ofNat n.toNat).toArray⟩
  | [], r => by simp
  | b :: l, r => by
    rw [List.foldl_cons, foldl_push l]
    simp [ByteArray.push]

theorem good_strOf (h : Rel w0 E N env hp a w) {s d e : TypeId} {x : Operand} {v : AV} {l : List Int} (hop : o.op = .convert s d x)
    (hs : cx.P.underlying s = some (.slice e)) (hd : cx.P.underlying d = some .string) (he : cx.P.underlying e = some (.int .u8)) (hf : listF0 hp v = some ⟨.int .u8, l⟩) (hx : Rep E v (a.eval x)) :
    Good cx.P o w0 N env hp (.str (l.map fun n => UInt8.ofNat n.toNat)) [] a w := by
  obtain ⟨ad, len, cap, ys, ex, hlen, hcap, hnone, hr, hcells⟩ := (listF0_shown h.toMem (fun n c hc => hc) hf hx).ex
  rw [RcL_ints] at hr
  subst hr
  refine Good.value (E' := E) (x := .string ⟨(l.map fun n => UInt8.ofNat n.toNat).toArray⟩) (w' := w) ?_ h (Rep1.str.2 rfl) (by simp [AV.named])
  have hconv : (convert s d (.slice ad len cap)).run cx.P w = (Conv.bytesToString (.slice ad len cap)).run cx.P w := by
    simp [convert, run_underlying hs, run_underlying hd, run_underlying he]
  have key : (Conv.bytesToString (.slice ad len cap)).run cx.P w = .ok (.string ⟨(l.map fun n => UInt8.ofNat n.toNat).toArray⟩) w := by
    cases ad with
    | none =>
      have hc0 : cap = 0 := hnone rfl
      have hl0 : l = [] := List.length_eq_zero_iff.1 (show l.length = 0 by have : len = l.length := hlen; omega)
      subst hl0
      rfl
    | some ad =>
      have hl : len = l.length := hlen
      have hload : (loadCells ad len).run cx.P w = .ok (l.map (Value.int .u8)).toArray w := by
        rw [hl]
        have := run_loadCells_list (P := cx.P) w ad (l.map (Value.int .u8)) (fun j v hv => ?_)
        · simpa using this
        · rcases hcells with h0 | ⟨g, off, e1, hc, _⟩
          · rw [h0] at hv; simp at hv
          · cases e1
            have := hc j v hv
            obtain ⟨c, T, fz, k1, k2⟩ := cellOf_of this
            rw [cell_at k1]; exact k2
      rw [run_bytesToString w ad len cap l hload, foldl_push]
      rfl
  simp only [execOp, hop, ex, Sem.run_bind, hconv, key, Result.andThen_ok]
  rfl
end
end Go.Sy
