/- What an operation does in the model is what the symbolic reading says: fields, indexes, slices. -/
import Derived.Test.YtapnedegcnmhgaaDoorSyK
set_option linter.unusedVariables false
set_option linter.unusedSimpArgs false
namespace Go.Sy
open Go Go.RowKit

theorem addr_add (g o n : Nat) : (⟨g, o, none⟩ : Addr).add n = ⟨g, o + n, none⟩ := by
  unfold Addr.add; split
  · rename_i h; subst h; simp
  · rfl

theorem Lies.part {E : Emb} {fr : Bool} {b off : Nat} {xs pre ys post : List Value} (h : Lies E fr ⟨b, off, none⟩ xs) (e : xs = pre ++ ys ++ post) : Lies E fr ⟨b, off + pre.length, none⟩ ys := by
  refine ⟨rfl, fun j v hv => ?_⟩
  have hj : j < ys.length := by
    rcases Nat.lt_or_ge j ys.length with h | h
    · exact h
    · simp [List.getElem?_eq_none h] at hv
  have := h.2 (pre.length + j) v (by
    rw [e, List.append_assoc, List.getElem?_append_right (by omega), Nat.add_sub_cancel_left, List.getElem?_append_left hj]; exact hv)
  simpa [Nat.add_assoc] using this

section
variable {cx : Cx} {G : Ini → Prop} {w0 : Ini} {E : Emb} {N : Nat} {env hp : Nat → Option AV} {a : Act} {w : World} {o : Oper}

/-- A part of what lies in memory that stays. -/
theorem pim_part {E : Emb} {fr : Bool} {v u : AV} {x : Value} {p : List Step} (h : Rep1 E (.pim fr v) x) (hg : get v p = some u) :
    ∃ b off, x = .pointer (some ⟨b, off, none⟩) ∧ Rep1 E (.pim fr u) (.pointer (some ⟨b, off + offs p, none⟩)) := by
  have := h.cells1 rfl
  simp only [RepC] at this
  obtain ⟨⟨b, off, spot⟩, ys, h1, h2, h5⟩ := this
  have hsp : spot = none := h2.1
  subst hsp
  simp at h1
  obtain ⟨pre, zs, post, e, hl, hr⟩ := get_sound p hg h5
  refine ⟨b, off, h1, Rep1.of_cells1 rfl ?_⟩
  simp only [RepC]
  exact ⟨_, zs, rfl, by rw [← hl]; exact h2.part e, hr⟩

theorem good_fieldAddr (h : Rel w0 E N env hp a w) {s : TypeId} {x : Operand} {f n : Nat} {p : List Step} {fs : Array Field} {fd : Field} (hop : o.op = .fieldAddr s x f)
    (hu : cx.P.underlying s = some (.struct fs)) (hf : fs[f]? = some fd) (hs : (sizeT cx.P fd.type).getD 0 ≠ 0) (hx : Rep1 E (.ptr n p) (a.eval x)) (hn : (hp n).isSome = true) :
    Good cx.P o w0 N env hp (.ptr n (p ++ [.fld f fd.offset])) [] a w := by
  rw [Rep1.ptr] at hx
  obtain ⟨m, hm⟩ : ∃ m, sizeT cx.P fd.type = some m := by
    cases hq : sizeT cx.P fd.type with
    | none => simp [hq] at hs
    | some m => exact ⟨m, rfl⟩
  have hm0 : m ≠ 0 := by simpa [hm] using hs
  refine Good.value (E' := E) (x := .pointer (some ⟨E.ρ n, offs (p ++ [.fld f fd.offset]), none⟩)) (w' := w) ?_ h (Rep1.ptr.2 rfl) (by simpa [AV.named, updH_nil] using hn)
  simp [execOp, hop, Instr.fieldAt, run_underlying hu, hf, hx, Instr.sureAddr, fieldPlace, run_sizeT hm, hm0, addr_add, offs_append, offs]

theorem good_fieldAddr_pim (h : Rel w0 E N env hp a w) {s : TypeId} {x : Operand} {f : Nat} {fr : Bool} {v u : AV} {fs : Array Field} {fd : Field} (hop : o.op = .fieldAddr s x f)
    (hu : cx.P.underlying s = some (.struct fs)) (hf : fs[f]? = some fd) (hs : (sizeT cx.P fd.type).getD 0 ≠ 0) (hx : Rep1 E (.pim fr v) (a.eval x)) (hn : v.named (fun n => (hp n).isSome) = true)
    (hg : get v [.fld f fd.offset] = some u) : Good cx.P o w0 N env hp (.pim fr u) [] a w := by
  obtain ⟨b, off, e, hr⟩ := pim_part hx hg
  obtain ⟨m, hm⟩ : ∃ m, sizeT cx.P fd.type = some m := by
    cases hq : sizeT cx.P fd.type with
    | none => simp [hq] at hs
    | some m => exact ⟨m, rfl⟩
  have hm0 : m ≠ 0 := by simpa [hm] using hs
  refine Good.value (E' := E) (x := .pointer (some ⟨b, off + offs [.fld f fd.offset], none⟩)) (w' := w) ?_ h hr (by simp only [AV.named]; exact get_named _ hg hn)
  simp [execOp, hop, Instr.fieldAt, run_underlying hu, hf, e, Instr.sureAddr, fieldPlace, run_sizeT hm, hm0, addr_add, offs]

theorem good_field (h : Rel w0 E N env hp a w) {t : TypeId} {x : Operand} {f : Nat} {v u : AV} {fs : Array Field} {fd : Field} (hop : o.op = .field t x f)
    (hu : cx.P.underlying t = some (.struct fs)) (hf : fs[f]? = some fd) (hx : Rep1 E v (a.eval x)) (hn : v.named (fun n => (hp n).isSome) = true)
    (hg : get v [.fld f fd.offset] = some u) (hft : fitsT cx.P fd.type u = true) : Good cx.P o w0 N env hp u [] a w := by
  have hag : v.isAgg = true := by
    have hg2 := hg
    simp only [get, getK] at hg2
    rw [← v.open_agg]
    generalize v.open = v at hg2
    cases v <;> first | rfl | cases hg2
  obtain ⟨xs, e⟩ := hx.2.1 hag
  have hc := hx.1
  rw [e] at hc
  simp only [Value.cells] at hc
  obtain ⟨pre, ys, post, e', hl, hr⟩ := get_sound _ hg hc
  obtain ⟨y, hy, hr'⟩ := run_partT (w := w) (P := cx.P) (t := fd.type) (off := fd.offset) (fitsT_spec hft).1 (fitsT_spec hft).2.1 e' (by rw [hl]; simp [offs]) hr
  refine Good.value (E' := E) (x := y) (w' := w) ?_ h ((Rep.one (fitsT_spec hft).2.2).2 hr') (get_named _ hg hn)
  simp [execOp, hop, Instr.field, run_underlying hu, hf, e, asAgg, hy]

theorem good_index (h : Rel w0 E N env hp a w) {t e : TypeId} {x i : Operand} {n sz : Nat} {k : IntKind} {j : Int} {v u : AV} (hop : o.op = .index t x i)
    (hu : cx.P.underlying t = some (.array n e)) (hi : a.eval i = .int k j) (h0 : 0 ≤ j) (hjn : j.toNat < n) (hs : sizeT cx.P e = some sz) (hx : Rep1 E v (a.eval x)) (hn : v.named (fun n => (hp n).isSome) = true)
    (hg : get v [.idx j.toNat sz] = some u) (hft : fitsT cx.P e u = true) : Good cx.P o w0 N env hp u [] a w := by
  have hag : v.isAgg = true := by
    have hg2 := hg
    simp only [get, getK] at hg2
    rw [← v.open_agg]
    generalize v.open = v at hg2
    cases v <;> first | rfl | cases hg2
  obtain ⟨xs, ex⟩ := hx.2.1 hag
  have hc := hx.1
  rw [ex] at hc
  simp only [Value.cells] at hc
  obtain ⟨pre, ys, post, e', hl, hr⟩ := get_sound _ hg hc
  obtain ⟨y, hy, hr'⟩ := run_partT (w := w) (P := cx.P) (t := e) (off := j.toNat * sz) (fitsT_spec hft).1 (fitsT_spec hft).2.1 e' (by rw [hl]; simp [offs]) hr
  refine Good.value (E' := E) (x := y) (w' := w) ?_ h ((Rep.one (fitsT_spec hft).2.2).2 hr') (get_named _ hg hn)
  have hlt : j < (n : Int) := by omega
  simp [execOp, hop, Instr.index, asIntOf, run_underlying hu, hi, ex, h0, hlt, run_sizeT hs, hy]

theorem good_indexAddr (h : Rel w0 E N env hp a w) {t e : TypeId} {x i : Operand} {n sz m : Nat} {k : IntKind} {j : Int} {p : List Step} (hop : o.op = .indexAddr t x i)
    (hu : cx.P.underlying t = some (.array n e)) (hi : a.eval i = .int k j) (h0 : 0 ≤ j) (hjn : j.toNat < n) (hs : sizeT cx.P e = some sz) (hx : Rep1 E (.ptr m p) (a.eval x)) (hn : (hp m).isSome = true) :
    Good cx.P o w0 N env hp (.ptr m (p ++ [.idx j.toNat sz])) [] a w := by
  rw [Rep1.ptr] at hx
  refine Good.value (E' := E) (x := .pointer (some ⟨E.ρ m, offs (p ++ [.idx j.toNat sz]), none⟩)) (w' := w) ?_ h (Rep1.ptr.2 rfl) (by simpa [AV.named, updH_nil] using hn)
  have hlt : j < (n : Int) := by omega
  simp [execOp, hop, Instr.indexAt, asIntOf, run_underlying hu, hi, hx, Instr.sureAddr, h0, hlt, run_sizeT hs, addr_add, offs_append, offs]

theorem good_indexAddr_pim (h : Rel w0 E N env hp a w) {t e : TypeId} {x i : Operand} {n sz : Nat} {k : IntKind} {j : Int} {fr : Bool} {v u : AV} (hop : o.op = .indexAddr t x i)
    (hu : cx.P.underlying t = some (.array n e)) (hi : a.eval i = .int k j) (h0 : 0 ≤ j) (hjn : j.toNat < n) (hs : sizeT cx.P e = some sz) (hx : Rep1 E (.pim fr v) (a.eval x)) (hn : v.named (fun n => (hp n).isSome) = true)
    (hg : get v [.idx j.toNat sz] = some u) : Good cx.P o w0 N env hp (.pim fr u) [] a w := by
  obtain ⟨b, off, ex, hr⟩ := pim_part hx hg
  refine Good.value (E' := E) (x := .pointer (some ⟨b, off + offs [.idx j.toNat sz], none⟩)) (w' := w) ?_ h hr (by simp only [AV.named]; exact get_named _ hg hn)
  have hlt : j < (n : Int) := by omega
  simp [execOp, hop, Instr.indexAt, asIntOf, run_underlying hu, hi, ex, Instr.sureAddr, h0, hlt, run_sizeT hs, addr_add, offs]

theorem good_indexAddr_sl (h : Rel w0 E N env hp a w) {t e : TypeId} {x i : Operand} {sz m i0 len cap : Nat} {s : Sh} {k : IntKind} {j : Int} {p : List Step} (hop : o.op = .indexAddr t x i)
    (hu : cx.P.underlying t = some (.slice e)) (hi : a.eval i = .int k j) (h0 : 0 ≤ j) (hjn : j.toNat < len) (hs : sizeT cx.P e = some sz) (hsz : sz = s.size) (hx : Rep1 E (.sl m p s i0 len cap) (a.eval x)) (hn : (hp m).isSome = true) :
    Good cx.P o w0 N env hp (.ptr m (p ++ [.idx (i0 + j.toNat) sz])) [] a w := by
  have := hx.cells1 rfl
  simp only [RepC] at this
  obtain ⟨hle, off, ex, ho⟩ := this
  simp at ex
  have ho' := ho (by omega)
  refine Good.value (E' := E) (x := .pointer (some ⟨E.ρ m, offs (p ++ [.idx (i0 + j.toNat) sz]), none⟩)) (w' := w) ?_ h (Rep1.ptr.2 rfl) (by simpa [AV.named, updH_nil] using hn)
  have hlt : j < (len : Int) := by omega
  simp [execOp, hop, Instr.indexAt, asIntOf, run_underlying hu, hi, ex, h0, hlt, run_sizeT hs, addr_add, offs_append, offs, ho', hsz, Nat.add_mul, Nat.add_assoc]

theorem Sh.size_pos (s : Sh) : 0 < s.size := by
  cases s with
  | d i => cases i <;> simp [Sh.size, DSh.size]
  | _ => simp [Sh.size]

theorem good_indexAddr_isl (h : Rel w0 E N env hp a w) {t e : TypeId} {x i : Operand} {sz : Nat} {fr : Bool} {s : Sh} {l : List s.T} {k : IntKind} {j : Int} (hop : o.op = .indexAddr t x i)
    (hu : cx.P.underlying t = some (.slice e)) (hi : a.eval i = .int k j) (h0 : 0 ≤ j) (hjn : j.toNat < l.length) (hs : sizeT cx.P e = some sz) (hsz : sz = s.size) (hx : Rep1 E (.isl fr s l) (a.eval x)) :
    Good cx.P o w0 N env hp (.pim fr (s.av (l.getD j.toNat s.dflt))) [] a w := by
  have := hx.cells1 rfl
  simp only [RepC] at this
  obtain ⟨y, ys, ex, hr, ad, len, cap, ey, hlen, hcap, hl⟩ := this
  simp at ex
  obtain ⟨pre, zs, post, e', hp', hz, _⟩ := RcL.split j.toNat hr hjn
  have hne : ys ≠ [] := by
    intro h'
    have h1 := hr.length
    rw [h'] at h1
    have := Sh.size_pos s
    have : 0 < l.length * s.size := Nat.mul_pos (by omega) this
    simp at h1; omega
  cases ad with
  | none => have hl : cap = 0 := hl; omega
  | some ad =>
    have hl : ys = [] ∨ Lies E fr ad ys := hl
    rcases hl with hl | hl
    · exact absurd hl hne
    · obtain ⟨b, off, spot⟩ := ad
      have hsp : spot = none := hl.1
      subst hsp
      have hlt : j < (len : Int) := by omega
      refine Good.value (E' := E) (x := .pointer (some ⟨b, off + pre.length, none⟩)) (w' := w) ?_ h (Rep1.of_cells1 rfl ?_) (by simp only [AV.named]; exact Sh.av_named _ _)
      · simp [execOp, hop, Instr.indexAt, asIntOf, run_underlying hu, hi, ex, ey, h0, hlt, run_sizeT hs, addr_add, hp', hsz]
      · simp only [RepC]
        exact ⟨_, zs, rfl, hl.part e', Rc_av hz⟩

theorem Rep1s.get {E : Emb} : ∀ {l : List AV} {vs : List Value} {i : Nat} {v : AV}, Rep1s E l vs → l[i]? = some v → ∃ x, vs[i]? = some x ∧ v.plain = true ∧ Rep1 E v x
  | [], _, _, _, _, h => by simp at h
  | u :: l, _, 0, v, ⟨x, ys, e, h1, h2, _⟩, h => by simp at h; subst h; exact ⟨x, by simp [e], h1, h2⟩
  | u :: l, _, i + 1, v, ⟨x, ys, e, _, _, h3⟩, h => by
    obtain ⟨y, hy, hp, hr⟩ := Rep1s.get h3 (by simpa using h)
    exact ⟨y, by simp [e, hy], hp, hr⟩

theorem good_extract (h : Rel w0 E N env hp a w) {x : Operand} {i : Nat} {l : List AV} {v : AV} (hop : o.op = .extract x i) (hx : Rep E (.tup l) (a.eval x)) (hn : AV.nameds (fun n => (hp n).isSome) l = true)
    (hi : l[i]? = some v) : Good cx.P o w0 N env hp v [] a w := by
  obtain ⟨vs, e, hr⟩ := hx
  obtain ⟨y, hy, hp', hr'⟩ := hr.get hi
  refine Good.value (E' := E) (x := y) (w' := w) ?_ h ((Rep.one hp').2 hr') (AV.nameds_get hn hi)
  simp [execOp, hop, Instr.extract, e, hy]

theorem Sh.size_pos' (s : Sh) : 0 < s.size := Sh.size_pos s

/-- What an own slice is, where it is not empty. -/
theorem own_inv (h : Rel w0 E N env hp a w) {m : Nat} {s s' : Sh} {l : List s'.T} {x : Value} (hc : hp m = some (.row s' l)) (hx : Rep1 E (.own m s) x) :
    (l = [] ∧ E.cnt m = none ∧ x = .slice none 0 0) ∨ ∃ o cap, x = .slice (some ⟨E.ρ m, o, none⟩) l.length cap ∧ l.length ≤ cap ∧ (0 < cap → o = 0) ∧ E.cnt m = some (cap * s.size) := by
  have := hx.cells1 rfl
  simp only [RepC] at this
  obtain ⟨y, e, hy⟩ := this
  simp at e; subst e
  have hlen := (h.rheap m _ hc rfl).1 l.length rfl
  rcases hy with ⟨h1, h2, h3⟩ | ⟨o, cap, h1, h2, h3, h4⟩
  · exact .inl ⟨List.length_eq_zero_iff.1 (by omega), h1, h3⟩
  · exact .inr ⟨o, cap, by rw [h1, hlen], by omega, h3, h4⟩

theorem good_indexAddr_own (h : Rel w0 E N env hp a w) {t e : TypeId} {x i : Operand} {sz m : Nat} {s s' : Sh} {l : List s'.T} {k : IntKind} {j : Int} (hop : o.op = .indexAddr t x i)
    (hu : cx.P.underlying t = some (.slice e)) (hi : a.eval i = .int k j) (h0 : 0 ≤ j) (hc : hp m = some (.row s' l)) (hjn : j.toNat < l.length) (hs : sizeT cx.P e = some sz) (hx : Rep1 E (.own m s) (a.eval x)) :
    Good cx.P o w0 N env hp (.ptr m [.idx j.toNat sz]) [] a w := by
  rcases own_inv h hc hx with ⟨h1, _⟩ | ⟨off, cap, ex, h2, h3, h4⟩
  · subst h1; simp at hjn
  · have ho := h3 (by omega)
    subst ho
    refine Good.value (E' := E) (x := .pointer (some ⟨E.ρ m, offs [.idx j.toNat sz], none⟩)) (w' := w) ?_ h (Rep1.ptr.2 rfl) (by simp [AV.named, updH_nil, hc])
    have hlt : j < (l.length : Int) := by omega
    simp [execOp, hop, Instr.indexAt, asIntOf, run_underlying hu, hi, ex, h0, hlt, run_sizeT hs, addr_add, offs]

theorem osl_inv {m i0 len : Nat} {s : Sh} {x : Value} (hx : Rep1 E (.osl m s i0 len) x) :
    (E.cnt m = none ∧ len = 0 ∧ x = .slice none 0 0) ∨ ∃ o cap, x = .slice (some ⟨E.ρ m, o, none⟩) len cap ∧ len ≤ cap ∧ (0 < cap → o = i0 * s.size) ∧ E.cnt m = some ((i0 + cap) * s.size) := by
  have := hx.cells1 rfl
  simp only [RepC] at this
  obtain ⟨y, e, hy⟩ := this
  simp at e; subst e
  exact hy

theorem good_indexAddr_osl (h : Rel w0 E N env hp a w) {t e : TypeId} {x i : Operand} {sz m i0 len : Nat} {s : Sh} {k : IntKind} {j : Int} (hop : o.op = .indexAddr t x i)
    (hu : cx.P.underlying t = some (.slice e)) (hi : a.eval i = .int k j) (h0 : 0 ≤ j) (hjn : j.toNat < len) (hs : sizeT cx.P e = some sz) (hsz : sz = s.size) (hx : Rep1 E (.osl m s i0 len) (a.eval x)) (hn : (hp m).isSome = true) :
    Good cx.P o w0 N env hp (.ptr m [.idx (i0 + j.toNat) sz]) [] a w := by
  rcases osl_inv hx with ⟨_, h1, _⟩ | ⟨off, cap, ex, h2, h3, h4⟩
  · omega
  · have ho := h3 (by omega)
    refine Good.value (E' := E) (x := .pointer (some ⟨E.ρ m, offs [.idx (i0 + j.toNat) sz], none⟩)) (w' := w) ?_ h (Rep1.ptr.2 rfl) (by simpa [AV.named, updH_nil] using hn)
    have hlt : j < (len : Int) := by omega
    simp [execOp, hop, Instr.indexAt, asIntOf, run_underlying hu, hi, ex, h0, hlt, run_sizeT hs, addr_add, offs, ho, hsz, Nat.add_mul]

theorem good_index_str (h : Rel w0 E N env hp a w) {t : TypeId} {x i : Operand} {l : List UInt8} {k : IntKind} {j : Int} (hop : o.op = .index t x i)
    (hu : cx.P.underlying t = some .string) (hi : a.eval i = .int k j) (h0 : 0 ≤ j) (hjn : j.toNat < l.length) (hx : Rep1 E (.str l) (a.eval x)) :
    Good cx.P o w0 N env hp (.int .u8 ((l.getD j.toNat 0).toNat : Nat)) [] a w := by
  have := hx.cells1 rfl
  simp only [RepC] at this
  simp at this
  refine Good.value (E' := E) (x := .int .u8 ((l.getD j.toNat 0).toNat : Nat)) (w' := w) ?_ h (Rep1.int.2 rfl) (by simp [AV.named])
  have hlt : j < (l.length : Int) := by omega
  have hsz : (⟨l.toArray⟩ : ByteArray).size = l.length := by simp [ByteArray.size]
  have hget : (⟨l.toArray⟩ : ByteArray).get! j.toNat = l.getD j.toNat 0 := by
    simp [ByteArray.get!, List.getD_eq_getElem?_getD, hjn]
  simp [execOp, hop, Instr.index, asIntOf, run_underlying hu, hi, this, h0, hsz, hlt]
  first
  | rfl
  | (simp [ByteArray.getElem_eq_getElem_data])

/-! ### Slices -/

theorem bound_spec {cx : Cx} {env : Nat → Option AV} {x : Option Operand} {d m r : Nat} (hb : boundK cx env x d m some = some r) :
    (x = none ∧ r = d) ∨ (∃ op k n, x = some op ∧ ev cx env 0 op = .int k n ∧ 0 ≤ n ∧ r = n.toNat ∧ r ≤ m) := by
  unfold boundK at hb
  split at hb
  · simp at hb; exact .inl ⟨rfl, hb.symm⟩
  · rename_i op
    unfold asNat at hb
    split at hb
    · rename_i k n hev
      cases h1 : decide (0 ≤ n)
      · rw [h1] at hb; cases hb
      · rw [h1] at hb
        simp only [cond_true] at hb
        cases h2 : Nat.ble n.toNat m
        · rw [h2] at hb; cases hb
        · rw [h2] at hb
          simp at hb h1
          exact .inr ⟨op, k, n, rfl, hev, h1, hb.symm, by rw [← hb]; exact Nat.le_of_ble_eq_true h2⟩
    · cases hb

theorem run_bound {P : Program} {w : World} {x : Value} {k : IntKind} {n : Int} {m : Nat} {code : BoundsCode} (hx : x = .int k n) (h0 : 0 ≤ n) (hm : n.toNat ≤ m) :
    (Instr.sliceBound x m code).run P w = .ok n.toNat w := by
  subst hx
  have : n ≤ (m : Int) := by omega
  simp [Instr.sliceBound, asIntOf, h0, this]

theorem run_sliceBounds {P : Program} {w : World} {isl : Bool} {len cap l hh : Nat} {lo hi : Option Operand} {cx : Cx} {env hp : Nat → Option AV} {a : Act} {E : Emb} {G : Ini → Prop} {w0 : Ini} {N : Nat}
    (hc : CxOk cx G) (hG : G w0) (hrel : Rel w0 E N env hp a w)
    (h1 : boundK cx env hi len cap some = some hh) (h2 : boundK cx env lo 0 hh some = some l) :
    (Instr.sliceBounds isl len cap (lo.map a.eval) (hi.map a.eval) none).run P w = .ok (l, hh, cap) w ∧ (hi = none → hh = len) ∧ (hi ≠ none → hh ≤ cap) ∧ l ≤ hh := by
  have hv : ∀ op k n, ev cx env 0 op = .int k n → a.eval op = .int k n := fun op k n he => by
    have := (ev_sound hc hG hrel 0 op).1
    rw [he] at this
    exact Rep1.int.1 this
  rcases bound_spec h1 with ⟨rfl, rfl⟩ | ⟨op, k, n, rfl, he, h0, rfl, hm⟩
  · rcases bound_spec h2 with ⟨rfl, rfl⟩ | ⟨op', k', n', rfl, he', h0', rfl, hm'⟩
    · exact ⟨by simp [Instr.sliceBounds], fun _ => rfl, by simp, Nat.zero_le _⟩
    · refine ⟨?_, fun _ => rfl, by simp, hm'⟩
      simp [Instr.sliceBounds, run_bound (hv _ _ _ he') h0' hm']
  · rcases bound_spec h2 with ⟨rfl, rfl⟩ | ⟨op', k', n', rfl, he', h0', rfl, hm'⟩
    · refine ⟨?_, by simp, fun _ => hm, Nat.zero_le _⟩
      simp [Instr.sliceBounds, run_bound (hv _ _ _ he) h0 hm]
    · refine ⟨?_, by simp, fun _ => hm, hm'⟩
      simp [Instr.sliceBounds, run_bound (hv _ _ _ he) h0 hm, run_bound (hv _ _ _ he') h0' hm']

theorem good_slice_arr (hc : CxOk cx G) (hG : G w0) (h : Rel w0 E N env hp a w) {t e : TypeId} {x : Operand} {lo hi : Option Operand} {n m l hh : Nat} {s : Sh} {p : List Step} (hop : o.op = .slice t x lo hi none)
    (hu : cx.P.underlying t = some (.array n e)) (hs : sizeT cx.P e = some s.size) (hx : Rep1 E (.ptr m p) (a.eval x)) (hn : (hp m).isSome = true)
    (h1 : boundK cx env hi n n some = some hh) (h2 : boundK cx env lo 0 hh some = some l) :
    Good cx.P o w0 N env hp (.sl m p s l (hh - l) (n - l)) [] a w := by
  rw [Rep1.ptr] at hx
  obtain ⟨hr, h3, h4, h5⟩ := run_sliceBounds (P := cx.P) (isl := false) hc hG h h1 h2
  have hhn : hh ≤ n := by
    by_cases e : hi = none
    · rw [h3 e]; exact Nat.le_refl _
    · exact h4 e
  refine Good.value (E' := E) (x := .slice (some (if n = l then ⟨E.ρ m, offs p, none⟩ else (⟨E.ρ m, offs p, none⟩ : Addr).add (l * s.size))) (hh - l) (n - l)) (w' := w) ?_ h (Rep1.of_cells1 rfl ?_) (by simpa [AV.named, updH_nil] using hn)
  · simp [execOp, hop, Instr.sliceAt, run_underlying hu, hx, Instr.sureAddr, hr, run_sizeT hs]
  · simp only [RepC]
    refine ⟨by omega, if n = l then offs p else offs p + l * s.size, ?_, fun hpos => ?_⟩
    · split <;> simp [addr_add]
    · rw [if_neg (by omega)]

theorem good_slice_sl (hc : CxOk cx G) (hG : G w0) (h : Rel w0 E N env hp a w) {t e : TypeId} {x : Operand} {lo hi : Option Operand} {m i len cap l hh : Nat} {s : Sh} {p : List Step} (hop : o.op = .slice t x lo hi none)
    (hu : cx.P.underlying t = some (.slice e)) (hs : sizeT cx.P e = some s.size) (hx : Rep1 E (.sl m p s i len cap) (a.eval x)) (hn : (hp m).isSome = true)
    (h1 : boundK cx env hi len cap some = some hh) (h2 : boundK cx env lo 0 hh some = some l) :
    Good cx.P o w0 N env hp (.sl m p s (i + l) (hh - l) (cap - l)) [] a w := by
  have := hx.cells1 rfl
  simp only [RepC] at this
  obtain ⟨hle, off, ex, ho⟩ := this
  simp at ex
  obtain ⟨hr, h3, h4, h5⟩ := run_sliceBounds (P := cx.P) (isl := true) hc hG h h1 h2
  have hhc : hh ≤ cap := by
    by_cases e : hi = none
    · rw [h3 e]; exact hle
    · exact h4 e
  refine Good.value (E' := E) (x := .slice (if cap = l then some ⟨E.ρ m, off, none⟩ else some ((⟨E.ρ m, off, none⟩ : Addr).add (l * s.size))) (hh - l) (cap - l)) (w' := w) ?_ h (Rep1.of_cells1 rfl ?_) (by simpa [AV.named, updH_nil] using hn)
  · simp [execOp, hop, Instr.sliceAt, Instr.slice, run_underlying hu, ex, hr, run_sizeT hs]
  · simp only [RepC]
    refine ⟨by omega, if cap = l then off else off + l * s.size, ?_, fun hpos => ?_⟩
    · split <;> simp [addr_add]
    · rw [if_neg (by omega), ho (by omega), Nat.add_mul, Nat.add_assoc]

theorem good_slice_isl (hc : CxOk cx G) (hG : G w0) (h : Rel w0 E N env hp a w) {t e : TypeId} {x : Operand} {lo hi : Option Operand} {l hh : Nat} {fr : Bool} {s : Sh} {l0 : List s.T} (hop : o.op = .slice t x lo hi none)
    (hu : cx.P.underlying t = some (.slice e)) (hs : sizeT cx.P e = some s.size) (hx : Rep1 E (.isl fr s l0) (a.eval x))
    (h1 : boundK cx env hi l0.length l0.length some = some hh) (h2 : boundK cx env lo 0 hh some = some l) :
    Good cx.P o w0 N env hp (.isl fr s ((l0.drop l).take (hh - l))) [] a w := by
  have := hx.cells1 rfl
  simp only [RepC] at this
  obtain ⟨y, ys, ex, hr, ad, len, cap, ey, hlen, hcap, hl⟩ := this
  simp at ex
  have hhl : hh ≤ l0.length := by
    rcases bound_spec h1 with ⟨_, e⟩ | ⟨_, _, _, _, _, _, _, e⟩ <;> omega
  have h1' : boundK cx env hi len cap some = some hh := by
    unfold boundK at h1 ⊢
    split at h1
    · simp at h1 ⊢; omega
    · unfold asNat at h1 ⊢
      split at h1
      · rename_i k n hev
        cases hq : decide (0 ≤ n)
        · rw [hq] at h1; cases h1
        · rw [hq] at h1
          simp only [cond_true] at h1 ⊢
          cases hb : Nat.ble n.toNat l0.length
          · rw [hb] at h1; cases h1
          · rw [hb] at h1
            simp at h1
            have := Nat.le_of_ble_eq_true hb
            have : Nat.ble n.toNat cap = true := Nat.ble_eq_true_of_le (by omega)
            rw [h1] at this
            simp [this, h1]
      · cases h1
  obtain ⟨hrun, h3, h4, h5⟩ := run_sliceBounds (P := cx.P) (isl := true) hc hG h h1' h2
  have hhc : hh ≤ cap := by omega
  refine Good.value (E' := E) (x := .slice (if cap = l then ad else ad.map (·.add (l * s.size))) (hh - l) (cap - l)) (w' := w) ?_ h (Rep1.of_cells1 rfl ?_) (by simp [AV.named])
  · simp [execOp, hop, Instr.sliceAt, Instr.slice, run_underlying hu, ex, ey, hrun, run_sizeT hs]
  · simp only [RepC]
    have ht := (RcL.take_drop (hh - l) (RcL.take_drop l hr).2).1
    refine ⟨_, _, rfl, ht, _, _, _, rfl, by simp; omega, by omega, ?_⟩
    cases ad with
    | none =>
      have hl : cap = 0 := hl
      by_cases hcl : cap = l
      · rw [if_pos hcl]; show cap - l = 0; omega
      · rw [if_neg hcl]; show cap - l = 0; omega
    | some ad =>
      have hl : ys = [] ∨ Lies E fr ad ys := hl
      by_cases hcl : cap = l
      · rw [if_pos hcl]
        left
        have : hh - l = 0 := by omega
        simp [this]
      · rw [if_neg hcl]
        simp only [Option.map_some]
        rcases hl with hl | hl
        · left; simp [hl]
        · right
          obtain ⟨b, off, spot⟩ := ad
          have hsp : spot = none := hl.1
          subst hsp
          rw [addr_add]
          have hlen' : (ys.take (l * s.size)).length = l * s.size := by
            rw [List.length_take, hr.length]; exact Nat.min_eq_left (Nat.mul_le_mul_right _ (show l ≤ l0.length by omega))
          have := hl.part (pre := ys.take (l * s.size)) (ys := (ys.drop (l * s.size)).take ((hh - l) * s.size)) (post := (ys.drop (l * s.size)).drop ((hh - l) * s.size)) (by rw [List.append_assoc, List.take_append_drop, List.take_append_drop])
          rw [hlen'] at this
          exact this

theorem bound_more {cx : Cx} {env : Nat → Option AV} {x : Option Operand} {d d' m m' r : Nat} (hb : boundK cx env x d m some = some r) (hd : x = none → d = d') (hm : m ≤ m') : boundK cx env x d' m' some = some r := by
  unfold boundK at hb ⊢
  split at hb
  · simp at hb ⊢; rw [← hd rfl]; exact hb
  · unfold asNat at hb ⊢
    split at hb
    · rename_i k n hev
      cases hq : decide (0 ≤ n)
      · rw [hq] at hb; cases hb
      · rw [hq] at hb
        simp only [cond_true] at hb ⊢
        cases hbb : Nat.ble n.toNat m
        · rw [hbb] at hb; cases hb
        · rw [hbb] at hb
          simp at hb
          have := Nat.le_of_ble_eq_true hbb
          have : Nat.ble n.toNat m' = true := Nat.ble_eq_true_of_le (by omega)
          rw [hb] at this
          simp [this, hb]
    · cases hb

/-- How many elements of a block there is room for. -/
theorem row_room (h : Rel w0 E N env hp a w) {m k : Nat} {s' : Sh} {l : List s'.T} (hc : hp m = some (.row s' l)) (hk : E.cnt m = some k) : l.length * s'.size ≤ k := by
  obtain ⟨_, ⟨h1, _⟩ | ⟨xs, T, h1, _, h3, _⟩⟩ := h.rheap m _ hc rfl
  · rw [h1] at hk; cases hk
  · rw [h1] at hk
    simp at hk
    obtain ⟨ys, zs, e, hr, _⟩ := h3
    have := hr.length
    have hx : xs.size = (ys ++ zs).length := by rw [← e]; simp
    rw [List.length_append] at hx
    omega

theorem shEq_eq' {a b : Sh} (h : shEq a b = true) : a = b := by
  cases a with
  | d i => cases b with
    | d j => cases i <;> cases j <;> simp [shEq, DSh.beq] at h <;> rfl
    | _ => simp [shEq] at h
  | _ => cases b <;> simp [shEq] at h <;> first | rfl | rw [h]

theorem good_slice_whole (h : Rel w0 E N env hp a w) {t e : TypeId} {x : Operand} {m : Nat} {s : Sh} (hop : o.op = .slice t x none none none)
    (hu : cx.P.underlying t = some (.slice e)) (hs : sizeT cx.P e = some s.size) (hx : Rep1 E (.own m s) (a.eval x)) (hn : (hp m).isSome = true) :
    Good cx.P o w0 N env hp (.own m s) [] a w := by
  have hx' := hx.cells1 rfl
  simp only [RepC] at hx'
  obtain ⟨y, e1, hy⟩ := hx'
  simp at e1
  have hsl : ∃ ad len cap, y = .slice ad len cap ∧ len ≤ cap := by
    rcases hy with ⟨_, _, rfl⟩ | ⟨o, cap, rfl, h2, _⟩
    · exact ⟨_, _, _, rfl, Nat.le_refl _⟩
    · exact ⟨_, _, _, rfl, h2⟩
  obtain ⟨ad, len, cap, rfl, hlc⟩ := hsl
  refine Good.value (E' := E) (x := .slice (if cap = 0 then ad else ad.map (·.add (0 * s.size))) (len - 0) (cap - 0)) (w' := w) ?_ h (Rep1.of_cells1 rfl ?_) (by simpa [AV.named, updH_nil] using hn)
  · simp [execOp, hop, Instr.sliceAt, Instr.slice, run_underlying hu, e1, Instr.sliceBounds, run_sizeT hs]
  · simp only [RepC]
    refine ⟨_, rfl, ?_⟩
    have : (if cap = 0 then ad else ad.map (·.add (0 * s.size))) = ad := by
      split
      · rfl
      · cases ad with
        | none => rfl
        | some ad => simp [Addr.add]
    rw [this]; simpa using hy

theorem good_slice_own (hc : CxOk cx G) (hG : G w0) (h : Rel w0 E N env hp a w) {t e : TypeId} {x : Operand} {lo hi : Option Operand} {m l hh : Nat} {s s' : Sh} {l0 : List s'.T} (hop : o.op = .slice t x lo hi none)
    (hu : cx.P.underlying t = some (.slice e)) (hs : sizeT cx.P e = some s.size) (hss : shEq s s' = true) (hx : Rep1 E (.own m s) (a.eval x)) (hm : hp m = some (.row s' l0))
    (h1 : boundK cx env hi l0.length l0.length some = some hh) (h2 : boundK cx env lo 0 hh some = some l) :
    Good cx.P o w0 N env hp (.osl m s l (hh - l)) [] a w := by
  have hhl : hh ≤ l0.length := by
    rcases bound_spec h1 with ⟨_, e⟩ | ⟨_, _, _, _, _, _, _, e⟩ <;> omega
  rcases own_inv h hm hx with ⟨e0, ecn, ex⟩ | ⟨off, cap, ex, hcap, ho, hcnt⟩
  · subst e0
    obtain ⟨hrun, h3, h4, h5⟩ := run_sliceBounds (P := cx.P) (isl := true) hc hG h (bound_more h1 (fun _ => rfl) (Nat.le_refl _)) h2
    simp at hhl
    subst hhl
    have hl0 : l = 0 := by omega
    subst hl0
    refine Good.value (E' := E) (x := .slice none 0 0) (w' := w) ?_ h (Rep1.of_cells1 rfl ?_) (by simp [AV.named, updH_nil, hm])
    · simp at hrun
      simp [execOp, hop, Instr.sliceAt, Instr.slice, run_underlying hu, ex, hrun, run_sizeT hs]
    · simp only [RepC]; refine ⟨_, rfl, .inl ?_⟩; simp [ecn]
  · obtain ⟨hrun, h3, h4, h5⟩ := run_sliceBounds (P := cx.P) (isl := true) hc hG h (bound_more h1 (fun _ => rfl) hcap) h2
    refine Good.value (E' := E) (x := .slice (if cap = l then some ⟨E.ρ m, off, none⟩ else some ((⟨E.ρ m, off, none⟩ : Addr).add (l * s.size))) (hh - l) (cap - l)) (w' := w) ?_ h (Rep1.of_cells1 rfl ?_) (by simp [AV.named, updH_nil, hm])
    · simp [execOp, hop, Instr.sliceAt, Instr.slice, run_underlying hu, ex, hrun, run_sizeT hs]
    · simp only [RepC]
      refine ⟨_, rfl, .inr ⟨if cap = l then off else off + l * s.size, cap - l, ?_, by omega, fun hpos => ?_, ?_⟩⟩
      · split <;> simp [addr_add]
      · rw [if_neg (by omega), ho (by omega)]; omega
      · rw [hcnt, show l + (cap - l) = cap by omega]

theorem good_slice_osl (hc : CxOk cx G) (hG : G w0) (h : Rel w0 E N env hp a w) {t e : TypeId} {x : Operand} {lo hi : Option Operand} {m i len l hh : Nat} {s s' : Sh} {l0 : List s'.T} (hop : o.op = .slice t x lo hi none)
    (hu : cx.P.underlying t = some (.slice e)) (hs : sizeT cx.P e = some s.size) (hss : shEq s s' = true) (hx : Rep1 E (.osl m s i len) (a.eval x)) (hm : hp m = some (.row s' l0))
    (h1 : boundK cx env hi len (l0.length - i) some = some hh) (h2 : boundK cx env lo 0 hh some = some l) :
    Good cx.P o w0 N env hp (.osl m s (i + l) (hh - l)) [] a w := by
  have hse := shEq_eq' hss
  subst hse
  rcases osl_inv hx with ⟨ecn, e0, ex⟩ | ⟨off, cap, ex, hcap, ho, hcnt⟩
  · subst e0
    have hnil : l0.length = 0 := by
      obtain ⟨_, ⟨_, s1, h2⟩ | ⟨xs, T, h2, _⟩⟩ := h.rheap m _ hm rfl
      · cases h2; rfl
      · rw [ecn] at h2; cases h2
    rw [hnil, Nat.zero_sub] at h1
    obtain ⟨hrun, _, _, h5⟩ := run_sliceBounds (P := cx.P) (isl := true) hc hG h h1 h2
    have hh0 : hh = 0 := by
      rcases bound_spec h1 with ⟨_, e⟩ | ⟨_, _, _, _, _, _, _, e⟩ <;> omega
    subst hh0
    have hl0 : l = 0 := by omega
    subst hl0
    refine Good.value (E' := E) (x := .slice none 0 0) (w' := w) ?_ h (Rep1.of_cells1 rfl ?_) (by simp [AV.named, updH_nil, hm])
    · simp [execOp, hop, Instr.sliceAt, Instr.slice, run_underlying hu, ex, hrun, run_sizeT hs]
    · simp only [RepC]; refine ⟨_, rfl, .inl ?_⟩; simp [ecn]
  · have hroom := row_room h hm hcnt
    have hmx : l0.length - i ≤ cap := by
      have := Sh.size_pos s
      have := Nat.le_of_mul_le_mul_right hroom this
      omega
    obtain ⟨hrun, h3, h4, h5⟩ := run_sliceBounds (P := cx.P) (isl := true) hc hG h (bound_more h1 (fun _ => rfl) hmx) h2
    have hhc : hh ≤ cap := by
      by_cases e : hi = none
      · rw [h3 e]; exact hcap
      · exact h4 e
    refine Good.value (E' := E) (x := .slice (if cap = l then some ⟨E.ρ m, off, none⟩ else some ((⟨E.ρ m, off, none⟩ : Addr).add (l * s.size))) (hh - l) (cap - l)) (w' := w) ?_ h (Rep1.of_cells1 rfl ?_) (by simp [AV.named, updH_nil, hm])
    · simp [execOp, hop, Instr.sliceAt, Instr.slice, run_underlying hu, ex, hrun, run_sizeT hs]
    · simp only [RepC]
      refine ⟨_, rfl, .inr ⟨if cap = l then off else off + l * s.size, cap - l, ?_, by omega, fun hpos => ?_, ?_⟩⟩
      · split <;> simp [addr_add]
      · rw [if_neg (by omega), ho (by omega), Nat.add_mul]
      · rw [hcnt, show i + l + (cap - l) = i + cap by omega]
theorem good_indexAddr_isw (h : Rel w0 E N env hp a w) {t e : TypeId} {x i : Operand} {sz n : Nat} {fr : Bool} {s : Sh} {l : List s.T} {k : IntKind} {j : Int} (hop : o.op = .indexAddr t x i)
    (hu : cx.P.underlying t = some (.slice e)) (hi : a.eval i = .int k j) (h0 : 0 ≤ j) (hjn : j.toNat < n) (hn : n ≤ l.length) (hs : sizeT cx.P e = some sz) (hsz : sz = s.size) (hx : Rep1 E (.isw fr s l n) (a.eval x)) :
    Good cx.P o w0 N env hp (.pim fr (s.av (l.getD j.toNat s.dflt))) [] a w := by
  have := hx.cells1 rfl
  simp only [RepC] at this
  obtain ⟨y, ys, ex, hr, ad, cap, ey, hlen, hcap, hl⟩ := this
  simp at ex
  obtain ⟨pre, zs, post, e', hp', hz, _⟩ := RcL.split j.toNat hr (by omega)
  have hne : ys ≠ [] := by
    intro h'
    have h1 := hr.length
    rw [h'] at h1
    have := Sh.size_pos s
    have : 0 < l.length * s.size := Nat.mul_pos (by omega) this
    simp at h1; omega
  cases ad with
  | none => have hl : cap = 0 := hl; omega
  | some ad =>
    have hl : ys = [] ∨ Lies E fr ad ys := hl
    rcases hl with hl | hl
    · exact absurd hl hne
    · obtain ⟨b, off, spot⟩ := ad
      have hsp : spot = none := hl.1
      subst hsp
      have hlt : j < (n : Int) := by omega
      refine Good.value (E' := E) (x := .pointer (some ⟨b, off + pre.length, none⟩)) (w' := w) ?_ h (Rep1.of_cells1 rfl ?_) (by simp only [AV.named]; exact Sh.av_named _ _)
      · simp [execOp, hop, Instr.indexAt, asIntOf, run_underlying hu, hi, ex, ey, h0, hlt, run_sizeT hs, addr_add, hp', hsz]
      · simp only [RepC]
        exact ⟨_, zs, rfl, hl.part e', Rc_av hz⟩

theorem good_slice_isw (hc : CxOk cx G) (hG : G w0) (h : Rel w0 E N env hp a w) {t e : TypeId} {x : Operand} {lo hi : Option Operand} {l hh n : Nat} {fr : Bool} {s : Sh} {l0 : List s.T} (hop : o.op = .slice t x lo hi none)
    (hu : cx.P.underlying t = some (.slice e)) (hs : sizeT cx.P e = some s.size) (hx : Rep1 E (.isw fr s l0 n) (a.eval x))
    (h1 : boundK cx env hi n l0.length some = some hh) (h2 : boundK cx env lo 0 hh some = some l) :
    Good cx.P o w0 N env hp (.isw fr s (l0.drop l) (hh - l)) [] a w := by
  have := hx.cells1 rfl
  simp only [RepC] at this
  obtain ⟨y, ys, ex, hr, ad, cap, ey, hlen, hcap, hl⟩ := this
  simp at ex
  have hhl : hh ≤ l0.length := by
    rcases bound_spec h1 with ⟨_, e⟩ | ⟨_, _, _, _, _, _, _, e⟩ <;> omega
  obtain ⟨hrun, h3, h4, h5⟩ := run_sliceBounds (P := cx.P) (isl := true) hc hG h (bound_more h1 (fun _ => rfl) hcap) h2
  have hhc : hh ≤ cap := by omega
  refine Good.value (E' := E) (x := .slice (if cap = l then ad else ad.map (·.add (l * s.size))) (hh - l) (cap - l)) (w' := w) ?_ h (Rep1.of_cells1 rfl ?_) (by simp [AV.named])
  · simp [execOp, hop, Instr.sliceAt, Instr.slice, run_underlying hu, ex, ey, hrun, run_sizeT hs]
  · simp only [RepC]
    refine ⟨_, _, rfl, (RcL.take_drop l hr).2, _, _, rfl, by simp; omega, by simp; omega, ?_⟩
    cases ad with
    | none =>
      have hl : cap = 0 := hl
      by_cases hcl : cap = l
      · rw [if_pos hcl]; show cap - l = 0; omega
      · rw [if_neg hcl]; show cap - l = 0; omega
    | some ad =>
      have hl : ys = [] ∨ Lies E fr ad ys := hl
      by_cases hcl : cap = l
      · rw [if_pos hcl]
        left
        have hyl := hr.length
        rw [List.drop_eq_nil_iff, hyl]
        exact Nat.mul_le_mul_right _ (by omega)
      · rw [if_neg hcl]
        simp only [Option.map_some]
        rcases hl with hl | hl
        · left; simp [hl]
        · right
          obtain ⟨b, off, spot⟩ := ad
          have hsp : spot = none := hl.1
          subst hsp
          rw [addr_add]
          have hlen' : (ys.take (l * s.size)).length = l * s.size := by
            rw [List.length_take, hr.length]; exact Nat.min_eq_left (Nat.mul_le_mul_right _ (show l ≤ l0.length by omega))
          have := hl.part (pre := ys.take (l * s.size)) (ys := ys.drop (l * s.size)) (post := []) (by rw [List.append_nil, List.take_append_drop])
          rw [hlen'] at this
          exact this

theorem bytes_extract (l0 : List UInt8) (l h : Nat) : (⟨l0.toArray⟩ : ByteArray).extract l h = ⟨((l0.drop l).take (h - l)).toArray⟩ := by
  apply ByteArray.ext
  simp

theorem good_slice_str (hc : CxOk cx G) (hG : G w0) (h : Rel w0 E N env hp a w) {t : TypeId} {x : Operand} {lo hi : Option Operand} {l hh : Nat} {l0 : List UInt8} (hop : o.op = .slice t x lo hi none)
    (hu : cx.P.underlying t = some .string) (hx : Rep1 E (.str l0) (a.eval x))
    (h1 : boundK cx env hi l0.length l0.length some = some hh) (h2 : boundK cx env lo 0 hh some = some l) :
    Good cx.P o w0 N env hp (.str ((l0.drop l).take (hh - l))) [] a w := by
  have ex := Rep1.str.1 hx
  obtain ⟨hrun, h3, h4, h5⟩ := run_sliceBounds (P := cx.P) (isl := false) hc hG h h1 h2
  have hsz : (⟨l0.toArray⟩ : ByteArray).size = l0.length := bytes_size l0
  refine Good.value (E' := E) (x := .string ⟨((l0.drop l).take (hh - l)).toArray⟩) (w' := w) ?_ h (Rep1.str.2 rfl) (by simp [AV.named])
  simp [execOp, hop, Instr.sliceAt, Instr.slice, run_underlying hu, ex, hsz, hrun, bytes_extract]
end
end Go.Sy
