/- What a callee sees of a value. -/
import Derived.Test.YtapnedegcnmhgaaDoorSyL
set_option linter.unusedVariables false
set_option linter.unusedSimpArgs false
namespace Go.Sy
open Go Go.RowKit
noncomputable section

def ImmLe (E E' : Emb) : Prop := (∀ f g j v, E.im f g j = some v → E'.im false g j = some v) ∧ ∀ g j v, E.im true g j = some v → E'.im true g j = some v

theorem Lies.imm {E E' : Emb} (h : ImmLe E E') {fr : Bool} {ad : Addr} {xs : List Value} (hl : Lies E fr ad xs) : Lies E' false ad xs :=
  ⟨hl.1, fun j v hv => h.1 _ _ _ _ (hl.2 j v hv)⟩

theorem SlOk.imm {E E' : Emb} (h : ImmLe E E') {fr : Bool} {n : Nat} {xs : List Value} {x : Value} (hl : SlOk E fr n xs x) : SlOk E' false n xs x := by
  obtain ⟨a, len, cap, h1, h2, h3, h4⟩ := hl
  refine ⟨a, len, cap, h1, h2, h3, ?_⟩
  cases a with
  | none => exact h4
  | some ad => exact h4.imp id (Lies.imm h)

theorem Rc.imm {E E' : Emb} (h : ImmLe E E') {s : Sh} {t : s.T} {xs : List Value} (hl : Rc E s t xs) : Rc E' s t xs := by
  cases s
  case bytes => obtain ⟨x, h1, h2⟩ := hl; exact ⟨x, h1, h2.imm h⟩
  case d i => exact RcD.monoI h.2 hl
  all_goals exact hl

theorem RcL.imm {E E' : Emb} (h : ImmLe E E') {s : Sh} : ∀ {l : List s.T} {xs : List Value}, RcL E s l xs → RcL E' s l xs
  | [], _, hl => hl
  | _ :: _, _, ⟨a, b, h1, h2, h3⟩ => ⟨a, b, h1, h2.imm h, RcL.imm h h3⟩

theorem Rc.flat {E E' : Emb} (hI : ∀ g j v, E.im true g j = some v → E'.im true g j = some v) {s : Sh} {t : s.T} {xs : List Value} (hs : s.flat = true) (hl : Rc E s t xs) : Rc E' s t xs := by
  cases s
  case bytes => simp [Sh.flat] at hs
  case d i => exact RcD.monoI hI hl
  all_goals exact hl

theorem RcL.flat {E E' : Emb} (hI : ∀ g j v, E.im true g j = some v → E'.im true g j = some v) {s : Sh} (hs : s.flat = true) : ∀ {l : List s.T} {xs : List Value}, RcL E s l xs → RcL E' s l xs
  | [], _, hl => hl
  | _ :: _, _, ⟨a, b, h1, h2, h3⟩ => ⟨a, b, h1, h2.flat hI hs, RcL.flat hI hs h3⟩

mutual
theorem flat_rep {E E' : Emb} (hI : ∀ g j v, E.im true g j = some v → E'.im true g j = some v) : ∀ {v : AV} {xs : List Value}, v.flat = true → RepC E v xs → RepC E' v xs
  | .int .., _, _, h => by simpa only [RepC] using h
  | .bool _, _, _, h => by simpa only [RepC] using h
  | .u256 _, _, _, h => by simpa only [RepC] using h
  | .arr s n l, _, hf, h => by simp only [RepC] at h ⊢; exact ⟨h.1, h.2.flat hI (by simpa [AV.flat] using hf)⟩
  | .st l, _, hf, h => by simp only [RepC] at h ⊢; exact flats_rep hI (by simpa [AV.flat] using hf) h
  | .undef, _, hf, _ => by simp [AV.flat] at hf
  | .tup _, _, hf, _ => by simp [AV.flat] at hf
  | .ptr .., _, hf, _ => by simp [AV.flat] at hf
  | .pim .., _, hf, _ => by simp [AV.flat] at hf
  | .sl .., _, hf, _ => by simp [AV.flat] at hf
  | .isl .., _, hf, _ => by simp [AV.flat] at hf
  | .nilp, _, hf, _ => by simp [AV.flat] at hf
  | .fn .., _, hf, _ => by simp [AV.flat] at hf
  | .own .., _, hf, _ => by simp [AV.flat] at hf
  | .osl .., _, hf, _ => by simp [AV.flat] at hf
  | .nsl _, _, hf, _ => by simp [AV.flat] at hf
  | .row .., _, hf, _ => by simp [AV.flat] at hf
  | .str _, _, _, h => by simpa only [RepC] using h
  | .nili, _, _, h => by simpa only [RepC] using h
  | .el i t, _, _, h => by simp only [RepC] at h ⊢; exact RcD.monoI hI h
  | .isw .., _, hf, _ => by simp [AV.flat] at hf
  | .pimq ok v, _, hf, h => by
    simp only [RepC] at h ⊢
    rcases h with h | ⟨h0, ad, ys, h1, h2, h3⟩
    · exact .inl h
    · exact .inr ⟨h0, ad, ys, h1, ⟨h2.1, fun j v hv => hI _ _ _ (h2.2 j v hv)⟩, flat_rep hI (by simpa [AV.flat] using hf) h3⟩
  | .ifc t v, _, hf, h => by
    simp only [RepC] at h ⊢
    obtain ⟨x, h1, h2, h3⟩ := h
    exact ⟨x, h1, flat_rep hI (by simpa [AV.flat] using hf) h2, h3⟩
theorem flats_rep {E E' : Emb} (hI : ∀ g j v, E.im true g j = some v → E'.im true g j = some v) : ∀ {l : List AV} {xs : List Value}, AV.flats l = true → RepCs E l xs → RepCs E' l xs
  | [], _, _, h => by simpa only [RepCs] using h
  | v :: l, _, hf, h => by
    simp only [AV.flats, Bool.and_eq_true] at hf
    simp only [RepCs] at h ⊢
    obtain ⟨a, b, h1, h2, h3⟩ := h
    exact ⟨a, b, h1, flat_rep hI hf.1 h2, flats_rep hI hf.2 h3⟩
end

theorem flat_plain {v : AV} (h : v.flat = true) : v.plain = true := by cases v <;> simp_all [AV.flat, AV.plain]

mutual
theorem flat_named {ok : Nat → Bool} : ∀ {v : AV}, v.flat = true → v.named ok = true
  | .int .., _ | .bool _, _ | .u256 _, _ | .arr .., _ | .str _, _ | .el .., _ | .nili, _ => by simp [AV.named]
  | .pimq _ v, h => by simp only [AV.named]; exact flat_named (by simpa [AV.flat] using h)
  | .ifc _ v, h => by simp only [AV.named]; exact flat_named (by simpa [AV.flat] using h)
  | .isw .., h => by simp [AV.flat] at h
  | .st l, h => by simp only [AV.named]; exact flats_named (by simpa [AV.flat] using h)
  | .undef, h | .tup _, h | .ptr .., h | .pim .., h | .sl .., h | .isl .., h | .nilp, h | .fn .., h | .own .., h | .osl .., h | .nsl _, h | .row .., h => by simp [AV.flat] at h
theorem flats_named {ok : Nat → Bool} : ∀ {l : List AV}, AV.flats l = true → AV.nameds ok l = true
  | [], _ => rfl
  | v :: l, h => by
    simp only [AV.flats, Bool.and_eq_true] at h
    simp only [AV.nameds, Bool.and_eq_true]
    exact ⟨flat_named h.1, flats_named h.2⟩
end

theorem Rep1.flat {E E' : Emb} (hI : ∀ g j v, E.im true g j = some v → E'.im true g j = some v) {v : AV} {x : Value} (hf : v.flat = true) (h : Rep1 E v x) : Rep1 E' v x := ⟨flat_rep hI hf h.1, h.2⟩


/-- The cell that lies there. -/
def cellOf (w : World) (g j : Nat) : Option Value :=
  match w.heap[g]? with
  | some (.cells c _ _) => c[j]?
  | _ => none

theorem cellOf_cells {w : World} {g : Nat} {c : Array Value} {T : TypeId} {fz : Nat × Nat} (h : w.heap[g]? = some (.cells c T fz)) (j : Nat) : cellOf w g j = c[j]? := by simp [cellOf, h]

theorem cellOf_of {w : World} {g j : Nat} {v : Value} (h : cellOf w g j = some v) : ∃ c T fz, w.heap[g]? = some (.cells c T fz) ∧ c[j]? = some v := by
  unfold cellOf at h
  split at h
  · rename_i c T fz hc; exact ⟨c, T, fz, hc, h⟩
  · cases h

theorem Mem.cell {b : Ini} {E : Emb} {hp : Nat → Option AV} {w : World} (h : Mem b E hp w) {f : Bool} {g j : Nat} {v : Value} (hv : E.im f g j = some v) : cellOf w g j = some v := by
  obtain ⟨c, T, fz, h1, h2⟩ := h.imm f g j v hv
  rw [cellOf_cells h1]; exact h2

/-- In F all cells stay, those of the blocks of hp too. -/
structure Opens (E : Emb) (hp : Nat → Option AV) (w : World) (F : Emb) : Prop where
  im : ImmLe E F
  own : ∀ n c, hp n = some c → c.live = true → (E.cnt n).isSome = true → ∀ j v, cellOf w (E.ρ n) j = some v → F.im false (E.ρ n) j = some v

section
variable {cx : Cx} {G : Ini → Prop} {w0 : Ini} {E : Emb} {N : Nat} {env hp : Nat → Option AV} {a : Act} {w : World} {o : Oper}

/-- What is known of a slice's value. -/
structure Shown (E : Emb) (hp : Nat → Option AV) (w : World) (s : Sh) (l : List s.T) (x : Value) : Prop where
  ex : ∃ ad len cap ys, x = .slice ad len cap ∧ len = l.length ∧ len ≤ cap ∧ (ad = none → cap = 0) ∧ RcL E s l ys ∧
    (ys = [] ∨ ∃ g off, ad = some ⟨g, off, none⟩ ∧ (∀ j v, ys[j]? = some v → cellOf w g (off + j) = some v) ∧ (∀ F, Opens E hp w F → ∀ j v, ys[j]? = some v → F.im false g (off + j) = some v))

theorem Shown.rep {s : Sh} {l : List s.T} {x : Value} (h : Shown E hp w s l x) {F : Emb} (hF : Opens E hp w F) : Rep1 F (.isl false s l) x := by
  obtain ⟨ad, len, cap, ys, rfl, h2, h3, h4, h5, h6⟩ := h.ex
  refine Rep1.of_cells1 rfl ?_
  simp only [RepC]
  refine ⟨_, ys, rfl, h5.imm hF.im, _, _, _, rfl, h2, h3, ?_⟩
  cases ad with
  | none => exact h4 rfl
  | some ad =>
    show ys = [] ∨ Lies F false ad ys
    rcases h6 with h6 | ⟨g, off, e, h7, h8⟩
    · exact .inl h6
    · cases e
      exact .inr ⟨rfl, h8 F hF⟩

theorem isl_shown (h : Mem w0 E hp w) {hp' : Nat → Option AV} {fr : Bool} {s : Sh} {l : List s.T} {x : Value} (hr : Rep1 E (.isl fr s l) x) : Shown E hp' w s l x := by
  have := hr.cells1 rfl
  simp only [RepC] at this
  obtain ⟨y, ys, e1, h2, ad, len, cap, e3, h4, h5, h6⟩ := this
  simp at e1; subst e1
  refine ⟨ad, len, cap, ys, e3, h4, h5, ?_, h2, ?_⟩
  · rintro rfl; exact h6
  · cases ad with
    | none =>
      left
      have h6 : cap = 0 := h6
      have hl : l.length = 0 := by omega
      have := h2.length
      rw [hl] at this
      simpa using this
    | some ad =>
      have h6 : ys = [] ∨ Lies E fr ad ys := h6
      rcases h6 with h6 | ⟨h7, h8⟩
      · exact .inl h6
      · obtain ⟨g, off, spot⟩ := ad
        simp only at h7; subst h7
        exact .inr ⟨g, off, rfl, fun j v hv => h.cell (h8 j v hv), fun F hF j v hv => hF.im.1 _ _ _ _ (h8 j v hv)⟩

/-- A part of a row. -/
theorem RcL.mid {s : Sh} {l : List s.T} {ys : List Value} (h : RcL E s l ys) (i len : Nat) : RcL E s ((l.drop i).take len) ((ys.drop (i * s.size)).take (len * s.size)) :=
  (RcL.take_drop len (RcL.take_drop i h).2).1

theorem mid_get {α : Type} {ys : List α} {i n j : Nat} {v : α} (h : ((ys.drop i).take n)[j]? = some v) : ys[i + j]? = some v := by
  simp only [List.getElem?_take, List.getElem?_drop] at h
  split at h
  · exact h
  · cases h

/-- The cells of a row's block. -/
theorem row_cells (h : Mem w0 E hp w) {m : Nat} {s : Sh} {l : List s.T} {k : Nat} (hm : hp m = some (.row s l)) (hk : E.cnt m = some k) :
    ∃ ys, RcL E s l ys ∧ ∀ j v, ys[j]? = some v → cellOf w (E.ρ m) j = some v := by
  obtain ⟨_, ⟨h1, _⟩ | ⟨xs, T, h1, h2, h3, _⟩⟩ := h.rheap m _ hm rfl
  · rw [h1] at hk; cases hk
  · obtain ⟨ys, zs, e, hr, _⟩ := h3
    refine ⟨ys, hr, fun j v hv => ?_⟩
    rw [cellOf_cells h2]
    have : xs[j]? = xs.toList[j]? := by simp
    rw [this, e, List.getElem?_append_left]
    · exact hv
    · rcases Nat.lt_or_ge j ys.length with h' | h'
      · exact h'
      · simp [List.getElem?_eq_none h'] at hv

theorem isw_shown (h : Mem w0 E hp w) {hp' : Nat → Option AV} {fr : Bool} {s : Sh} {l : List s.T} {n : Nat} {x : Value} (hr : Rep1 E (.isw fr s l n) x) : Shown E hp' w s (l.take n) x := by
  have := hr.cells1 rfl
  simp only [RepC] at this
  obtain ⟨y, ys, e1, h2, ad, cap, e3, h4, h5, h6⟩ := this
  simp at e1; subst e1
  have ht := (RcL.take_drop n h2).1
  refine ⟨ad, n, cap, ys.take (n * s.size), e3, by rw [List.length_take]; omega, by omega, ?_, ht, ?_⟩
  · rintro rfl; exact h6
  · cases ad with
    | none =>
      left
      have h6 : cap = 0 := h6
      have hl : n = 0 := by omega
      simp [hl]
    | some ad =>
      have h6 : ys = [] ∨ Lies E fr ad ys := h6
      rcases h6 with h6 | ⟨h7, h8⟩
      · left; simp [h6]
      · obtain ⟨g, off, spot⟩ := ad
        simp only at h7; subst h7
        have hg : ∀ (j : Nat) (v : Value), (ys.take (n * s.size))[j]? = some v → ys[j]? = some v := fun j v hv => by
          rw [List.getElem?_take] at hv
          split at hv
          · exact hv
          · cases hv
        exact .inr ⟨g, off, rfl, fun j v hv => h.cell (h8 j v (hg j v hv)), fun F hF j v hv => hF.im.1 _ _ _ _ (h8 j v (hg j v hv))⟩

theorem listF0_shown (h : Mem w0 E hp w) {hp' : Nat → Option AV} (hsub : ∀ n c, hp' n = some c → hp n = some c) {v : AV} {x : Value} {q : SL} (hf : listF0 hp' v = some q) (hr : Rep E v x) : Shown E hp' w q.s q.l x := by
  unfold listF0 listK0 at hf
  split at hf
  · rename_i fr s l
    simp at hf; subst hf
    exact isl_shown h hr
  · rename_i fr s l n
    simp at hf; subst hf
    exact isw_shown h hr
  · rename_i s
    simp at hf; subst hf
    have := Rep1.cells1 (E := E) (v := .nsl s) hr rfl
    simp only [RepC] at this
    simp at this; subst this
    exact ⟨none, 0, 0, [], rfl, rfl, Nat.le_refl _, fun _ => rfl, rfl, .inl rfl⟩
  · rename_i n s
    split at hf
    · rename_i s' l hn'
      have hn := hsub n _ hn'
      split at hf
      · rename_i hss
        have := shEq_eq' hss
        subst this
        simp at hf; subst hf
        have hx := Rep1.cells1 (E := E) (v := .own n s) hr rfl
        simp only [RepC] at hx
        obtain ⟨y, e1, hy⟩ := hx
        simp at e1; subst e1
        have hlen := (h.rheap n _ hn rfl).1 l.length rfl
        rcases hy with ⟨k1, k2, rfl⟩ | ⟨off, cap, rfl, k2, k3, k4⟩
        · have : l = [] := List.length_eq_zero_iff.1 (by omega)
          subst this
          exact ⟨none, 0, 0, [], rfl, rfl, Nat.le_refl _, fun _ => rfl, rfl, .inl rfl⟩
        · obtain ⟨ys, g1, g2⟩ := row_cells h hn k4
          refine ⟨some _, _, cap, ys, rfl, hlen.symm, k2, fun e => (by cases e), g1, ?_⟩
          rcases Nat.eq_zero_or_pos cap with h0 | h0
          · left
            have : l.length = 0 := by omega
            have h5 := g1.length
            rw [this] at h5
            simpa using h5
          · right
            have := k3 h0
            subst this
            exact ⟨_, 0, rfl, fun j v hv => by rw [Nat.zero_add]; exact g2 j v hv, fun F hF j v hv => by rw [Nat.zero_add]; exact hF.own n _ hn' rfl (by simp [k4]) j v (g2 j v hv)⟩
      · cases hf
    · cases hf
  · rename_i n s i len
    split at hf
    · rename_i s' l hn'
      have hn := hsub n _ hn'
      split at hf
      · rename_i hss
        have := shEq_eq' hss
        subst this
        cases hb : Nat.ble (i + len) l.length
        · rw [hb] at hf; cases hf
        · rw [hb] at hf
          simp at hf; subst hf
          have hbl := Nat.le_of_ble_eq_true hb
          rcases osl_inv (E := E) (m := n) (i0 := i) (len := len) (s := s) hr with ⟨k1, k2, rfl⟩ | ⟨off, cap, rfl, k2, k3, k4⟩
          · subst k2
            exact ⟨none, 0, 0, [], rfl, by simp, Nat.le_refl _, fun _ => rfl, by simp [RcL], .inl rfl⟩
          · obtain ⟨ys, g1, g2⟩ := row_cells h hn k4
            have hm := RcL.mid g1 i len
            refine ⟨some _, _, cap, _, rfl, by simp; omega, k2, fun e => (by cases e), hm, ?_⟩
            rcases Nat.eq_zero_or_pos cap with h0 | h0
            · left
              have : len = 0 := by omega
              subst this; simp
            · right
              have := k3 h0
              subst this
              exact ⟨_, _, rfl, fun j v hv => g2 _ v (mid_get hv), fun F hF j v hv => hF.own n _ hn' rfl (by simp [k4]) _ v (g2 _ v (mid_get hv))⟩
      · cases hf
    · cases hf
  · rename_i n p s i len cap
    split at hf
    · rename_i c hn'
      have hn := hsub n _ hn'
      rw [getB_eq] at hf
      cases hg : gett c p with
      | none => rw [hg] at hf; cases hf
      | some u =>
        rw [hg] at hf
        simp only [Option.bind_some] at hf
        have hlive : c.live = true := by cases c <;> first | rfl | (simp [gett, getB] at hg)
        obtain ⟨xs, T, ys, h1, h2, h3, hk⟩ : ∃ xs T ys, w.heap[E.ρ n]? = some (.cells xs T (0, 0)) ∧ (∀ j v, ys[j]? = some v → xs[offs p + j]? = some v) ∧ RepC E u ys ∧ (E.cnt n).isSome = true := by
          obtain ⟨_, ⟨_, s1, hs⟩ | ⟨xs, T, k1, k2, k3, _⟩⟩ := h.rheap n c hn hlive
          · exfalso
            subst hs
            unfold gett getB at hg
            simp only [List.length_nil] at hg
            split at hg
            · rename_i i _ _
              have hb : Nat.blt i 0 = false := rfl
              split at hg
              · rw [hb] at hg; cases hg
              · cases hg
            · cases hg
          · obtain ⟨pre, ys, post, e, hl, hr'⟩ := gett_sound hg k3
            refine ⟨xs, T, ys, k2, fun j v hv => ?_, hr', by simp [k1]⟩
            have : xs[offs p + j]? = xs.toList[offs p + j]? := by simp
            rw [this, e, ← hl, List.append_assoc, List.getElem?_append_right (by omega)]
            simp only [Nat.add_sub_cancel_left]
            have hj : j < ys.length := by
              rcases Nat.lt_or_ge j ys.length with h | h
              · exact h
              · simp [List.getElem?_eq_none h] at hv
            rw [List.getElem?_append_left hj]; exact hv
        have hx := Rep1.cells1 (E := E) (v := .sl n p s i len cap) hr rfl
        simp only [RepC] at hx
        obtain ⟨hle, off, ex, ho⟩ := hx
        simp at ex
        subst ex
        have fin : ∀ (s' : Sh) (l : List s'.T), s = s' → RcL E s' l ys → i + len ≤ l.length → Shown E hp' w s' ((l.drop i).take len) (.slice (some ⟨E.ρ n, off, none⟩) len cap) := by
          intro s' l hs hr' hb
          subst hs
          have hm := RcL.mid hr' i len
          refine ⟨some _, _, cap, _, rfl, by simp; omega, hle, fun e => (by cases e), hm, ?_⟩
          rcases Nat.eq_zero_or_pos len with h0 | h0
          · left; subst h0; simp
          · right
            have ho' := ho (by omega)
            subst ho'
            have hcell : ∀ j v, ((ys.drop (i * s.size)).take (len * s.size))[j]? = some v → cellOf w (E.ρ n) (offs p + i * s.size + j) = some v := fun j v hv => by
              rw [cellOf_cells h1, Nat.add_assoc]
              exact h2 _ v (mid_get hv)
            exact ⟨_, _, rfl, hcell, fun F hF j v hv => hF.own n _ hn' hlive hk _ v (hcell j v hv)⟩
        split at hf
        · rename_i s' m l
          split at hf
          · rename_i hss
            have := shEq_eq' hss
            cases hb : Nat.ble (i + len) m
            · rw [hb] at hf; cases hf
            · rw [hb] at hf
              simp at hf; subst hf
              simp only [RepC] at h3
              exact fin _ l this h3.2 (by rw [h3.1]; exact Nat.le_of_ble_eq_true hb)
          · cases hf
        · rename_i y
          split at hf
          · rename_i hss
            have := shEq_eq' hss
            cases hb : Nat.ble (i + len) 4
            · rw [hb] at hf; cases hf
            · rw [hb] at hf
              simp at hf; subst hf
              simp only [RepC] at h3
              exact fin (.int .u64) (limbs y) this (RcL_ints.2 h3) (Nat.le_of_ble_eq_true hb)
          · cases hf
        · cases hf
    · cases hf
  · cases hf

/-- The texts of a list of slices, as a callee sees them. -/
theorem texts_rep (h : Mem w0 E hp w) {hp' : Nat → Option AV} (hsub : ∀ n c, hp' n = some c → hp n = some c) {F : Emb} (hF : Opens E hp' w F) :
    ∀ {l : List AV} {zs : List Value} {r : List (List Int)}, textsK hp' l some = some r → AV.ones l = true → RepCs E l zs → RcL F .bytes r zs ∧ r.length = l.length
  | [], zs, r, ht, _, hr => by
    simp [textsK] at ht; subst ht
    simp only [RepCs] at hr; subst hr
    exact ⟨rfl, rfl⟩
  | v :: l, zs, r, ht, ho, hr => by
    simp only [AV.ones, Bool.and_eq_true, beq_iff_eq] at ho
    simp only [textsK] at ht
    rw [listK0_eq] at ht
    cases hq : listF0 hp' v with
    | none => rw [hq] at ht; cases ht
    | some q =>
      rw [hq] at ht
      simp only [Option.bind_some] at ht
      simp only [RepCs] at hr
      obtain ⟨a, b, rfl, h1, h2⟩ := hr
      obtain ⟨s, xs⟩ := q
      simp only at ht
      split at ht
      · rw [textsK_eq] at ht
        cases hl : textsK hp' l some with
        | none => rw [hl] at ht; cases ht
        | some r' =>
          rw [hl] at ht
          simp at ht; subst ht
          obtain ⟨g1, g2⟩ := texts_rep h hsub hF hl ho.2 h2
          have hlen := h1.length
          rw [ho.1] at hlen
          match a, hlen with
          | [y], _ =>
            have hag : v.isAgg = false := by
              cases v <;> first | rfl | (simp [listF0, listK0] at hq)
            have hrep : Rep E v y := by
              have := Rep1.of_cells1 hag h1
              exact (Rep.one h1.plain).2 this
            have hs := listF0_shown h hsub hq hrep
            have := (hs.rep hF).cells1 rfl
            simp only [RepC] at this
            obtain ⟨z, ys, e1, e2, e3⟩ := this
            simp at e1; subst e1
            rw [RcL_ints] at e2
            subst e2
            exact ⟨⟨[y], b, rfl, ⟨y, rfl, e3⟩, g1⟩, by simp [g2]⟩
      · cases ht

theorem listF_rep (h : Mem w0 E hp w) {hp' : Nat → Option AV} (hsub : ∀ n c, hp' n = some c → hp n = some c) {F : Emb} (hF : Opens E hp' w F) {v : AV} {x : Value} {q : SL} (hf : listF hp' v = some q) (hr : Rep E v x) :
    Rep1 F (.isl false q.s q.l) x := by
  unfold listF listK at hf
  split at hf
  · rename_i n i len cap
    split at hf
    · rename_i l hn'
      have hn := hsub n _ hn'
      cases hb : (Nat.ble (i + len) l.length && AV.ones l)
      · rw [hb] at hf; cases hf
      · rw [hb] at hf
        simp only [cond_true] at hf
        simp only [Bool.and_eq_true] at hb
        have hbl := Nat.le_of_ble_eq_true hb.1
        rw [textsK_eq] at hf
        cases ht : textsK hp' ((l.drop i).take len) some with
        | none => rw [ht] at hf; cases hf
        | some r =>
          rw [ht] at hf
          simp at hf; subst hf
          obtain ⟨_, ⟨_, s1, hs⟩ | ⟨xs, T, k1, k2, k3, _⟩⟩ := h.rheap n _ hn rfl
          · cases hs
          · have k3 : RepC E (.st l) xs.toList := k3
            simp only [RepC] at k3
            -- the elements' cells
            have hmid : ∀ (l : List AV) (zs : List Value) (i : Nat), AV.ones l = true → RepCs E l zs → i ≤ l.length → RepCs E (l.drop i) (zs.drop i) := by
              intro l
              induction l with
              | nil => intro zs i _ hr hi; simp only [RepCs] at hr; subst hr; simp [RepCs]
              | cons v l ih =>
                intro zs i ho hr hi
                cases i with
                | zero => simpa using hr
                | succ i =>
                  simp only [AV.ones, Bool.and_eq_true, beq_iff_eq] at ho
                  simp only [RepCs] at hr
                  obtain ⟨a, b, rfl, h1, h2⟩ := hr
                  have := h1.length
                  rw [ho.1] at this
                  match a, this with
                  | [y], _ => simpa using ih b i ho.2 h2 (by simpa using hi)
            have htake : ∀ (l : List AV) (zs : List Value) (i : Nat), AV.ones l = true → RepCs E l zs → RepCs E (l.take i) (zs.take i) := by
              intro l
              induction l with
              | nil => intro zs i _ hr; simp only [RepCs] at hr; subst hr; simp [RepCs]
              | cons v l ih =>
                intro zs i ho hr
                cases i with
                | zero => simp [RepCs]
                | succ i =>
                  simp only [AV.ones, Bool.and_eq_true, beq_iff_eq] at ho
                  simp only [RepCs] at hr
                  obtain ⟨a, b, rfl, h1, h2⟩ := hr
                  have := h1.length
                  rw [ho.1] at this
                  match a, this with
                  | [y], _ =>
                    simp only [List.take_succ_cons, List.cons_append, List.nil_append, RepCs]
                    exact ⟨[y], _, rfl, h1, ih b i ho.2 h2⟩
            have hdo : ∀ (l : List AV) (i : Nat), AV.ones l = true → AV.ones (l.drop i) = true := by
              intro l
              induction l with
              | nil => intro i _; simp [AV.ones]
              | cons v l ih =>
                intro i ho
                cases i with
                | zero => exact ho
                | succ i => simp only [AV.ones, Bool.and_eq_true] at ho; exact ih i ho.2
            have hta : ∀ (l : List AV) (i : Nat), AV.ones l = true → AV.ones (l.take i) = true := by
              intro l
              induction l with
              | nil => intro i _; simp [AV.ones]
              | cons v l ih =>
                intro i ho
                cases i with
                | zero => rfl
                | succ i =>
                  simp only [AV.ones, Bool.and_eq_true] at ho
                  simp only [List.take_succ_cons, AV.ones, Bool.and_eq_true]
                  exact ⟨ho.1, ih i ho.2⟩
            have hpart := htake _ _ len (hdo l i hb.2) (hmid l _ i hb.2 k3 (by omega))
            obtain ⟨g1, g2⟩ := texts_rep h hsub hF ht (hta _ len (hdo l i hb.2)) hpart
            have hx := Rep1.cells1 (E := E) (v := .sl n [] .bytes i len cap) hr rfl
            simp only [RepC] at hx
            obtain ⟨hle, off, ex, ho⟩ := hx
            simp at ex
            subst ex
            refine Rep1.of_cells1 rfl ?_
            simp only [RepC]
            refine ⟨_, _, rfl, g1, _, _, _, rfl, ?_, hle, ?_⟩
            · rw [g2]; simp; omega
            · show _ ∨ _
              rcases Nat.eq_zero_or_pos len with h0 | h0
              · left; subst h0; simp
              · right
                have ho' := ho (by omega)
                subst ho'
                refine ⟨rfl, fun j v hv => ?_⟩
                simp only [offs, Sh.size, Nat.mul_one, Nat.zero_add]
                refine hF.own n _ hn' rfl (by simp [k1]) _ v ?_
                rw [cellOf_cells k2]
                have := mid_get hv
                simpa using this
    · rename_i hne
      exact (listF0_shown h hsub (v := .sl n [] .bytes i len cap) (q := q) hf hr).rep hF
  · exact (listF0_shown h hsub hf hr).rep hF

theorem immK_sound (h : Mem w0 E hp w) {hp' : Nat → Option AV} (hsub : ∀ n c, hp' n = some c → hp n = some c) {F : Emb} (hF : Opens E hp' w F) {v v' : AV} {x : Value} (hi : immK hp' v some = some v') (hr : Rep E v x) :
    v'.plain = true ∧ Rep1 F v' x ∧ ∀ ok, v'.named ok = true := by
  have hL : ∀ {v : AV}, (listK hp' v fun s l => some (.isl false s l)) = some v' → Rep E v x → v'.plain = true ∧ Rep1 F v' x ∧ ∀ ok, v'.named ok = true := by
    intro v hi hr
    rw [listK_eq] at hi
    cases hq : listF hp' v with
    | none => rw [hq] at hi; cases hi
    | some q =>
      rw [hq] at hi
      simp at hi; subst hi
      exact ⟨rfl, listF_rep h hsub hF hq hr, fun _ => rfl⟩
  unfold immK at hi
  split at hi
  · exact hL hi hr
  · exact hL hi hr
  · exact hL hi hr
  · exact hL hi hr
  · exact hL hi hr
  · exact hL hi hr
  · rename_i fr u
    split at hi
    · rename_i hf
      simp at hi; subst hi
      obtain ⟨b, off, ys, ex, h2, h3⟩ := pim_inv (E := E) (fr := fr) (v := u) hr
      subst ex
      refine ⟨rfl, Rep1.of_cells1 rfl ?_, fun ok => by simp only [AV.named]; exact flat_named hf⟩
      simp only [RepC]
      exact ⟨_, ys, rfl, ⟨rfl, fun j v hv => hF.im.1 _ _ _ _ (h2 j v hv)⟩, flat_rep hF.im.2 hf h3⟩
    · cases hi
  · rename_i n p
    split at hi
    · rename_i c hc'
      have hc := hsub n _ hc'
      rw [getB_eq] at hi
      cases hg : gett c p with
      | none => rw [hg] at hi; cases hi
      | some u =>
        rw [hg] at hi
        simp only [Option.bind_some] at hi
        split at hi
        · rename_i hf
          simp at hi; subst hi
          have hlive : c.live = true := by cases c <;> first | rfl | (simp [gett, getB] at hg)
          have hx : x = _ := Rep1.ptr.1 hr
          subst hx
          obtain ⟨_, ⟨_, s1, hs⟩ | ⟨xs, T, k1, k2, k3, _⟩⟩ := h.rheap n c hc hlive
          · exfalso
            subst hs
            unfold gett getB at hg
            simp only [List.length_nil] at hg
            split at hg
            · rename_i i _ _
              have hb : Nat.blt i 0 = false := rfl
              split at hg
              · rw [hb] at hg; cases hg
              · cases hg
            · cases hg
          · obtain ⟨pre, ys, post, e, hl, hr'⟩ := gett_sound hg k3
            refine ⟨rfl, Rep1.of_cells1 rfl ?_, fun ok => by simp only [AV.named]; exact flat_named hf⟩
            simp only [RepC]
            refine ⟨_, ys, rfl, ⟨rfl, fun j v hv => hF.own n _ hc' hlive (by simp [k1]) _ v ?_⟩, flat_rep hF.im.2 hf hr'⟩
            rw [cellOf_cells k2]
            have : xs[offs p + j]? = xs.toList[offs p + j]? := by simp
            rw [this, e, ← hl, List.append_assoc, List.getElem?_append_right (by omega)]
            simp only [Nat.add_sub_cancel_left]
            have hj : j < ys.length := by
              rcases Nat.lt_or_ge j ys.length with h | h
              · exact h
              · simp [List.getElem?_eq_none h] at hv
            rw [List.getElem?_append_left hj]; exact hv
        · cases hi
    · cases hi
  · split at hi
    · rename_i hf
      simp at hi; subst hi
      exact ⟨flat_plain hf, Rep1.flat hF.im.2 hf ((Rep.one (flat_plain hf)).1 hr), fun ok => flat_named hf⟩
    · cases hi
end
end
end Go.Sy
