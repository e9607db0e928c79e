/- What the laid variables hold. -/
import Derived.Test.YtapnedegcnmhgaaDoorSyX
set_option linter.unusedVariables false
set_option linter.unusedSimpArgs false
namespace Go.Sy
open Go Go.RowKit Go.ChangeShapes Go.WideShapes

section
variable {H : Type} {enc : TypeId × Value → H} {P : Program} {base : Nat} {sp : Nat → Bool} {held : Bool} {W : World}

def pieces (P : Program) (f : TypeId → DataW H → Option (List Value)) : List (Nat × TypeId) → Nat → List (DataW H) → Option (List Value)
  | [], _, [] => some []
  | (o, t) :: r, off, d :: ds =>
    if o = off then
      match f t d with
      | some c => if c.length = P.cellsOf t then
          (match pieces P f r (off + P.cellsOf t) ds with
          | some l => some (c ++ l)
          | none => none)
        else none
      | none => none
    else none
  | _, _, _ => none

/-- The cells of a plain datum of a type. -/
def flatCells (P : Program) : Nat → TypeId → DataW H → Option (List Value)
  | 0, _, _ => none
  | n + 1, t, d =>
    match P.underlying t, d with
    | some (.int k), .lit (.int k' v) => if k = k' then some [.int k v] else none
    | some .bool, .lit (.bool b) => some [.bool b]
    | some .string, .lit (.string l) => some [.string ⟨l.toArray⟩]
    | some (.array m e), .agg ds => match pieces P (flatCells P n) ((List.range m).map fun i => (i * P.cellsOf e, e)) 0 ds with
      | some l => if l.length = P.cellsOf t then some l else none
      | none => none
    | some (.struct fs), .agg ds => match pieces P (flatCells P n) (fs.toList.map fun f => (f.offset, f.type)) 0 ds with
      | some l => if l.length = P.cellsOf t then some l else none
      | none => none
    | _, _ => none

theorem pieces_eq {m n : Nat} {cs : List Value} (ih : ∀ (t : TypeId) (cs : List Value) (x : DataW H × List MemPlace) (l : List Value), DataW.trod enc P W base sp held m t cs = some x → flatCells P n t x.1 = some l → cs = l) :
    ∀ (L : List (Nat × TypeId)) (off : Nat) (xs : List (DataW H × List MemPlace)) (l : List Value), (∀ (i o : Nat) (t : TypeId), L[i]? = some (o, t) → DataW.trod enc P W base sp held m t ((cs.drop o).take (P.cellsOf t)) = xs[i]?) →
      pieces P (flatCells P n) L off (xs.map (·.1)) = some l → (cs.drop off).take l.length = l
  | [], off, [], l, _, h => by simp [pieces] at h; subst h; rfl
  | [], off, x :: xs, l, _, h => by simp [pieces] at h
  | (o, t) :: L, off, [], l, _, h => by simp [pieces] at h
  | (o, t) :: L, off, x :: xs, l, hx, h => by
    simp only [List.map_cons, pieces] at h
    split at h
    · rename_i e; subst e
      split at h
      · rename_i c hc
        split at h
        · rename_i hl
          split at h
          · rename_i l' hl'
            simp at h; subst h
            have h1 := hx 0 o t rfl
            have h2 := ih t _ x c h1 hc
            have h3 := pieces_eq ih L (o + P.cellsOf t) xs l' (fun i o' t' hi => by have := hx (i + 1) o' t' (by simpa using hi); simpa using this) hl'
            rw [List.length_append, List.take_add, hl, h2, List.drop_drop, h3]
          · cases h
        · cases h
      · cases h
    · cases h

theorem trod_flat : ∀ (n : Nat) {fuel : Nat} {t : TypeId} {cs : List Value} {x : DataW H × List MemPlace} {l : List Value}, DataW.trod enc P W base sp held fuel t cs = some x → flatCells P n t x.1 = some l → cs = l
  | 0, _, _, _, _, _, _, h => by simp [flatCells] at h
  | n + 1, fuel, t, cs, x, l, h, hl => by
    unfold flatCells at hl
    split at hl
    · rename_i k k' v ht hx
      obtain ⟨v', rfl, rfl, _⟩ := DataW.trod_int ht h
      simp only [DataW.lit.injEq, Lit.int.injEq] at hx
      obtain ⟨rfl, rfl⟩ := hx
      simp at hl; exact hl
    · rename_i b ht hx
      obtain ⟨v', rfl, rfl⟩ := DataW.trod_bool ht h
      simp only [DataW.lit.injEq, Lit.bool.injEq] at hx
      subst hx
      simp at hl; exact hl
    · rename_i b ht hx
      have : ∃ s : ByteArray, cs = [.string s] ∧ x = (.lit (.string s.data.toList), []) := by
        cases fuel with
        | zero => simp [DataW.trod] at h
        | succ n =>
          unfold DataW.trod at h
          rw [ht] at h
          split at h <;> simp_all
      obtain ⟨s, rfl, rfl⟩ := this
      simp only [DataW.lit.injEq, Lit.string.injEq] at hx
      subst hx
      simp at hl
      rw [hl]
    · rename_i m e ds ht hx
      obtain ⟨xs, fu, rfl, rfl, hlen, hxl, hel⟩ := DataW.trod_array ht h
      simp only [DataW.agg.injEq] at hx
      subst hx
      split at hl
      · rename_i l' hp
        split at hl
        · rename_i hl'
          simp at hl; subst hl
          have := pieces_eq (m := fu) (n := n) (cs := cs) (fun t cs x l h1 h2 => trod_flat n h1 h2) _ _ xs l' (fun i o t' hi => by
            simp only [List.getElem?_map] at hi
            rcases Nat.lt_or_ge i m with hm | hm
            · rw [List.getElem?_range hm] at hi
              simp at hi
              obtain ⟨rfl, rfl⟩ := hi
              exact hel i hm
            · rw [List.getElem?_eq_none (by simpa using hm)] at hi; cases hi) hp
          rw [hl', ← hlen] at this
          simpa using this
        · cases hl
      · cases hl
    · rename_i fs ds ht hx
      obtain ⟨xs, fu, rfl, rfl, hlen, hxl, hel⟩ := DataW.trod_struct ht h
      simp only [DataW.agg.injEq] at hx
      subst hx
      split at hl
      · rename_i l' hp
        split at hl
        · rename_i hl'
          simp at hl; subst hl
          have := pieces_eq (m := fu) (n := n) (cs := cs) (fun t cs x l h1 h2 => trod_flat n h1 h2) _ _ xs l' (fun i o t' hi => by
            simp only [List.getElem?_map] at hi
            cases hf : fs.toList[i]? with
            | none => rw [hf] at hi; cases hi
            | some f =>
              rw [hf] at hi
              simp at hi
              obtain ⟨rfl, rfl⟩ := hi
              exact hel i f (by simpa using hf)) hp
          rw [hl', ← hlen] at this
          simpa using this
        · cases hl
      · cases hl
    · cases hl
end

/-- The laid variables are those of the context. -/
def laidIs (P : Program) : List (String × DataW Unit) → List (Nat × AV) → Bool
  | [], [] => true
  | (n, d) :: l, (g, v) :: gs => (match P.globalNamed n with
      | some g' => Nat.beq g g' && (match (P.globals[g]?).map (·.type) with
        | some t => (match flatCells P 8 t d, v.litCells with
          | some a, some b => sameCells a b && !b.isEmpty
          | _, _ => false)
        | none => false)
      | none => false) && laidIs P l gs
  | _, _ => false

theorem glob_vars {P : Program} {W : World} : ∀ {laid : List (String × DataW Unit)} {globs : List (Nat × AV)} {ps : List MemPlace}, laidIs P laid globs = true → DataW.LaidVars P W laid ps → GlobW globs W
  | [], [], _, _, _ => fun _ _ h => by cases h
  | (n, d) :: l, (g, v) :: gs, ps, h, hv => by
    simp only [laidIs, Bool.and_eq_true] at h
    obtain ⟨h, h2⟩ := h
    obtain ⟨g', t, cs, fuel, p, q, e1, e2, e3, e4, e5, _⟩ := hv
    rw [e1] at h
    simp only [Bool.and_eq_true] at h
    obtain ⟨hg, h⟩ := h
    have hg := Nat.eq_of_beq_eq_true hg
    subst hg
    rw [e2] at h
    simp only at h
    split at h
    · rename_i a b ha hb
      have := trod_flat 8 e4 ha
      simp only [Bool.and_eq_true, Bool.not_eq_true'] at h
      have hs := sameCells_eq h.1
      have hrest := glob_vars h2 e5
      intro g' v' hm
      rcases List.mem_cons.1 hm with e | hm
      · cases e
        simp only [World.var?, e1, Option.bind_some] at e3
        split at e3
        · rename_i c T fz hc
          simp at e3; subst e3
          refine ⟨c, T, fz, hc, by rw [hb, this, hs], ?_⟩
          have hb2 := h.2
          rw [← hs, ← this] at hb2
          rcases Nat.eq_zero_or_pos c.size with h0 | h0
          · have : c = #[] := Array.size_eq_zero_iff.1 h0
            subst this; cases hb2
          · exact h0
        · cases e3
      · exact hrest g' v' hm
    · cases h
  | [], _ :: _, _, h, _ => by simp [laidIs] at h
  | _ :: _, [], _, h, _ => by simp [laidIs] at h

theorem glob_of {P : Program} {laid : List (String × DataW Unit)} {globs : List (Nat × AV)} (h : laidIs P laid globs = true) (hp : laid.all (fun p => (p.2.handleName? (H := Unit)).isNone) = true) (hm : ∀ W, laidMetH P laid W → laidMet P laid W) (W : World) (hW : laidMetH P laid W) : GlobW globs W := by
  obtain ⟨ps, hv, _⟩ := hm W hW
  exact glob_vars h hv
end Go.Sy
