/- What an operation does in the model is what the symbolic reading says: copy and append. -/
import Derived.Test.YtapnedegcnmhgaaDoorSyNa
import Derived.Deep.Upon
set_option linter.unusedVariables false
set_option linter.unusedSimpArgs false
namespace Go.Sy
open Go Go.RowKit

theorem castL_eq {s s' : Sh} {l : List s'.T} {l' : List s.T} (h : castL s s' l = some l') : ∃ e : s = s', l = e ▸ l' := by
  unfold castL at h
  split at h
  · split at h
    · rename_i e; subst e; simp at h; exact ⟨rfl, h⟩
    · cases h
  case h_7 i j l =>
    unfold castD at h
    split at h
    all_goals first | (simp at h; exact ⟨rfl, h⟩) | cases h
  all_goals first | (simp at h; exact ⟨rfl, h⟩) | cases h

theorem updH_self {hp : Nat → Option AV} {n : Nat} {c : AV} (h : hp n = some c) : updH hp [(n, c)] = hp := by
  funext m
  by_cases e : m = n
  · subst e; rw [updH_same, h]
  · rw [updH_other e]

section
variable {cx : Cx} {G : Ini → Prop} {w0 : Ini} {E : Emb} {N : Nat} {env hp : Nat → Option AV} {a : Act} {w : World} {o : Oper}

/-- What a slice shows, as the source of an append or a copy. -/
theorem shown_src {P : Program} {tx e' : TypeId} (hk : P.underlying tx = some (.slice e')) {hp' : Nat → Option AV} {s : Sh} {l : List s.T} {x : Value} (h : Shown E hp' w s l x) :
    ∃ ys, RcL E s l ys ∧ Src P s.size tx x l.length ys w ∧ ∀ n, (Builtin.firstCells s.size (min l.length n) x).run P w = .ok (ys.take (n * s.size)).toArray w := by
  obtain ⟨ad, len, cap, ys, rfl, h2, h3, h4, h5, h6⟩ := h.ex
  have hl := h5.length
  refine ⟨ys, h5, ?_, fun n => ?_⟩
  · cases ad with
    | none =>
      have := h4 rfl
      have h0 : len = 0 := by omega
      subst h0
      have hy : ys = [] := by rw [← h2] at hl; simpa using hl
      subst hy
      rw [← h2]
      exact Src.ofNil w hk _
    | some ad =>
      subst h2
      rcases h6 with h6 | ⟨g, off, e, h7, _⟩
      · subst h6
        exact Src.ofSlice w hk _ _ _ [] hl (fun j u hu => by simp at hu) (fun u hu => by cases hu)
      · cases e
        refine Src.ofSlice w hk _ _ _ ys hl (fun j u hu => ?_) h5.oneCell
        obtain ⟨c, T, fz, k1, k2⟩ := cellOf_of (h7 j u hu)
        rw [cell_at k1]; exact k2
  · have htl : (ys.take (n * s.size)).length = min l.length n * s.size := by
      rw [List.length_take, hl, Nat.min_comm]
      rcases Nat.le_total l.length n with hh | hh
      · rw [Nat.min_eq_left hh, Nat.min_eq_left (Nat.mul_le_mul_right _ hh)]
      · rw [Nat.min_eq_right hh, Nat.min_eq_right (Nat.mul_le_mul_right _ hh)]
    cases ad with
    | none =>
      have := h4 rfl
      have h0 : len = 0 := by omega
      have hy : ys = [] := by rw [← h2, h0] at hl; simpa using hl
      subst hy
      simp [Builtin.firstCells]
    | some ad =>
      refine run_firstCells_some w _ _ _ _ _ _ htl (fun j v hv => ?_)
      rcases h6 with h6 | ⟨g, off, e, h7, _⟩
      · subst h6; simp at hv
      · cases e
        have hv' : ys[j]? = some v := by
          simp only [List.getElem?_take] at hv
          split at hv
          · exact hv
          · cases hv
        obtain ⟨c, T, fz, k1, k2⟩ := cellOf_of (h7 j v hv')
        rw [cell_at k1]; exact k2

/-- A slice of a row. -/
theorem row_slice (h : Rel w0 E N env hp a w) {n i len : Nat} {s s' : Sh} {l : List s'.T} {v : AV} {x : Value} (hm : hp n = some (.row s' l)) (hv : (v = .own n s ∧ i = 0 ∧ len = l.length) ∨ v = .osl n s i len) (hx : Rep E v x) :
    (len = 0 ∧ l = [] ∧ x = .slice none 0 0 ∧ E.cnt n = none) ∨ ∃ off cap, x = .slice (some ⟨E.ρ n, off, none⟩) len cap ∧ len ≤ cap ∧ (0 < cap → off = i * s.size) ∧ E.cnt n = some ((i + cap) * s.size) := by
  rcases hv with ⟨rfl, rfl, rfl⟩ | rfl
  · rcases own_inv h hm hx with ⟨h1, h2, h3⟩ | ⟨off, cap, h1, h2, h3, h4⟩
    · exact .inl ⟨by simp [h1], h1, h3, h2⟩
    · exact .inr ⟨off, cap, h1, h2, fun hc => by rw [h3 hc]; simp, by rw [h4]; simp⟩
  · rcases osl_inv (E := E) (m := n) (i0 := i) (len := len) (s := s) hx with ⟨h1, h2, h3⟩ | h1
    · obtain ⟨_, ⟨_, s1, hs⟩ | ⟨xs, T, h4, _⟩⟩ := h.rheap n _ hm rfl
      · cases hs; exact .inl ⟨h2, rfl, h3, h1⟩
      · rw [h1] at h4; cases h4
    · exact .inr h1

theorem splice_rep {s : Sh} {l ys : List s.T} {lc yc : List Value} (hl : RcL E s l lc) (hy : RcL E s ys yc) (i : Nat) (hi : i + ys.length ≤ l.length) :
    RcL E s (spliceL l i ys) (lc.take (i * s.size) ++ yc ++ lc.drop (i * s.size + yc.length)) := by
  have h1 := (RcL.take_drop i hl).1
  have h2 := (RcL.take_drop (i + ys.length) hl).2
  have : (i + ys.length) * s.size = i * s.size + yc.length := by rw [Nat.add_mul, hy.length]
  rw [this] at h2
  exact (h1.append hy).append h2

theorem good_copy_row (h : Rel w0 E N env hp a w) {c : Call} {v1 v2 : AV} {e : TypeId} {T1 : TypeId} {x y : Operand} {n i len : Nat} {s s2 : Sh} {l ys : List s2.T} {q : SL} (hfr : froN n = false) (hop : o.op = .call c) (hcal : c.callee = .builtin .copy)
    (hargs : c.args = #[x, y]) (ht : c.argTypes[0]? = some T1) (hu : cx.P.underlying T1 = some (.slice e)) (hsz : sizeT cx.P e = some s.size)
    (hd : Rep E v1 (a.eval x)) (hs : Rep E v2 (a.eval y)) (hq : listF0 hp v2 = some q) (hv : (v1 = .own n s ∧ i = 0 ∧ len = l.length) ∨ v1 = .osl n s i len) (hm : hp n = some (.row s2 l)) (hss : shEq s s2 = true)
    (hcast : castL s2 q.s q.l = some ys) (hb : i + len ≤ l.length) :
    Good cx.P o w0 N env hp (.int .i64 (min ys.length len : Nat)) [(n, .row s2 (spliceL l i (ys.take len)))] a w := by
  have hse := shEq_eq' hss
  subst hse
  have hshow := listF0_shown h.toMem (fun _ _ h => h) hq hs
  obtain ⟨q1, q2⟩ := q
  simp only at hcast hshow
  obtain ⟨e1, e2⟩ := castL_eq hcast
  subst e1
  simp only at e2; subst e2
  obtain ⟨yc, r1, r2, r3⟩ := shown_src (P := cx.P) hu hshow
  have hrun : ∀ (base : Option Addr) (cap : Nat) (w' : World), a.eval x = .slice base len cap → (∀ ad, base = some ad → (storeCells ad (yc.take (len * s.size))).run cx.P w = .ok () w') → (base = none → w' = w) →
      (execOp a.eval o).run cx.P w = .ok (.value (goInt (min q2.length len : Nat))) w' := by
    intro base cap w' hx hst hno
    have hmin : Nat.min q2.length len = min q2.length len := rfl
    simp only [execOp, hop, resolve, hcal, Sem.run_bind, Sem.run_pure, Result.andThen_ok, invoke, builtin, hargs, List.map_toArray, List.map_cons, List.map_nil]
    simp only [Builtin.copy_, ht, List.getElem?_toArray, List.getElem?_cons_zero, List.getElem?_cons_succ, Sem.run_bind, run_underlying hu, Result.andThen_ok, hx, r2.len, run_sizeT hsz, hmin, r3 len]
    cases base with
    | none => simp [hno rfl]
    | some ad => simp [hst ad rfl]
  rcases row_slice h hm hv hd with ⟨h0, hl0, ex, hcn⟩ | ⟨off, cap, ex, hcap, hoff, hcn⟩
  · subst h0; subst hl0
    have hi : i = 0 := by simp at hb; exact hb
    subst hi
    have hspl : spliceL ([] : List s.T) 0 (q2.take 0) = [] := rfl
    rw [hspl]
    refine Good.value (E' := E) (x := goInt (min q2.length 0 : Nat)) (w' := w) (hrun none 0 w ex (fun ad h => by cases h) (fun _ => rfl)) (by rw [updH_self hm]; exact h) (Rep1.int.2 rfl) (by simp [AV.named])
  · obtain ⟨_, ⟨hk, _⟩ | ⟨blk, T, k1, k2, k3, k4, k5⟩⟩ := h.rheap n _ hm rfl
    · rw [hcn] at hk; cases hk
    · obtain ⟨lc, zs, eb, hlc, hzs⟩ := k3
      have hll := hlc.length
      have htake : RcL E s (q2.take len) (yc.take (len * s.size)) := (RcL.take_drop len r1).1
      have hmlen : (q2.take len).length ≤ len := by simp; omega
      have hnew := splice_rep hlc htake i (by omega)
      have htl := htake.length
      -- the new block
      let blk' : Array Value := (lc.take (i * s.size) ++ yc.take (len * s.size) ++ lc.drop (i * s.size + (yc.take (len * s.size)).length) ++ zs).toArray
      have hbound : i * s.size + (yc.take (len * s.size)).length ≤ lc.length := by
        rw [htl, hll, ← Nat.add_mul]
        exact Nat.mul_le_mul_right _ (by omega)
      have hsize : blk'.size = blk.size := by
        have : blk.size = (lc ++ zs).length := by rw [← eb]; simp
        rw [this]
        simp only [blk', List.size_toArray, List.length_append, List.length_take, List.length_drop] at hbound ⊢
        omega
      have hst : (storeCells ⟨E.ρ n, off, none⟩ (yc.take (len * s.size))).run cx.P w = .ok () (w.setRow (E.ρ n) blk') := by
        rcases Nat.eq_zero_or_pos (yc.take (len * s.size)).length with h0 | h0
        · have hnil : yc.take (len * s.size) = [] := List.length_eq_zero_iff.1 h0
          have : blk' = blk := by
            apply Array.ext'
            simp only [blk', hnil, List.append_nil, List.length_nil, Nat.add_zero, List.take_append_drop]
            exact eb.symm
          rw [hnil, this]
          simp [storeCells, setRow_self w _ _ _ _ k2]
        · have hpos : 0 < cap := by
            rw [htl] at h0
            have : 0 < (q2.take len).length := Nat.pos_of_mul_pos_right h0
            omega
          have ho := hoff hpos
          subst ho
          have hst := run_storeCells_at cx.P (E.ρ n) (i * s.size) T (yc.take (len * s.size)) 0 blk w k2 (by
            have : blk.size = (lc ++ zs).length := by rw [← eb]; simp
            rw [this, List.length_append]; omega) htake.oneCell
          rw [hst]
          congr 2
          apply Array.ext'
          simp only [blk', Nat.add_zero]
          rw [eb, List.take_append_of_le_length (by omega), List.drop_append_of_le_length hbound]
          simp only [List.append_assoc]
      have hw := h.write (c' := .row s (spliceL l i (q2.take len))) (ys := blk') hm rfl hfr k1 k2 hsize ⟨_, zs, by simp only [blk'], hnew, hzs⟩ (by
        simp only [AV.rowLen, spliceL, List.length_append, List.length_take, List.length_drop]
        congr 1
        simp only [List.length_take] at hmlen
        omega) (by simp [AV.named])
      exact Good.value (E' := E) (x := goInt (min q2.length len : Nat)) (hrun _ cap _ ex (fun ad h => by cases h; exact hst) (fun h => by cases h)) hw (Rep1.int.2 rfl) (by simp [AV.named])
end
end Go.Sy
