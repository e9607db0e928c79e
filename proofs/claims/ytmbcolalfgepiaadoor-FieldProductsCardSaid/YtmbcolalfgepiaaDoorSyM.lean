/- What an operation does in the model is what the symbolic reading says: calls; all operations together. -/
import Derived.Test.YtmbcolalfgepiaaDoorSyL
set_option linter.unusedVariables false
set_option linter.unusedSimpArgs false
namespace Go.Sy
open Go Go.RowKit

def ImmLe (E E' : Emb) : Prop := ∀ b o, E.imm b = some o → E'.imm b = some o

theorem Lies.imm {E E' : Emb} (h : ImmLe E E') {fr : Bool} {ad : Addr} {xs : List Value} (hl : Lies E fr ad xs) : Lies E' false ad xs := by
  obtain ⟨h1, h2, c, T, fz, h3, h4⟩ := hl
  exact ⟨h1, by simp, c, T, fz, h _ _ h3, h4⟩

theorem SlOk.imm {E E' : Emb} (h : ImmLe E E') {fr : Bool} {n : Nat} {xs : List Value} {x : Value} (hl : SlOk E fr n xs x) : SlOk E' false n xs x := by
  obtain ⟨a, len, cap, h1, h2, h3, h4⟩ := hl
  refine ⟨a, len, cap, h1, h2, h3, ?_⟩
  cases a with
  | none => exact h4
  | some ad => exact h4.imp id (Lies.imm h)

theorem Rc.imm {E E' : Emb} (h : ImmLe E E') {s : Sh} {t : s.T} {xs : List Value} (hl : Rc E s t xs) : Rc E' s t xs := by
  cases s
  case bytes => obtain ⟨x, h1, h2⟩ := hl; exact ⟨x, h1, h2.imm h⟩
  all_goals exact hl

theorem RcL.imm {E E' : Emb} (h : ImmLe E E') {s : Sh} : ∀ {l : List s.T} {xs : List Value}, RcL E s l xs → RcL E' s l xs
  | [], _, hl => hl
  | _ :: _, _, ⟨a, b, h1, h2, h3⟩ => ⟨a, b, h1, h2.imm h, RcL.imm h h3⟩

theorem Rc.flat {E E' : Emb} {s : Sh} {t : s.T} {xs : List Value} (hs : s.flat = true) (hl : Rc E s t xs) : Rc E' s t xs := by
  cases s
  case bytes => simp [Sh.flat] at hs
  all_goals exact hl

theorem RcL.flat {E E' : Emb} {s : Sh} (hs : s.flat = true) : ∀ {l : List s.T} {xs : List Value}, RcL E s l xs → RcL E' s l xs
  | [], _, hl => hl
  | _ :: _, _, ⟨a, b, h1, h2, h3⟩ => ⟨a, b, h1, h2.flat hs, RcL.flat hs h3⟩

mutual
theorem flat_rep {E E' : Emb} : ∀ {v : AV} {xs : List Value}, v.flat = true → RepC E v xs → RepC E' v xs
  | .int .., _, _, h => by simpa only [RepC] using h
  | .bool _, _, _, h => by simpa only [RepC] using h
  | .u256 _, _, _, h => by simpa only [RepC] using h
  | .arr s n l, _, hf, h => by simp only [RepC] at h ⊢; exact ⟨h.1, h.2.flat (by simpa [AV.flat] using hf)⟩
  | .st l, _, hf, h => by simp only [RepC] at h ⊢; exact flats_rep (by simpa [AV.flat] using hf) h
  | .undef, _, hf, _ => by simp [AV.flat] at hf
  | .tup _, _, hf, _ => by simp [AV.flat] at hf
  | .ptr .., _, hf, _ => by simp [AV.flat] at hf
  | .pim _, _, hf, _ => by simp [AV.flat] at hf
  | .sl .., _, hf, _ => by simp [AV.flat] at hf
  | .isl .., _, hf, _ => by simp [AV.flat] at hf
  | .nilp, _, hf, _ => by simp [AV.flat] at hf
  | .fn .., _, hf, _ => by simp [AV.flat] at hf
theorem flats_rep {E E' : Emb} : ∀ {l : List AV} {xs : List Value}, AV.flats l = true → RepCs E l xs → RepCs E' l xs
  | [], _, _, h => by simpa only [RepCs] using h
  | v :: l, _, hf, h => by
    simp only [AV.flats, Bool.and_eq_true] at hf
    simp only [RepCs] at h ⊢
    obtain ⟨a, b, h1, h2, h3⟩ := h
    exact ⟨a, b, h1, flat_rep hf.1 h2, flats_rep hf.2 h3⟩
end

theorem flat_plain {v : AV} (h : v.flat = true) : v.plain = true := by cases v <;> simp_all [AV.flat, AV.plain]

mutual
theorem flat_named {ok : Nat → Bool} : ∀ {v : AV}, v.flat = true → v.named ok = true
  | .int .., _ | .bool _, _ | .u256 _, _ | .arr .., _ => by simp [AV.named]
  | .st l, h => by simp only [AV.named]; exact flats_named (by simpa [AV.flat] using h)
  | .undef, h | .tup _, h | .ptr .., h | .pim _, h | .sl .., h | .isl .., h | .nilp, h | .fn .., h => by simp [AV.flat] at h
theorem flats_named {ok : Nat → Bool} : ∀ {l : List AV}, AV.flats l = true → AV.nameds ok l = true
  | [], _ => rfl
  | v :: l, h => by
    simp only [AV.flats, Bool.and_eq_true] at h
    simp only [AV.nameds, Bool.and_eq_true]
    exact ⟨flat_named h.1, flats_named h.2⟩
end

theorem Rep1.flat {E E' : Emb} {v : AV} {x : Value} (hf : v.flat = true) (h : Rep1 E v x) : Rep1 E' v x := ⟨flat_rep hf h.1, h.2⟩

section
variable {cx : Cx} {G : World → Prop} {w0 : World} {E : Emb} {N : Nat} {env hp : Nat → Option AV} {a : Act} {w : World} {o : Oper}

theorem sl_part {w : World} {E : Emb} {fr : Bool} {s : Sh} {l : List s.T} {ys : List Value} {b off i len cap : Nat} {o : Nat} (hle : len ≤ cap) (ho : 0 < cap → o = off + i * s.size)
    (hl : Lies E fr ⟨b, off, none⟩ ys) (hr : RcL E s l ys) (hb : i + len ≤ l.length) : RepC E (.isl fr s ((l.drop i).take len)) [.slice (some ⟨b, o, none⟩) len cap] := by
  simp only [RepC]
  have ht := (RcL.take_drop len (RcL.take_drop i hr).2).1
  refine ⟨_, _, rfl, ht, _, _, _, rfl, by simp; omega, hle, ?_⟩
  show _ ∨ _
  rcases Nat.eq_zero_or_pos len with h0 | h0
  · left; simp [h0]
  · right
    have hlen : (ys.take (i * s.size)).length = i * s.size := by
      rw [List.length_take, hr.length]; exact Nat.min_eq_left (Nat.mul_le_mul_right _ (by omega))
    have := hl.part (pre := ys.take (i * s.size)) (ys := (ys.drop (i * s.size)).take (len * s.size)) (post := (ys.drop (i * s.size)).drop (len * s.size)) (by rw [List.append_assoc, List.take_append_drop, List.take_append_drop])
    rw [hlen] at this
    rw [ho (by omega)]
    exact this

theorem immK_sound (h : Rel w0 E N env hp a w) {v v' : AV} {x : Value} (hi : immK hp v some = some v') (hr : Rep E v x) : v'.plain = true ∧ Rep1 (allImm w) v' x := by
  have himm : ImmLe E (allImm w) := fun b o ho => h.imm b o ho
  unfold immK at hi
  split at hi
  · rename_i fr s l
    simp at hi; subst hi
    refine ⟨rfl, Rep1.of_cells1 rfl ?_⟩
    have := Rep1.cells1 (E := E) (v := .isl fr s l) hr rfl
    simp only [RepC] at this ⊢
    obtain ⟨y, ys, h1, h2, h3⟩ := this
    exact ⟨y, ys, h1, h2.imm himm, h3.imm himm⟩
  · rename_i n p s i len cap
    have hx := Rep1.cells1 (E := E) (v := .sl n p s i len cap) hr rfl
    simp only [RepC] at hx
    obtain ⟨hle, off, ex, ho⟩ := hx
    simp at ex
    subst ex
    split at hi
    · rename_i c hc
      rw [getK_eq] at hi
      cases hg : get c p with
      | none => rw [hg] at hi; cases hi
      | some u =>
        rw [hg] at hi
        simp only [Option.bind_some] at hi
        obtain ⟨xs, T, ys, h1, h2, h3, h4⟩ := own_part h hc hg
        have hlies : Lies (allImm w) false ⟨E.ρ n, offs p, none⟩ ys := ⟨rfl, by simp, xs, T, (0, 0), h1, h2⟩
        split at hi
        · rename_i ka m l
          split at hi
          · rename_i kb
            split at hi
            · rename_i hk
              subst hk
              cases hb : Nat.ble (i + len) m
              · rw [hb] at hi; cases hi
              · rw [hb] at hi
                simp at hi; subst hi
                simp only [RepC] at h3
                refine ⟨rfl, Rep1.of_cells1 rfl (sl_part (w := w) (s := .int ka) hle ho hlies (h3.2.imm himm) ?_)⟩
                have := Nat.le_of_ble_eq_true hb
                have hl := h3.1
                omega
            · cases hi
          · cases hi
        · rename_i m l
          split at hi
          · cases hb : Nat.ble (i + len) m
            · rw [hb] at hi; cases hi
            · rw [hb] at hi
              simp at hi; subst hi
              simp only [RepC] at h3
              refine ⟨rfl, Rep1.of_cells1 rfl (sl_part (w := w) (s := .u256) hle ho hlies (h3.2.imm himm) ?_)⟩
              have := Nat.le_of_ble_eq_true hb
              have hl := h3.1
              omega
          · cases hi
        · rename_i m l
          split at hi
          · cases hb : Nat.ble (i + len) m
            · rw [hb] at hi; cases hi
            · rw [hb] at hi
              simp at hi; subst hi
              simp only [RepC] at h3
              refine ⟨rfl, Rep1.of_cells1 rfl (sl_part (w := w) (s := .pt) hle ho hlies (h3.2.imm himm) ?_)⟩
              have := Nat.le_of_ble_eq_true hb
              have hl := h3.1
              omega
          · cases hi
        · cases hi
    · cases hi
  · rename_i u
    split at hi
    · rename_i hf
      simp at hi; subst hi
      refine ⟨rfl, Rep1.of_cells1 rfl ?_⟩
      have := Rep1.cells1 (E := E) (v := .pim u) hr rfl
      simp only [RepC] at this ⊢
      obtain ⟨ad, ys, h1, h2, h3⟩ := this
      exact ⟨ad, ys, h1, h2.imm himm, flat_rep hf h3⟩
    · cases hi
  · rename_i n p
    split at hi
    · rename_i c hc
      rw [getK_eq] at hi
      cases hg : get c p with
      | none => rw [hg] at hi; cases hi
      | some u =>
        rw [hg] at hi
        simp only [Option.bind_some] at hi
        split at hi
        · rename_i hf
          simp at hi; subst hi
          obtain ⟨xs, T, ys, h1, h2, h3, h4⟩ := own_part h hc hg
          have hx : x = _ := Rep1.ptr.1 hr
          subst hx
          refine ⟨rfl, Rep1.of_cells1 rfl ?_⟩
          simp only [RepC]
          exact ⟨_, ys, rfl, ⟨rfl, by simp, xs, T, (0, 0), h1, h2⟩, flat_rep hf h3⟩
        · cases hi
    · cases hi
  · split at hi
    · rename_i hf
      simp at hi; subst hi
      exact ⟨flat_plain hf, Rep1.flat hf ((Rep.one (flat_plain hf)).1 hr)⟩
    · cases hi

theorem immsK_sound (h : Rel w0 E N env hp a w) : ∀ {l l' : List AV} {vs : List Value}, immsK hp l some = some l' → (l.length = vs.length) → (∀ (i : Nat) (v : AV) (x : Value), l[i]? = some v → vs[i]? = some x → Rep E v x) → Rep1s (allImm w) l' vs
  | [], l', vs, hi, hlen, hr => by
    simp [immsK] at hi; subst hi
    cases vs with
    | nil => rfl
    | cons => simp at hlen
  | v :: l, l', vs, hi, hlen, hr => by
    cases vs with
    | nil => simp at hlen
    | cons x vs =>
      simp only [immsK] at hi
      rw [immK_eq] at hi
      cases h1 : immK hp v some with
      | none => rw [h1] at hi; cases hi
      | some v1 =>
        rw [h1] at hi
        simp only [Option.bind_some] at hi
        rw [immsK_eq] at hi
        cases h2 : immsK hp l some with
        | none => rw [h2] at hi; cases hi
        | some l1 =>
          rw [h2] at hi
          simp at hi; subst hi
          obtain ⟨hp1, hr1⟩ := immK_sound h h1 (hr 0 v x rfl rfl)
          exact ⟨x, vs, rfl, hp1, hr1, immsK_sound h h2 (by simpa using hlen) (fun i u y hu hy => hr (i + 1) u y (by simpa using hu) (by simpa using hy))⟩

theorem freshImm_le {w w' : World} {E' : Emb} (hb : E'.base ≤ w.heap.size) (hi : ∀ b o, w.heap.size ≤ b → w'.heap[b]? = some o → E'.imm b = some o) : (freshImm w w').Le E' (fun _ => false) :=
  ⟨fun _ h => (by cases h), (fun b o ho => by
    simp only [freshImm] at ho
    split at ho
    · rename_i h; exact hi b o h ho
    · cases ho), hb⟩

theorem good_call (hc : CxOk cx G) (hG : G w0) (h : Rel w0 E N env hp a w) {c : Call} {fop : Operand} {g : Nat} {v : AV} {δ : Option (Nat × AV)} (hop : o.op = .call c) (hcal : c.callee = .value fop)
    (hf : a.eval fop = .func (.func g) #[] #[])
    (hk : callK cx hp g (c.args.toList.zipIdx.map fun p => ev cx env (c.argTypes.getD p.2 0) p.1) P2 = some (v, δ)) : Good cx.P o w0 N env hp v δ a w := by
  unfold callK at hk
  split at hk
  · rename_i e he
    rw [immsK_eq] at hk
    cases h1 : immsK hp (c.args.toList.zipIdx.map fun p => ev cx env (c.argTypes.getD p.2 0) p.1) some with
    | none => rw [h1] at hk; cases hk
    | some args' =>
      rw [h1] at hk
      simp only [Option.bind_some] at hk
      split at hk
      · rename_i x hx
        cases hF : e.F x with
        | none => rw [hF] at hk; cases hk
        | some r =>
          rw [hF] at hk
          simp only [Option.bind_some, P2, Option.some.injEq, Prod.mk.injEq] at hk
          obtain ⟨rfl, rfl⟩ := hk
          have hreps : Rep1s (allImm w) args' (c.args.map a.eval).toList := by
            refine immsK_sound h h1 (by simp) (fun i v y hv hy => ?_)
            simp only [List.getElem?_map, List.getElem?_zipIdx, Array.toList_map, Option.map_map] at hv hy
            cases hq : c.args.toList[i]? with
            | none => rw [hq] at hv; cases hv
            | some q =>
              rw [hq] at hv hy
              simp at hv hy
              subst hv; subst hy
              exact (ev_sound hc hG h _ q).1
          have hrun : (execOp a.eval o).run cx.P w = (callFunc g (c.args.map a.eval)).run cx.P w := by
            simp [execOp, hop, resolve, hcal, hf, Deferred.ofValue, invoke]
          have hpost : ∀ v w', CallPost e r w v w' → ∀ (next : Act → World → Prop), (∀ E' x w', Rel w0 E' N env (updH hp none) a w' → Rep E' (one (e.enc r)) x → (one (e.enc r)).named (fun n => (updH hp none n).isSome) = true → next (a.put o.dst x) w') → next (a.put o.dst v) w' := by
            intro v w' ⟨hb, hr, hn⟩ next k
            obtain ⟨E', e1, e2, e3⟩ := h.grow hb
            refine k E' v w' e3 (hr.mono (freshImm_le ?_ e2) hn) (nameds_none hn)
            have := e3.base
            have := h.below.size
            omega
          rcases hc.calls g e he w x r args' _ (hc.now hG h) hx hF hreps with ⟨h2, h3⟩ | ⟨v, w', h2, h3⟩
          · intro next Q k
            unfold Oper.wp
            rw [hrun, h2, Oper.upon_enter]
            refine h3.mono fun en w' ⟨v, hv, hp'⟩ => ?_
            subst hv
            exact hpost v w' hp' next k
          · intro next Q k
            unfold Oper.wp
            rw [hrun, h2, Oper.upon_value]
            exact hpost v w' h3 next k
      · cases hk
  · cases hk
end
end Go.Sy
