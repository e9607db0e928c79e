/- What an operation does in the model is what the symbolic reading says: all operations together. -/
import Derived.Test.YtapnedegcnmhgaaDoorSyNd
set_option linter.unusedVariables false
set_option linter.unusedSimpArgs false
namespace Go.Sy
open Go Go.RowKit

section
variable {cx : Cx} {G : Ini → Prop} {w0 : Ini} {E : Emb} {N : Nat} {env hp : Nat → Option AV} {a : Act} {w : World} {o : Oper}

theorem own_some (h : Rel w0 E N env hp a w) {n : Nat} {p : List Step} {x : Operand} {t : TypeId} (hc : CxOk cx G) (hG : G w0) (he : ev cx env t x = .ptr n p) : (hp n).isSome = true := by
  have := (ev_sound hc hG h t x).2
  rw [he] at this
  simpa [AV.named] using this

theorem own_someO (h : Rel w0 E N env hp a w) {n : Nat} {p : List Step} {x : Operand} {t : TypeId} (hc : CxOk cx G) (hG : G w0) (he : (ev cx env t x).open = .ptr n p) : (hp n).isSome = true := by
  have := AV.open_named (ev_sound hc hG h t x).2
  rw [he] at this
  simpa [AV.named] using this
theorem get_plain {v u : AV} {s : Step} {p : List Step} (h : get v (s :: p) = some u) : v.plain = true := by
  rw [← v.open_plain]
  cases s <;> simp only [get, getK] at h <;> generalize v.open = v at h <;> cases v <;> first | rfl | cases h
theorem pimq_pim {E : Emb} {u : AV} {x : Value} (h : Rep1 E (.pimq true u) x) : Rep1 E (.pim true u) x := by
  have := h.cells1 rfl
  simp only [RepC] at this
  refine Rep1.of_cells1 rfl ?_
  simp only [RepC]
  rcases this with ⟨h0, _⟩ | ⟨_, h1⟩
  · exact absurd h0 (by decide)
  · exact h1

theorem opF_good (hc : CxOk cx G) (hG : G w0) (h : Rel w0 E N env hp a w) {v : AV} {δ : List (Nat × AV)} (hf : opF cx o env hp = some (v, δ)) : Good cx.P o w0 N env hp v δ a w := by
  have hev := fun (t : TypeId) (x : Operand) => ev_sound hc hG h t x
  have hp1 : ∀ {t : TypeId} {x : Operand} {u : AV}, ev cx env t x = u → u.plain = true → Rep1 E u (a.eval x) ∧ u.named (fun n => (hp n).isSome) = true := fun he hpl => ev_plain hc hG h he hpl
  have hp1o : ∀ {t : TypeId} {x : Operand} {u : AV}, (ev cx env t x).open = u → u.plain = true → Rep1 E u (a.eval x) ∧ u.named (fun n => (hp n).isSome) = true := fun {t x u} he hpl => by
    have h0 : (ev cx env t x).plain = true := by rw [← AV.open_plain, he]; exact hpl
    have h1 := hp1 (t := t) (x := x) rfl h0
    subst he
    exact ⟨Rep1_open.2 h1.1, AV.open_named h1.2⟩
  unfold opF opK at hf
  split at hf
  · rename_i x hop
    simp only [P2, Option.some.injEq, Prod.mk.injEq] at hf
    obtain ⟨rfl, rfl⟩ := hf
    exact Good.value (E' := E) (by simp [execOp, hop]) h (hev _ _).1 (hev _ _).2
  · rename_i x hop
    simp only [P2, Option.some.injEq, Prod.mk.injEq] at hf
    obtain ⟨rfl, rfl⟩ := hf
    exact Good.value (E' := E) (by simp [execOp, hop]) h (hev _ _).1 (hev _ _).2
  · rename_i c x y hop
    split at hf
    · rename_i b hb
      have hcb : a.eval c = .bool b := Rep1.bool.1 (hp1 hb rfl).1
      cases b <;> simp only [cond_true, cond_false, P2, Option.some.injEq, Prod.mk.injEq] at hf <;> obtain ⟨rfl, rfl⟩ := hf
      · exact Good.value (E' := E) (x := a.eval y) (by simp [execOp, hop, hcb, asBool]) h (hev _ _).1 (hev _ _).2
      · exact Good.value (E' := E) (x := a.eval x) (by simp [execOp, hop, hcb, asBool]) h (hev _ _).1 (hev _ _).2
    · cases hf
  · rename_i t hop
    split at hf
    · rename_i d z hd hz
      split at hf
      · rename_i hk
        simp only [P2, Option.some.injEq, Prod.mk.injEq] at hf
        obtain ⟨rfl, rfl⟩ := hf
        simp only [Bool.and_eq_true] at hk
        exact good_alloc h hop ⟨by simpa using hk.1, Nat.le_add_left _ _⟩ hk.2
      · cases hf
    · cases hf
  · rename_i t x hop
    split at hf
    · rename_i d hd
      split at hf
      · rename_i hk
        simp only [P2, Option.some.injEq, Prod.mk.injEq] at hf
        obtain ⟨rfl, rfl⟩ := hf
        simp only [Bool.and_eq_true] at hk
        exact good_box h hop ⟨by simpa using hk.1, Nat.le_add_left _ _⟩ (hp1 rfl hk.2).1 (hp1 rfl hk.2).2
      · cases hf
    · cases hf
  · rename_i t parts hop
    split at hf
    · rename_i z hz
      split at hf
      · rename_i hk
        rw [partsK_eq] at hf
        cases hps : partsK cx.P t z (parts.toList.map fun p => (p.1, ev cx env 0 p.2)) some with
        | none => rw [hps] at hf; cases hf
        | some u =>
          rw [hps] at hf
          simp only [Option.bind_some, P2, Option.some.injEq, Prod.mk.injEq] at hf
          obtain ⟨rfl, rfl⟩ := hf
          simp only [Bool.and_eq_true] at hk
          exact good_build hc hG h hop hk.1.1 hk.1.2 hk.2 hps
      · cases hf
    · cases hf
  · rename_i t n parts hop
    split at hf
    · rename_i d e hd hu
      split at hf
      · rename_i hdn
        split at hf
        · rename_i s hs
          split at hf
          · rename_i hn
            split at hf
            · rename_i l hl
              simp only [P2, Option.some.injEq, Prod.mk.injEq] at hf
              obtain ⟨rfl, rfl⟩ := hf
              exact good_buildSlice h hc hG hop hu ⟨by simpa using hdn, Nat.le_add_left _ _⟩ hs (Nat.le_of_ble_eq_true hn) hl
            · split at hf
              · rename_i z hz
                split at hf
                · rename_i hk
                  simp only [Bool.and_eq_true] at hk
                  split at hf
                  · rename_i l hl
                    simp only [P2, Option.some.injEq, Prod.mk.injEq] at hf
                    obtain ⟨rfl, rfl⟩ := hf
                    exact good_buildSliceV h hc hG hop hu ⟨by simpa using hdn, Nat.le_add_left _ _⟩ hs (Nat.le_of_ble_eq_true hn) (Nat.eq_of_beq_eq_true hk.1.2) hk.1.1 (Nat.eq_of_beq_eq_true hk.2) hl
                  · cases hf
                · cases hf
              · cases hf
          · cases hf
        · cases hf
      · cases hf
    · cases hf
  · rename_i t x y hop
    split at hf
    · rename_i d e hd hu
      split at hf
      · rename_i hdn
        split at hf
        · rename_i s b n c hs hb hx hy
          cases h0 : decide (0 ≤ n)
          · rw [h0] at hf; cases hf
          · rw [h0] at hf
            simp only [cond_true] at hf
            cases h1 : decide (n ≤ c)
            · rw [h1] at hf; cases hf
            · rw [h1] at hf
              simp only [cond_true] at hf
              cases h2 : roomB b c.toNat
              · rw [h2] at hf; cases hf
              · rw [h2] at hf
                simp only [cond_true] at hf
                have hx' : a.eval x = .int .i64 n := Rep1.int.1 (hp1 hx rfl).1
                have hy' : a.eval y = .int .i64 c := Rep1.int.1 (hp1 hy rfl).1
                split at hf
                · rename_i hsame
                  simp only [P2, Option.some.injEq, Prod.mk.injEq] at hf
                  obtain ⟨rfl, rfl⟩ := hf
                  have hxy : x = y := by
                    unfold opK.sameOp at hsame
                    split at hsame
                    · rw [Nat.eq_of_beq_eq_true hsame]
                    · cases hsame
                  subst hxy
                  have hnc : n = c := by rw [hx'] at hy'; cases hy'; rfl
                  subst hnc
                  exact good_makeSlice h hop hu ⟨by simpa using hdn, Nat.le_add_left _ _⟩ hs hb hx' hy' (of_decide_eq_true h0) (of_decide_eq_true h1) h2 (.inl ⟨rfl, rfl⟩)
                · simp only [P2, Option.some.injEq, Prod.mk.injEq] at hf
                  obtain ⟨rfl, rfl⟩ := hf
                  exact good_makeSlice h hop hu ⟨by simpa using hdn, Nat.le_add_left _ _⟩ hs hb hx' hy' (of_decide_eq_true h0) (of_decide_eq_true h1) h2 (.inr rfl)
        · cases hf
      · cases hf
    · cases hf
  · rename_i t x hop
    split at hf
    · rename_i n p hx
      split at hf
      · rename_i c hc'
        rw [getB_eq] at hf
        cases hg : gett c p with
        | none => rw [hg] at hf; cases hf
        | some u =>
          rw [hg] at hf
          simp only [Option.bind_some] at hf
          split at hf
          · rename_i hft
            simp only [P2, Option.some.injEq, Prod.mk.injEq] at hf
            obtain ⟨rfl, rfl⟩ := hf
            exact good_load h hop (hp1o hx rfl).1 hc' hg hft
          · cases hf
      · cases hf
    · rename_i fr u hx
      split at hf
      · rename_i hft
        simp only [P2, Option.some.injEq, Prod.mk.injEq] at hf
        obtain ⟨rfl, rfl⟩ := hf
        exact good_load_pim h hop (hp1o hx rfl).1 (by have := (hp1o hx rfl).2; simpa [AV.named] using this) hft
      · cases hf
    · rename_i ok u hx
      cases ok
      · cases hf
      · simp only [cond_true] at hf
        split at hf
        · rename_i hft
          simp only [P2, Option.some.injEq, Prod.mk.injEq] at hf
          obtain ⟨rfl, rfl⟩ := hf
          exact good_load_pim h hop (pimq_pim (hp1o hx rfl).1) (by have := (hp1o hx rfl).2; simpa [AV.named] using this) hft
        · cases hf
    · cases hf
  · rename_i t x y hop
    split at hf
    · rename_i n p hx
      split at hf
      · rename_i c hc'
        split at hf
        · rename_i hft0
          simp only [Bool.and_eq_true, Bool.not_eq_true'] at hft0
          have hft := hft0.1
          rw [setB_eq] at hf
          cases hs : sett c p (ev cx env t y) with
          | none => rw [hs] at hf; cases hf
          | some c' =>
            rw [hs] at hf
            simp only [Option.bind_some, P2, Option.some.injEq, Prod.mk.injEq] at hf
            obtain ⟨rfl, rfl⟩ := hf
            have hy := hp1 (t := t) (x := y) rfl (fitsT_spec hft).2.2
            exact good_store (hfr := hft0.2) h hop (hp1 hx rfl).1 hy.1 hy.2 hc' hs hft
        · cases hf
      · cases hf
    · cases hf
  · rename_i x hop
    split at hf
    · rename_i n p hx
      simp only [P2, Option.some.injEq, Prod.mk.injEq] at hf
      obtain ⟨rfl, rfl⟩ := hf
      have := hp1o hx rfl
      have e := Rep1.ptr.1 this.1
      exact Good.value (E' := E) (x := a.eval x) (by simp [execOp, hop, e]) h this.1 this.2
    · rename_i fr u hx
      simp only [P2, Option.some.injEq, Prod.mk.injEq] at hf
      obtain ⟨rfl, rfl⟩ := hf
      have := hp1o hx rfl
      obtain ⟨b, off, ys, e, _⟩ := pim_inv this.1
      exact Good.value (E' := E) (x := a.eval x) (by simp [execOp, hop, e]) h this.1 this.2
    · rename_i ok u hx
      cases ok
      · cases hf
      · simp only [cond_true, P2, Option.some.injEq, Prod.mk.injEq] at hf
        obtain ⟨rfl, rfl⟩ := hf
        have h1 := hp1o hx rfl
        have h2 := pimq_pim h1.1
        obtain ⟨b, off, ys, e, _⟩ := pim_inv h2
        exact Good.value (E' := E) (x := a.eval x) (by simp [execOp, hop, e]) h h2 (by simpa [AV.named, updH_nil] using h1.2)
    · cases hf
  · rename_i op t x y yt hop
    rw [binK_eq] at hf
    cases hb : binK cx.P op t (ev cx env 0 x) (ev cx env 0 y) some with
    | none => rw [hb] at hf; cases hf
    | some u =>
      rw [hb] at hf
      simp only [Option.bind_some, P2, Option.some.injEq, Prod.mk.injEq] at hf
      obtain ⟨rfl, rfl⟩ := hf
      obtain ⟨z, h1, h2, h3, h4⟩ := binK_run (w := w) hb (hev 0 x).1 (hev 0 y).1 x y
      refine Good.value (E' := E) (x := z) (w' := w) ?_ h ((Rep.one h3).2 h2) (h4 _)
      simp only [execOp, hop, Sem.run_bind] at h1 ⊢
      rw [h1]; rfl
  · rename_i op t x hop
    rw [unK_eq] at hf
    cases hb : unK op (ev cx env 0 x) some with
    | none => rw [hb] at hf; cases hf
    | some u =>
      rw [hb] at hf
      simp only [Option.bind_some, P2, Option.some.injEq, Prod.mk.injEq] at hf
      obtain ⟨rfl, rfl⟩ := hf
      obtain ⟨z, h1, h2, h3, h4⟩ := unK_run (P := cx.P) (w := w) hb (hev 0 x).1
      refine Good.value (E' := E) (x := z) (w' := w) ?_ h ((Rep.one h3).2 h2) (h4 _)
      simp [execOp, hop, h1]
  · rename_i s d x hop
    split at hf
    · rename_i ds kd n k hs hd hx
      simp only [P2, Option.some.injEq, Prod.mk.injEq] at hf
      obtain ⟨rfl, rfl⟩ := hf
      have e := Rep1.int.1 (hp1 hx rfl).1
      refine Good.value (E' := E) (x := .int kd (kd.wrap k)) (w' := w) ?_ h (Rep1.int.2 rfl) (by simp [AV.named])
      simp [execOp, hop, convert, run_underlying hs, run_underlying hd, e, Conv.intToInt]
    · rename_i e l hs hd hx
      split at hf
      · rename_i he
        simp only [P2, Option.some.injEq, Prod.mk.injEq] at hf
        obtain ⟨rfl, rfl⟩ := hf
        exact good_bytesOf h hop hs hd he (hp1 hx rfl).1
      · cases hf
    · rename_i e hs hd
      split at hf
      · rename_i he
        rw [listK0_eq] at hf
        cases hl : listF0 hp (ev cx env 0 x) with
        | none => rw [hl] at hf; cases hf
        | some q =>
          rw [hl] at hf
          simp only [Option.bind_some] at hf
          obtain ⟨qs, ql⟩ := q
          cases qs with
          | int kq =>
            cases kq with
            | u8 =>
              simp only [P2, Option.some.injEq, Prod.mk.injEq] at hf
              obtain ⟨rfl, rfl⟩ := hf
              exact good_strOf h hop hs hd he hl (hev 0 x).1
            | _ => cases hf
          | _ => cases hf
      · cases hf
    · cases hf
  · rename_i s x f hop
    split at hf
    · rename_i fs hu
      split at hf
      · rename_i fd n p hfd hx
        split at hf
        · cases hf
        · rename_i hs
          simp only [P2, Option.some.injEq, Prod.mk.injEq] at hf
          obtain ⟨rfl, rfl⟩ := hf
          exact good_fieldAddr h hop hu hfd hs (hp1o hx rfl).1 (own_someO h hc hG hx)
      · rename_i fd fr u hfd hx
        split at hf
        · cases hf
        · rename_i hs
          rw [getK_eq] at hf
          cases hg : get u [.fld f fd.offset] with
          | none => rw [hg] at hf; cases hf
          | some u' =>
            rw [hg] at hf
            simp only [Option.bind_some, P2, Option.some.injEq, Prod.mk.injEq] at hf
            obtain ⟨rfl, rfl⟩ := hf
            exact good_fieldAddr_pim h hop hu hfd hs (hp1o hx rfl).1 (by have := (hp1o hx rfl).2; simpa [AV.named] using this) hg
      · rename_i fd ok u hfd hx
        cases ok
        · cases hf
        · simp only [cond_true] at hf
          split at hf
          · cases hf
          · rename_i hs
            rw [getK_eq] at hf
            cases hg : get u [.fld f fd.offset] with
            | none => rw [hg] at hf; cases hf
            | some u' =>
              rw [hg] at hf
              simp only [Option.bind_some, P2, Option.some.injEq, Prod.mk.injEq] at hf
              obtain ⟨rfl, rfl⟩ := hf
              exact good_fieldAddr_pim h hop hu hfd hs (pimq_pim (hp1o hx rfl).1) (by have := (hp1o hx rfl).2; simpa [AV.named] using this) hg
      · cases hf
    · cases hf
  · rename_i t x f hop
    split at hf
    · rename_i fs hu
      split at hf
      · rename_i fd hfd
        rw [getK_eq] at hf
        cases hg : get (ev cx env 0 x) [.fld f fd.offset] with
        | none => rw [hg] at hf; cases hf
        | some u =>
          rw [hg] at hf
          simp only [Option.bind_some] at hf
          split at hf
          · rename_i hft
            simp only [P2, Option.some.injEq, Prod.mk.injEq] at hf
            obtain ⟨rfl, rfl⟩ := hf
            have hpl : (ev cx env 0 x).plain = true := get_plain hg
            have := hp1 (t := 0) (x := x) rfl hpl
            exact good_field h hop hu hfd this.1 this.2 hg hft
          · cases hf
      · cases hf
    · cases hf
  · rename_i t x i hop
    split at hf
    · rename_i k j hi
      have hij : a.eval i = .int k j := Rep1.int.1 (hp1 hi rfl).1
      cases h0 : decide (0 ≤ j)
      · rw [h0] at hf; cases hf
      · rw [h0] at hf
        simp only [cond_true] at hf
        have h0' : 0 ≤ j := by simpa using h0
        split at hf
        · rename_i n e hu
          cases hb : Nat.blt j.toNat n
          · rw [hb] at hf; cases hf
          · rw [hb] at hf
            simp only [cond_true] at hf
            have hb' : j.toNat < n := by simpa using hb
            split at hf
            · rename_i sz hs
              split at hf
              · rename_i m p hx
                simp only [P2, Option.some.injEq, Prod.mk.injEq] at hf
                obtain ⟨rfl, rfl⟩ := hf
                exact good_indexAddr h hop hu hij h0' hb' hs (hp1 hx rfl).1 (own_some h hc hG hx)
              · rename_i fr u hx
                rw [getK_eq] at hf
                cases hg : get u [.idx j.toNat sz] with
                | none => rw [hg] at hf; cases hf
                | some u' =>
                  rw [hg] at hf
                  simp only [Option.bind_some, P2, Option.some.injEq, Prod.mk.injEq] at hf
                  obtain ⟨rfl, rfl⟩ := hf
                  exact good_indexAddr_pim h hop hu hij h0' hb' hs (hp1 hx rfl).1 (by have := (hp1 hx rfl).2; simpa [AV.named] using this) hg
              · cases hf
            · cases hf
        · rename_i e hu
          split at hf
          · rename_i sz hs
            split at hf
            · rename_i m p s i0 len cap hx
              split at hf
              · rename_i hsz
                cases hb : Nat.blt j.toNat len
                · rw [hb] at hf; cases hf
                · rw [hb] at hf
                  simp only [cond_true, P2, Option.some.injEq, Prod.mk.injEq] at hf
                  obtain ⟨rfl, rfl⟩ := hf
                  have hb' : j.toNat < len := by simpa using hb
                  exact good_indexAddr_sl h hop hu hij h0' hb' hs hsz (hp1 hx rfl).1 (by have := (hp1 hx rfl).2; simpa [AV.named] using this)
              · cases hf
            · rename_i m s hx
              split at hf
              · rename_i s' l hm
                split at hf
                · rename_i hsz
                  cases hb : Nat.blt j.toNat l.length
                  · rw [hb] at hf; cases hf
                  · rw [hb] at hf
                    simp only [cond_true, P2, Option.some.injEq, Prod.mk.injEq] at hf
                    obtain ⟨rfl, rfl⟩ := hf
                    have hb' : j.toNat < l.length := by simpa using hb
                    exact good_indexAddr_own h hop hu hij h0' hm hb' hs (hp1 hx rfl).1
                · cases hf
              · cases hf
            · rename_i m s i0 len hx
              split at hf
              · rename_i hsz
                cases hb : Nat.blt j.toNat len
                · rw [hb] at hf; cases hf
                · rw [hb] at hf
                  simp only [cond_true, P2, Option.some.injEq, Prod.mk.injEq] at hf
                  obtain ⟨rfl, rfl⟩ := hf
                  have hb' : j.toNat < len := by simpa using hb
                  exact good_indexAddr_osl h hop hu hij h0' hb' hs hsz (hp1 hx rfl).1 (by have := (hp1 hx rfl).2; simpa [AV.named] using this)
              · cases hf
            · rename_i fr s l hx
              split at hf
              · rename_i hsz
                cases hb : Nat.blt j.toNat l.length
                · rw [hb] at hf; cases hf
                · rw [hb] at hf
                  simp only [cond_true, P2, Option.some.injEq, Prod.mk.injEq] at hf
                  obtain ⟨rfl, rfl⟩ := hf
                  have hb' : j.toNat < l.length := by simpa using hb
                  exact good_indexAddr_isl h hop hu hij h0' hb' hs hsz (hp1 hx rfl).1
              · cases hf
            · rename_i fr s l n hx
              split at hf
              · rename_i hsz
                cases hb : (Nat.blt j.toNat n && Nat.ble n l.length)
                · rw [hb] at hf; cases hf
                · rw [hb] at hf
                  simp only [cond_true, P2, Option.some.injEq, Prod.mk.injEq] at hf
                  obtain ⟨rfl, rfl⟩ := hf
                  simp only [Bool.and_eq_true] at hb
                  exact good_indexAddr_isw h hop hu hij h0' (by simpa using hb.1) (Nat.le_of_ble_eq_true hb.2) hs hsz (hp1 hx rfl).1
              · cases hf
            · cases hf
          · cases hf
        · cases hf
    · cases hf
  · rename_i t x i hop
    split at hf
    · rename_i k j hi
      have hij : a.eval i = .int k j := Rep1.int.1 (hp1 hi rfl).1
      cases h0 : decide (0 ≤ j)
      · rw [h0] at hf; cases hf
      · rw [h0] at hf
        simp only [cond_true] at hf
        have h0' : 0 ≤ j := by simpa using h0
        split at hf
        · rename_i n e hu
          cases hb : Nat.blt j.toNat n
          · rw [hb] at hf; cases hf
          · rw [hb] at hf
            simp only [cond_true] at hf
            have hb' : j.toNat < n := by simpa using hb
            split at hf
            · rename_i sz hs
              rw [getK_eq] at hf
              cases hg : get (ev cx env 0 x) [.idx j.toNat sz] with
              | none => rw [hg] at hf; cases hf
              | some u =>
                rw [hg] at hf
                simp only [Option.bind_some] at hf
                split at hf
                · rename_i hft
                  simp only [P2, Option.some.injEq, Prod.mk.injEq] at hf
                  obtain ⟨rfl, rfl⟩ := hf
                  have hpl : (ev cx env 0 x).plain = true := get_plain hg
                  have := hp1 (t := 0) (x := x) rfl hpl
                  exact good_index h hop hu hij h0' hb' hs this.1 this.2 hg hft
                · cases hf
            · cases hf
        · rename_i hu
          split at hf
          · rename_i l hx
            cases hb : Nat.blt j.toNat l.length
            · rw [hb] at hf; cases hf
            · rw [hb] at hf
              simp only [cond_true, P2, Option.some.injEq, Prod.mk.injEq] at hf
              obtain ⟨rfl, rfl⟩ := hf
              have hb' : j.toNat < l.length := by simpa using hb
              exact good_index_str h hop hu hij h0' hb' (hp1 hx rfl).1
          · cases hf
        · cases hf
    · cases hf
  · rename_i x i hop
    split at hf
    · rename_i l hx
      split at hf
      · rename_i u hi
        simp only [P2, Option.some.injEq, Prod.mk.injEq] at hf
        obtain ⟨rfl, rfl⟩ := hf
        have := hev 0 x
        rw [hx] at this
        exact good_extract h hop this.1 (by simpa [AV.named] using this.2) hi
      · cases hf
    · cases hf
  · rename_i t x lo hi hop
    split at hf
    · rename_i n e hu
      split at hf
      · rename_i s m p hs hx
        split at hf
        · rename_i hsz
          rw [boundK_eq] at hf
          cases h1 : boundK cx env hi n n some with
          | none => rw [h1] at hf; cases hf
          | some hh =>
            rw [h1] at hf
            simp only [Option.bind_some] at hf
            rw [boundK_eq] at hf
            cases h2 : boundK cx env lo 0 hh some with
            | none => rw [h2] at hf; cases hf
            | some l =>
              rw [h2] at hf
              simp only [Option.bind_some, P2, Option.some.injEq, Prod.mk.injEq] at hf
              obtain ⟨rfl, rfl⟩ := hf
              exact good_slice_arr hc hG h hop hu hsz (hp1 hx rfl).1 (own_some h hc hG hx) h1 h2
        · cases hf
      · cases hf
    · rename_i e hu
      split at hf
      · rename_i m p s i len cap hx
        split at hf
        · rename_i hsz
          rw [boundK_eq] at hf
          cases h1 : boundK cx env hi len cap some with
          | none => rw [h1] at hf; cases hf
          | some hh =>
            rw [h1] at hf
            simp only [Option.bind_some] at hf
            rw [boundK_eq] at hf
            cases h2 : boundK cx env lo 0 hh some with
            | none => rw [h2] at hf; cases hf
            | some l =>
              rw [h2] at hf
              simp only [Option.bind_some, P2, Option.some.injEq, Prod.mk.injEq] at hf
              obtain ⟨rfl, rfl⟩ := hf
              exact good_slice_sl hc hG h hop hu hsz (hp1 hx rfl).1 (by have := (hp1 hx rfl).2; simpa [AV.named] using this) h1 h2
        · cases hf
      · rename_i m s hx
        split at hf
        · rename_i s' l0 hm
          split at hf
          · rename_i hsz
            have hN : (hp m).isSome = true := by rw [hm]; rfl
            have fin : ∀ {v δ}, (boundK cx env hi l0.length l0.length fun h => boundK cx env lo 0 h fun l => P2 (.osl m s l (h - l)) []) = some (v, δ) → Good cx.P o w0 N env hp v δ a w := by
              intro v δ hf
              rw [boundK_eq] at hf
              cases h1 : boundK cx env hi l0.length l0.length some with
              | none => rw [h1] at hf; cases hf
              | some hh =>
                rw [h1] at hf
                simp only [Option.bind_some] at hf
                rw [boundK_eq] at hf
                cases h2 : boundK cx env lo 0 hh some with
                | none => rw [h2] at hf; cases hf
                | some l =>
                  rw [h2] at hf
                  simp only [Option.bind_some, P2, Option.some.injEq, Prod.mk.injEq] at hf
                  obtain ⟨rfl, rfl⟩ := hf
                  exact good_slice_own hc hG h hop hu hsz.1 hsz.2 (hp1 hx rfl).1 hm h1 h2
            split at hf
            · simp only [P2, Option.some.injEq, Prod.mk.injEq] at hf
              obtain ⟨rfl, rfl⟩ := hf
              exact good_slice_whole h hop hu hsz.1 (hp1 hx rfl).1 hN
            · exact fin hf
          · cases hf
        · cases hf
      · rename_i m s i len hx
        split at hf
        · rename_i s' l0 hm
          split at hf
          · rename_i hsz
            rw [boundK_eq] at hf
            cases h1 : boundK cx env hi len (l0.length - i) some with
            | none => rw [h1] at hf; cases hf
            | some hh =>
              rw [h1] at hf
              simp only [Option.bind_some] at hf
              rw [boundK_eq] at hf
              cases h2 : boundK cx env lo 0 hh some with
              | none => rw [h2] at hf; cases hf
              | some l =>
                rw [h2] at hf
                simp only [Option.bind_some, P2, Option.some.injEq, Prod.mk.injEq] at hf
                obtain ⟨rfl, rfl⟩ := hf
                exact good_slice_osl hc hG h hop hu hsz.1 hsz.2 (hp1 hx rfl).1 hm h1 h2
          · cases hf
        · cases hf
      · rename_i fr s l0 hx
        split at hf
        · rename_i hsz
          rw [boundK_eq] at hf
          cases h1 : boundK cx env hi l0.length l0.length some with
          | none => rw [h1] at hf; cases hf
          | some hh =>
            rw [h1] at hf
            simp only [Option.bind_some] at hf
            rw [boundK_eq] at hf
            cases h2 : boundK cx env lo 0 hh some with
            | none => rw [h2] at hf; cases hf
            | some l =>
              rw [h2] at hf
              simp only [Option.bind_some, P2, Option.some.injEq, Prod.mk.injEq] at hf
              obtain ⟨rfl, rfl⟩ := hf
              exact good_slice_isl hc hG h hop hu hsz (hp1 hx rfl).1 h1 h2
        · cases hf
      · rename_i fr s l0 n hx
        split at hf
        · rename_i hsz
          rw [boundK_eq] at hf
          cases h1 : boundK cx env hi n l0.length some with
          | none => rw [h1] at hf; cases hf
          | some hh =>
            rw [h1] at hf
            simp only [Option.bind_some] at hf
            rw [boundK_eq] at hf
            cases h2 : boundK cx env lo 0 hh some with
            | none => rw [h2] at hf; cases hf
            | some l =>
              rw [h2] at hf
              simp only [Option.bind_some, P2, Option.some.injEq, Prod.mk.injEq] at hf
              obtain ⟨rfl, rfl⟩ := hf
              exact good_slice_isw hc hG h hop hu hsz (hp1 hx rfl).1 h1 h2
        · cases hf
      · cases hf
    · rename_i hu
      split at hf
      · rename_i l0 hx
        rw [boundK_eq] at hf
        cases h1 : boundK cx env hi l0.length l0.length some with
        | none => rw [h1] at hf; cases hf
        | some hh =>
          rw [h1] at hf
          simp only [Option.bind_some] at hf
          rw [boundK_eq] at hf
          cases h2 : boundK cx env lo 0 hh some with
          | none => rw [h2] at hf; cases hf
          | some l =>
            rw [h2] at hf
            simp only [Option.bind_some, P2, Option.some.injEq, Prod.mk.injEq] at hf
            obtain ⟨rfl, rfl⟩ := hf
            exact good_slice_str hc hG h hop hu (hp1 hx rfl).1 h1 h2
      · cases hf
    · cases hf
  · rename_i c hop
    split at hf
    · rename_i fop hcal
      split at hf
      · rename_i g caps hg
        have := (hp1 hg rfl).1.cells1 rfl
        simp only [RepC] at this
        obtain ⟨vs, e, hvs⟩ := this
        simp at e
        split at hf
        · rename_i hcp
          exact good_call hc hG h hop hcal e hcp (by simpa using hvs) hf
        · cases hf
      · cases hf
    · rename_i hcal
      have hargs : ∀ {l : List AV}, c.args.toList.map (ev cx env 0) = l → ∀ (i : Nat) (v : AV), l[i]? = some v → ∃ x, c.args[i]? = some x ∧ ev cx env 0 x = v := by
        intro l hl i v hv
        rw [← hl, List.getElem?_map] at hv
        cases hq : c.args.toList[i]? with
        | none => rw [hq] at hv; cases hv
        | some x => rw [hq] at hv; simp at hv; exact ⟨x, by simpa using hq, hv⟩
      have hrun : ∀ {n : Int} {T : TypeId}, c.argTypes[0]? = some T → (∀ x, c.args[0]? = some x → (Builtin.len_ c.argTypes o.type (c.args.map a.eval)).run cx.P w = .ok (goInt n) w) → (∃ x, c.args[0]? = some x) → Good cx.P o w0 N env hp (.int .i64 n) [] a w := by
        intro n T hT hr ⟨x, hx⟩
        refine Good.value (E' := E) (x := goInt n) (w' := w) ?_ h (Rep1.int.2 rfl) (by simp [AV.named])
        simp [execOp, hop, resolve, hcal, invoke, builtin, hr x hx]
      split at hf
      · rename_i m p s i len cap e hl hT
        simp only [P2, Option.some.injEq, Prod.mk.injEq] at hf
        obtain ⟨rfl, rfl⟩ := hf
        obtain ⟨x, hx, hex⟩ := hargs hl 0 _ rfl
        obtain ⟨T, hT1, hT2⟩ := Option.bind_eq_some_iff.1 hT
        have hr := (hp1 hex rfl).1.cells1 rfl
        simp only [RepC] at hr
        obtain ⟨_, off, e1, _⟩ := hr
        simp at e1
        refine hrun hT1 (fun y hy => ?_) ⟨x, hx⟩
        rw [hx] at hy; cases hy
        simp [Builtin.len_, hT1, hx, run_underlying hT2, e1]
      · rename_i m s i len e hl hT
        simp only [P2, Option.some.injEq, Prod.mk.injEq] at hf
        obtain ⟨rfl, rfl⟩ := hf
        obtain ⟨x, hx, hex⟩ := hargs hl 0 _ rfl
        obtain ⟨T, hT1, hT2⟩ := Option.bind_eq_some_iff.1 hT
        have e1 : ∃ ad cap, a.eval x = .slice ad len cap := by
          rcases osl_inv (hp1 hex rfl).1 with ⟨_, h2, h3⟩ | ⟨off, cap, h3, _⟩
          · exact ⟨_, _, by rw [h3, h2]⟩
          · exact ⟨_, _, h3⟩
        obtain ⟨ad, cap, e1⟩ := e1
        refine hrun hT1 (fun y hy => ?_) ⟨x, hx⟩
        rw [hx] at hy; cases hy
        simp [Builtin.len_, hT1, hx, run_underlying hT2, e1]
      · rename_i m s e hl hT
        split at hf
        · rename_i s' l hm
          split at hf
          · rename_i hss
            simp only [P2, Option.some.injEq, Prod.mk.injEq] at hf
            obtain ⟨rfl, rfl⟩ := hf
            obtain ⟨x, hx, hex⟩ := hargs hl 0 _ rfl
            obtain ⟨T, hT1, hT2⟩ := Option.bind_eq_some_iff.1 hT
            have e1 : ∃ ad cap, a.eval x = .slice ad l.length cap := by
              rcases own_inv h hm (hp1 hex rfl).1 with ⟨h2, _, h3⟩ | ⟨off, cap, h3, _⟩
              · exact ⟨_, _, by rw [h3, h2]; rfl⟩
              · exact ⟨_, _, h3⟩
            obtain ⟨ad, cap, e1⟩ := e1
            refine hrun hT1 (fun y hy => ?_) ⟨x, hx⟩
            rw [hx] at hy; cases hy
            simp [Builtin.len_, hT1, hx, run_underlying hT2, e1]
          · cases hf
        · rename_i mm hm
          simp only [P2, Option.some.injEq, Prod.mk.injEq] at hf
          obtain ⟨rfl, rfl⟩ := hf
          obtain ⟨x, hx, hex⟩ := hargs hl 0 _ rfl
          obtain ⟨T, hT1, hT2⟩ := Option.bind_eq_some_iff.1 hT
          have e1 : ∃ ad cap, a.eval x = .slice ad (E.len m) cap := by
            have hr := (hp1 hex rfl).1.cells1 rfl
            simp only [RepC] at hr
            obtain ⟨y, e0, ⟨_, h2, h3⟩ | ⟨off, cap, h3, _⟩⟩ := hr
            · simp at e0; exact ⟨_, _, by rw [e0, h3, h2]⟩
            · simp at e0; exact ⟨_, _, by rw [e0, h3]⟩
          obtain ⟨ad, cap, e1⟩ := e1
          rw [h.gone m mm hm]
          refine hrun hT1 (fun y hy => ?_) ⟨x, hx⟩
          rw [hx] at hy; cases hy
          simp [Builtin.len_, hT1, hx, run_underlying hT2, e1]
        · cases hf
      · rename_i fr s l e hl hT
        simp only [P2, Option.some.injEq, Prod.mk.injEq] at hf
        obtain ⟨rfl, rfl⟩ := hf
        obtain ⟨x, hx, hex⟩ := hargs hl 0 _ rfl
        obtain ⟨T, hT1, hT2⟩ := Option.bind_eq_some_iff.1 hT
        have hr := (hp1 hex rfl).1.cells1 rfl
        simp only [RepC] at hr
        obtain ⟨y, ys, e1, _, ad, len, cap, e2, e3, _⟩ := hr
        simp at e1
        refine hrun hT1 (fun y' hy => ?_) ⟨x, hx⟩
        rw [hx] at hy; cases hy
        simp [Builtin.len_, hT1, hx, run_underlying hT2, e1, e2, e3]
      · rename_i fr s l n e hl hT
        simp only [P2, Option.some.injEq, Prod.mk.injEq] at hf
        obtain ⟨rfl, rfl⟩ := hf
        obtain ⟨x, hx, hex⟩ := hargs hl 0 _ rfl
        obtain ⟨T, hT1, hT2⟩ := Option.bind_eq_some_iff.1 hT
        have hr := (hp1 hex rfl).1.cells1 rfl
        simp only [RepC] at hr
        obtain ⟨y, ys, e1, _, ad, cap, e2, _⟩ := hr
        simp at e1
        refine hrun hT1 (fun y' hy => ?_) ⟨x, hx⟩
        rw [hx] at hy; cases hy
        simp [Builtin.len_, hT1, hx, run_underlying hT2, e1, e2]
      · rename_i s e hl hT
        simp only [P2, Option.some.injEq, Prod.mk.injEq] at hf
        obtain ⟨rfl, rfl⟩ := hf
        obtain ⟨x, hx, hex⟩ := hargs hl 0 _ rfl
        obtain ⟨T, hT1, hT2⟩ := Option.bind_eq_some_iff.1 hT
        have hr := (hp1 hex rfl).1.cells1 rfl
        simp only [RepC] at hr
        simp at hr
        refine hrun hT1 (fun y hy => ?_) ⟨x, hx⟩
        rw [hx] at hy; cases hy
        simp [Builtin.len_, hT1, hx, run_underlying hT2, hr]
      · rename_i l hl hT
        simp only [P2, Option.some.injEq, Prod.mk.injEq] at hf
        obtain ⟨rfl, rfl⟩ := hf
        obtain ⟨x, hx, hex⟩ := hargs hl 0 _ rfl
        obtain ⟨T, hT1, hT2⟩ := Option.bind_eq_some_iff.1 hT
        have hr := (hp1 hex rfl).1.cells1 rfl
        simp only [RepC] at hr
        simp at hr
        refine hrun hT1 (fun y hy => ?_) ⟨x, hx⟩
        rw [hx] at hy; cases hy
        have hsz : (⟨l.toArray⟩ : ByteArray).size = l.length := by simp [ByteArray.size]
        simp [Builtin.len_, hT1, hx, run_underlying hT2, hr, hsz]
      · rename_i n e _ _ hT
        split at hf
        · rename_i _ x hx
          simp only [P2, Option.some.injEq, Prod.mk.injEq] at hf
          obtain ⟨rfl, rfl⟩ := hf
          obtain ⟨T, hT1, hT2⟩ := Option.bind_eq_some_iff.1 hT
          refine hrun hT1 (fun y hy => ?_) ⟨x, hx⟩
          rw [hx] at hy; cases hy
          simp [Builtin.len_, hT1, hx, run_underlying hT2]
        · cases hf
      · cases hf
    · rename_i hcal
      split at hf
      · rename_i d s e hl hT
        split at hf
        · rename_i hsz
          obtain ⟨T, hT1, hT2⟩ := Option.bind_eq_some_iff.1 hT
          obtain ⟨x, y, hxy⟩ : ∃ x y, c.args = #[x, y] := by
            have hlen := congrArg List.length hl
            simp at hlen
            match hq : c.args, hlen with
            | ⟨[x, y]⟩, _ => exact ⟨x, y, rfl⟩
          rw [hxy] at hl
          simp at hl
          obtain ⟨h1, h2⟩ := hl
          have hd := (hev 0 x).1
          have hs := (hev 0 y).1
          rw [h1] at hd
          rw [h2] at hs
          unfold copyK at hf
          split at hf
          · rename_i n s0
            simp only [opK.sliceSh, Option.map_some] at hsz
            rw [listK0_eq] at hf
            cases hq : listF0 hp s with
            | none => rw [hq] at hf; cases hf
            | some q =>
              rw [hq] at hf
              simp only [Option.bind_some] at hf
              split at hf
              · rename_i s2 l hm
                split at hf
                · rename_i hss
                  simp only [Bool.and_eq_true, Bool.not_eq_true'] at hss
                  simp only [Option.bind_eq_some_iff] at hf
                  obtain ⟨ys, hys, hf⟩ := hf
                  simp only [P2, Option.some.injEq, Prod.mk.injEq] at hf
                  obtain ⟨rfl, rfl⟩ := hf
                  exact good_copy_row (hfr := hss.2) h hop hcal hxy hT1 hT2 hsz hd hs hq (.inl ⟨rfl, rfl, rfl⟩) hm hss.1 hys (by omega)
                · cases hf
              · cases hf
          · rename_i n s0 i len
            simp only [opK.sliceSh, Option.map_some] at hsz
            rw [listK0_eq] at hf
            cases hq : listF0 hp s with
            | none => rw [hq] at hf; cases hf
            | some q =>
              rw [hq] at hf
              simp only [Option.bind_some] at hf
              split at hf
              · rename_i s2 l hm
                split at hf
                · rename_i hss
                  simp only [Bool.and_eq_true, Bool.not_eq_true'] at hss
                  simp only [Option.bind_eq_some_iff] at hf
                  obtain ⟨ys, hys, hf⟩ := hf
                  cases hb : Nat.ble (i + len) l.length
                  · rw [hb] at hf; cases hf
                  · rw [hb] at hf
                    simp only [cond_true, P2, Option.some.injEq, Prod.mk.injEq] at hf
                    obtain ⟨rfl, rfl⟩ := hf
                    exact good_copy_row (hfr := hss.2) h hop hcal hxy hT1 hT2 hsz hd hs hq (.inr rfl) hm hss.1 hys (Nat.le_of_ble_eq_true hb)
                · cases hf
              · cases hf
          · rename_i n p kb i len cap
            simp only [opK.sliceSh, Option.map_some] at hsz
            rw [listK0_eq] at hf
            cases hq : listF0 hp s with
            | none => rw [hq] at hf; cases hf
            | some q =>
              rw [hq] at hf
              simp only [Option.bind_some] at hf
              obtain ⟨qs, ql⟩ := q
              simp only at hf
              split at hf
              · rename_i ka xs
                split at hf
                · rename_i hkk
                  obtain ⟨hkk, hfr⟩ := hkk
                  subst hkk
                  split at hf
                  · rename_i cc hcc
                    rw [getB_eq] at hf
                    cases hg : gett cc p with
                    | none => rw [hg] at hf; cases hf
                    | some u =>
                      rw [hg] at hf
                      simp only [Option.bind_some] at hf
                      split at hf
                      · rename_i kc m l hi
                        split at hf
                        · rename_i hkc
                          subst hkc
                          cases hb : (Nat.ble (i + len) m && intsFit u (spliceL l i ((xs : List Int).take len)))
                          · rw [hb] at hf; cases hf
                          · rw [hb] at hf
                            simp only [cond_true] at hf
                            rw [setB_eq] at hf
                            cases hset : sett cc p (intsTo u (spliceL l i ((xs : List Int).take len))) with
                            | none => rw [hset] at hf; cases hf
                            | some c' =>
                              rw [hset] at hf
                              simp only [Option.bind_some, P2, Option.some.injEq, Prod.mk.injEq] at hf
                              obtain ⟨rfl, rfl⟩ := hf
                              simp only [Bool.and_eq_true] at hb
                              exact good_copy_sl (hfr := hfr) h hop hcal hxy hT1 hT2 hsz hd hs hq hcc hg hi (Nat.le_of_ble_eq_true hb.1) hb.2 hset
                        · cases hf
                      · cases hf
                  · cases hf
                · cases hf
              · cases hf
          · cases hf
        · cases hf
      · cases hf
    · rename_i hcal
      split at hf
      · rename_i dd d s e e' hdst hl hT hT'
        split at hf
        · rename_i hk
          simp only [Bool.and_eq_true] at hk
          split at hf
          · rename_i b hb
            obtain ⟨T, hT1, hT2⟩ := Option.bind_eq_some_iff.1 hT
            obtain ⟨U, hU1, hU2⟩ := Option.bind_eq_some_iff.1 hT'
            obtain ⟨x, y, hxy⟩ : ∃ x y, c.args = #[x, y] := by
              have hlen := congrArg List.length hl
              simp at hlen
              match hq : c.args, hlen with
              | ⟨[x, y]⟩, _ => exact ⟨x, y, rfl⟩
            rw [hxy] at hl
            simp at hl
            obtain ⟨h1, h2⟩ := hl
            have hd := (hev (c.argTypes[0]?.getD 0) x).1
            have hs := (hev (c.argTypes[1]?.getD 0) y).1
            rw [h1] at hd
            rw [h2] at hs
            have hdn : NewN hp (apN d (freeN hp (dd + 1000))) := ⟨by simpa using hk.1.1, apN_big _ _ (freeN_big hp _ (Nat.le_add_left _ _))⟩
            have hsz2 := Nat.eq_of_beq_eq_true hk.2
            have htys : c.argTypes = #[T, U] := by
              match hq : c.argTypes, hsz2 with
              | ⟨[p, q]⟩, _ =>
                rw [hq] at hT1 hU1
                simp at hT1 hU1
                rw [hT1, hU1]
            have hargs2 : c.args.map a.eval = #[a.eval x, a.eval y] := by rw [hxy]; simp
            obtain ⟨s0, hs0, hsz0⟩ : ∃ s0, opK.sliceSh d = some s0 ∧ shapeZ cx.P e = some s0 := by
              have := hk.1.2
              unfold opK.appOK at this
              split at this
              · rename_i s1 s2 q1 q2
                have := shEq_eq' this
                subst this
                exact ⟨_, q1, q2⟩
              · cases this
            have hsh : ∀ {q : SL}, listF0 hp s = some q → Shown E hp w q.s q.l (a.eval y) := fun hq => listF0_shown h.toMem (fun _ _ h => h) hq hs
            unfold appendK at hf
            split at hf
            · rename_i s1
              simp only [opK.sliceSh, Option.some.injEq] at hs0
              subst hs0
              rw [listK0_eq] at hf
              cases hq : listF0 hp s with
              | none => rw [hq] at hf; cases hf
              | some q =>
                rw [hq] at hf
                simp only [Option.bind_some, Option.bind_eq_some_iff] at hf
                obtain ⟨ys, hys, hf⟩ := hf
                cases hr : roomB b ys.length
                · rw [hr] at hf; cases hf
                · rw [hr] at hf
                  simp only [cond_true, P2, Option.some.injEq, Prod.mk.injEq] at hf
                  obtain ⟨rfl, rfl⟩ := hf
                  obtain ⟨q1, q2⟩ := q
                  obtain ⟨e1, e2⟩ := castL_eq hys
                  simp only at e1 e2
                  subst e1; simp only at e2; subst e2
                  obtain ⟨yc, r1, r2, _⟩ := shown_src (P := cx.P) hU2 (hsh hq)
                  have hx0 := Rep1.cells1 (E := E) (v := .nsl s1) hd rfl
                  simp only [RepC] at hx0
                  simp at hx0
                  rw [hx0] at hargs2
                  rcases Nat.eq_zero_or_pos q2.length with h0 | h0
                  · have : q2 = [] := List.length_eq_zero_iff.1 h0
                    subst this
                    have hy : yc = [] := by simpa [RcL] using r1
                    subst hy
                    exact append_none h hop hcal htys hT2 hsz0 hdn hargs2 r2
                  · exact append_new (l := []) (lc := []) h hop hcal htys hT2 hsz0 hb hdn hargs2 (by simp [Builtin.firstCells]) rfl rfl r2 r1 (by omega) (by simpa using hr)
            · rename_i n s1
              simp only [opK.sliceSh, Option.some.injEq] at hs0
              subst hs0
              rw [listK0_eq] at hf
              cases hq : listF0 hp s with
              | none => rw [hq] at hf; cases hf
              | some q =>
                rw [hq] at hf
                simp only [Option.bind_some] at hf
                split at hf
                · rename_i s2 l hm
                  split at hf
                  · rename_i hss
                    have := shEq_eq' hss
                    subst this
                    simp only [Option.bind_eq_some_iff] at hf
                    obtain ⟨ys, hys, hf⟩ := hf
                    cases hr : roomB b (l.length + ys.length)
                    · rw [hr] at hf; cases hf
                    · rw [hr] at hf
                      simp only [cond_true, P2, Option.some.injEq, Prod.mk.injEq] at hf
                      obtain ⟨rfl, rfl⟩ := hf
                      obtain ⟨q1, q2⟩ := q
                      obtain ⟨e1, e2⟩ := castL_eq hys
                      simp only at e1 e2
                      subst e1; simp only at e2; subst e2
                      obtain ⟨yc, r1, r2, _⟩ := shown_src (P := cx.P) hU2 (hsh hq)
                      have := append_row (len := l.length) h hop hcal htys hT2 hsz0 hb hdn apN_own (fun hfn => ⟨apN_fro hfn, rfl⟩) hargs2 hm (.inl ⟨rfl, rfl, rfl⟩) hd (Nat.le_refl _) r2 r1 hr
                      rwa [List.take_length] at this
                  · cases hf
                · cases hf
            · rename_i n s1 i len
              simp only [opK.sliceSh, Option.some.injEq] at hs0
              subst hs0
              rw [listK0_eq] at hf
              cases hq : listF0 hp s with
              | none => rw [hq] at hf; cases hf
              | some q =>
                rw [hq] at hf
                simp only [Option.bind_some] at hf
                split at hf
                · rename_i s2 l hm
                  split at hf
                  · rename_i hss
                    simp only [Bool.and_eq_true] at hss
                    have := shEq_eq' hss.1
                    subst this
                    have hi0 := Nat.eq_of_beq_eq_true hss.2.1
                    subst hi0
                    simp only [Option.bind_eq_some_iff] at hf
                    obtain ⟨ys, hys, hf⟩ := hf
                    cases hr : (Nat.ble len l.length && roomB b (len + ys.length))
                    · rw [hr] at hf; cases hf
                    · rw [hr] at hf
                      simp only [cond_true, P2, Option.some.injEq, Prod.mk.injEq] at hf
                      obtain ⟨rfl, rfl⟩ := hf
                      simp only [Bool.and_eq_true] at hr
                      obtain ⟨q1, q2⟩ := q
                      obtain ⟨e1, e2⟩ := castL_eq hys
                      simp only at e1 e2
                      subst e1; simp only at e2; subst e2
                      obtain ⟨yc, r1, r2, _⟩ := shown_src (P := cx.P) hU2 (hsh hq)
                      exact append_row (len := len) h hop hcal htys hT2 hsz0 hb hdn apN_osl (fun hfn => by have h2 := hss.2; simp [hfn] at h2) hargs2 hm (.inr rfl) hd (Nat.le_of_ble_eq_true hr.1) r2 r1 hr.2
                  · cases hf
                · cases hf
            · rename_i n p s1 i len cap
              simp only [opK.sliceSh, Option.some.injEq] at hs0
              subst hs0
              rw [listK0_eq] at hf
              cases hq : listF0 hp s with
              | none => rw [hq] at hf; cases hf
              | some q =>
                rw [hq] at hf
                simp only [Option.bind_some] at hf
                rw [listK0_eq] at hf
                cases hq' : listF0 hp (.sl n p s1 i len cap) with
                | none => rw [hq'] at hf; cases hf
                | some q' =>
                  rw [hq'] at hf
                  simp only [Option.bind_some, Option.bind_eq_some_iff] at hf
                  obtain ⟨ys, hys, hf⟩ := hf
                  split at hf
                  · rename_i m hlv
                    split at hf
                    · rename_i hblt
                      cases hr : roomB b (len + ys.length)
                      · rw [hr] at hf; cases hf
                      · rw [hr] at hf
                        simp only [cond_true, P2, Option.some.injEq, Prod.mk.injEq] at hf
                        obtain ⟨rfl, rfl⟩ := hf
                        obtain ⟨q1, q2⟩ := q
                        obtain ⟨k1, k2⟩ := q'
                        obtain ⟨e1, e2⟩ := castL_eq hys
                        simp only at e1 e2
                        subst e1; simp only at e2; subst e2
                        obtain ⟨yc, r1, r2, _⟩ := shown_src (P := cx.P) hU2 (hsh hq)
                        -- the first slice shows its own elements
                        have hk1 : k1 = s1 := by
                          unfold listF0 listK0 at hq'
                          simp only at hq'
                          split at hq'
                          · rw [getB_eq] at hq'
                            cases hg : gett _ p with
                            | none => rw [hg] at hq'; cases hq'
                            | some u =>
                              rw [hg] at hq'
                              simp only [Option.bind_some] at hq'
                              split at hq'
                              · split at hq'
                                · rename_i hss
                                  generalize Nat.ble _ _ = bb at hq'
                                  cases bb
                                  · cases hq'
                                  · simp at hq'; rw [← hq'.1]; exact (shEq_eq' hss).symm
                                · cases hq'
                              · split at hq'
                                · rename_i hss
                                  generalize Nat.ble _ _ = bb at hq'
                                  cases bb
                                  · cases hq'
                                  · simp at hq'; rw [← hq'.1]; exact (shEq_eq' hss).symm
                                · cases hq'
                              · cases hq'
                          · cases hq'
                        subst hk1
                        have hsh' := listF0_shown h.toMem (fun _ _ h => h) hq' hd
                        obtain ⟨lc, t1, t2, _⟩ := shown_src (P := cx.P) hT2 hsh'
                        have hx0 := Rep1.cells1 (E := E) (v := .sl n p k1 i len cap) hd rfl
                        simp only [RepC] at hx0
                        obtain ⟨_, off, ex, _⟩ := hx0
                        simp at ex
                        have hlen : k2.length = len := by
                          have := t2.len w
                          rw [ex] at this
                          simp [Builtin.lenOf] at this
                          exact this.symm
                        have hm : q2.length = m := by
                          have hl2 := r2.len w
                          unfold lenV at hlv
                          split at hlv
                          · rename_i n' p' s' i' len' cap'
                            simp at hlv; subst hlv
                            have hy0 := Rep1.cells1 (E := E) (v := .sl n' p' s' i' len' cap') hs rfl
                            simp only [RepC] at hy0
                            obtain ⟨_, off', ey, _⟩ := hy0
                            simp at ey
                            rw [ey] at hl2
                            simp [Builtin.lenOf] at hl2
                            exact hl2.symm
                          · rename_i n' s' i' len'
                            simp at hlv; subst hlv
                            rcases osl_inv (E := E) (m := n') (i0 := i') (len := len') (s := s') hs with ⟨_, w2, w3⟩ | ⟨off', cap', w3, _⟩
                            · rw [w3] at hl2; simp [Builtin.lenOf] at hl2; omega
                            · rw [w3] at hl2; simp [Builtin.lenOf] at hl2; exact hl2.symm
                          · rename_i fr' s' l'
                            simp at hlv; subst hlv
                            have hy0 := Rep1.cells1 (E := E) (v := .isl fr' s' l') hs rfl
                            simp only [RepC] at hy0
                            obtain ⟨y', ys', ey, _, ad', len', cap', ey', elen', _⟩ := hy0
                            simp at ey
                            rw [ey, ey'] at hl2
                            simp [Builtin.lenOf] at hl2
                            omega
                          · rename_i fr' s' l' n'
                            simp at hlv; subst hlv
                            have hy0 := Rep1.cells1 (E := E) (v := .isw fr' s' l' n') hs rfl
                            simp only [RepC] at hy0
                            obtain ⟨y', ys', ey, _, ad', cap', ey', _⟩ := hy0
                            simp at ey
                            rw [ey, ey'] at hl2
                            simp [Builtin.lenOf] at hl2
                            omega
                          · rename_i s'
                            simp at hlv; subst hlv
                            have hy0 := Rep1.cells1 (E := E) (v := .nsl s') hs rfl
                            simp only [RepC] at hy0
                            simp at hy0
                            rw [hy0] at hl2
                            simp [Builtin.lenOf] at hl2
                            exact hl2.symm
                          · cases hlv
                        have hcells := t2.cellsD
                        rw [hlen, ex] at hcells
                        rw [ex] at hargs2
                        have hlt : cap < len + m := by simpa using hblt
                        exact append_new (l := k2) (lc := lc) h hop hcal htys hT2 hsz0 hb hdn hargs2 hcells t1 hlen r2 r1 (by omega) hr
                    · cases hf
                  · cases hf
            · cases hf
          · cases hf
        · cases hf
      · cases hf
    · rename_i hcal
      split at hf
      · rename_i ka x kb y hl
        split at hf
        · rename_i hk
          subst hk
          simp only [P2, Option.some.injEq, Prod.mk.injEq] at hf
          obtain ⟨rfl, rfl⟩ := hf
          obtain ⟨p, q, hxy⟩ : ∃ x y, c.args = #[x, y] := by
            have hlen := congrArg List.length hl
            simp at hlen
            match hq : c.args, hlen with
            | ⟨[x, y]⟩, _ => exact ⟨x, y, rfl⟩
          rw [hxy] at hl
          simp at hl
          obtain ⟨h1, h2⟩ := hl
          have e1 := Rep1.int.1 (hp1 h1 rfl).1
          have e2 := Rep1.int.1 (hp1 h2 rfl).1
          refine Good.value (E' := E) (x := .int ka (if y < x then y else x)) (w' := w) ?_ h (Rep1.int.2 rfl) (by simp [AV.named])
          simp [execOp, hop, resolve, hcal, invoke, builtin, hxy, Builtin.min_, e1, e2, Builtin.min2]
        · cases hf
      · cases hf
    · rename_i hcal
      split at hf
      · rename_i ka x kb y hl
        split at hf
        · rename_i hk
          subst hk
          simp only [P2, Option.some.injEq, Prod.mk.injEq] at hf
          obtain ⟨rfl, rfl⟩ := hf
          obtain ⟨ox, oy, hxy⟩ : ∃ ox oy, c.args = #[ox, oy] := by
            have hlen := congrArg List.length hl
            simp at hlen
            match hq : c.args.toList, hlen with
            | [p, q], _ => exact ⟨p, q, by apply Array.ext'; simpa using hq⟩
            | [], hlen => rw [← Array.length_toList, hq] at hlen; cases hlen
            | [_], hlen => rw [← Array.length_toList, hq] at hlen; cases hlen
            | _ :: _ :: _ :: _, hlen => rw [← Array.length_toList, hq] at hlen; simp at hlen
          rw [hxy] at hl
          simp at hl
          obtain ⟨h1, h2⟩ := hl
          have e1 := Rep1.int.1 (hp1 h1 rfl).1
          have e2 := Rep1.int.1 (hp1 h2 rfl).1
          refine Good.value (E' := E) (x := .int ka (if x < y then y else x)) (w' := w) ?_ h (Rep1.int.2 rfl) (by simp [AV.named])
          simp [execOp, hop, resolve, hcal, invoke, builtin, hxy, Builtin.max_, e1, e2, Builtin.max2]
        · cases hf
      · cases hf
    · cases hf
  · rename_i t x hop
    split at hf
    · cases hf
    · rename_i d hd hu
      split at hf
      · rename_i hft
        simp only [P2, Option.some.injEq, Prod.mk.injEq] at hf
        obtain ⟨rfl, rfl⟩ := hf
        have := hp1 (t := t) (x := x) rfl (fitsT_spec hft).2.2
        exact good_makeInterface h hop hu (fun ms e => hd ms e) this.1 this.2
      · cases hf
    · cases hf
  · rename_i x s tt hop
    split at hf
    · cases hf
    · rename_i d hd hu
      split at hf
      · rename_i t v z hx hz
        split at hf
        · rename_i hk
          simp only [Bool.and_eq_true] at hk
          obtain ⟨⟨k1, k2⟩, k3⟩ := hk
          have h1 := hp1 hx rfl
          have g := good_typeAssert h hop hu (fun ms e => hd ms e) h1.1 k1 (by simpa [AV.named] using h1.2) k2 k3
          split at hf
          · rename_i ht
            rw [if_pos ht] at g
            simp only [P2, Option.some.injEq, Prod.mk.injEq] at hf
            obtain ⟨rfl, rfl⟩ := hf
            exact g
          · rename_i ht
            rw [if_neg ht] at g
            simp only [P2, Option.some.injEq, Prod.mk.injEq] at hf
            obtain ⟨rfl, rfl⟩ := hf
            exact g
        · cases hf
      · rename_i z hx hz
        split at hf
        · rename_i hk
          simp only [Bool.and_eq_true] at hk
          simp only [P2, Option.some.injEq, Prod.mk.injEq] at hf
          obtain ⟨rfl, rfl⟩ := hf
          exact good_typeAssert_nil h hop hu (fun ms e => hd ms e) (hp1 hx rfl).1 hk.1 hk.2
        · cases hf
      · cases hf
    · cases hf
  · rename_i g first caps hop
    split at hf
    · rename_i hk
      simp only [P2, Option.some.injEq, Prod.mk.injEq] at hf
      obtain ⟨rfl, rfl⟩ := hf
      have hf0 : first = #[] := Array.size_eq_zero_iff.1 hk.1
      subst hf0
      have key : ∀ (l : List Operand), capsOK (l.map (ev cx env 0)) = true → RepCs E (l.map (ev cx env 0)) (l.map a.eval) ∧ AV.nameds (fun n => (hp n).isSome) (l.map (ev cx env 0)) = true := by
        intro l
        induction l with
        | nil => intro _; exact ⟨rfl, rfl⟩
        | cons x l ih =>
          intro hc
          simp only [List.map_cons, capsOK, Bool.and_eq_true, Bool.not_eq_true'] at hc
          obtain ⟨i1, i2⟩ := ih hc.2
          obtain ⟨g1, g2⟩ := hp1 (t := 0) (x := x) rfl hc.1.1
          refine ⟨?_, by simp only [List.map_cons, AV.nameds, Bool.and_eq_true]; exact ⟨g2, i2⟩⟩
          simp only [List.map_cons, RepCs]
          exact ⟨[a.eval x], l.map a.eval, rfl, g1.cells1 hc.1.2, i1⟩
      obtain ⟨k1, k2⟩ := key caps.toList hk.2
      refine Good.value (E' := E) (x := .func (.func g) #[] (caps.map a.eval)) (w' := w) ?_ h ?_ (by simpa [AV.named, updH_nil] using k2)
      · simp [execOp, hop, Instr.makeFunc]
      · refine Rep1.of_cells1 rfl ?_
        simp only [RepC]
        exact ⟨caps.toList.map a.eval, by rw [← Array.toList_map, Array.toArray_toList], k1⟩
    · cases hf
  · cases hf
end
end Go.Sy
