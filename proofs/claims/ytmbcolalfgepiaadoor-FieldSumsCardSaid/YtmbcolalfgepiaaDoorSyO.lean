/- What an operation does in the model is what the symbolic reading says: all operations together. -/
import Derived.Test.YtmbcolalfgepiaaDoorSyN
set_option linter.unusedVariables false
set_option linter.unusedSimpArgs false
namespace Go.Sy
open Go Go.RowKit

section
variable {cx : Cx} {G : World → Prop} {w0 : World} {E : Emb} {N : Nat} {env hp : Nat → Option AV} {a : Act} {w : World} {o : Oper}

theorem own_some (h : Rel w0 E N env hp a w) {n : Nat} {p : List Step} {x : Operand} {t : TypeId} (hc : CxOk cx G) (hG : G w0) (he : ev cx env t x = .ptr n p) : (hp n).isSome = true := by
  have := (ev_sound hc hG h t x).2
  rw [he] at this
  simpa [AV.named] using this

theorem opF_good (hc : CxOk cx G) (hG : G w0) (h : Rel w0 E N env hp a w) {v : AV} {δ : Option (Nat × AV)} (hf : opF cx o env hp = some (v, δ)) : Good cx.P o w0 N env hp v δ a w := by
  have hev := fun (t : TypeId) (x : Operand) => ev_sound hc hG h t x
  have hp1 : ∀ {t : TypeId} {x : Operand} {u : AV}, ev cx env t x = u → u.plain = true → Rep1 E u (a.eval x) ∧ u.named (fun n => (hp n).isSome) = true := fun he hpl => ev_plain hc hG h he hpl
  unfold opF opK at hf
  split at hf
  · rename_i x hop
    simp only [P2, Option.some.injEq, Prod.mk.injEq] at hf
    obtain ⟨rfl, rfl⟩ := hf
    exact Good.value (E' := E) (by simp [execOp, hop]) h (hev _ _).1 (hev _ _).2
  · rename_i x hop
    simp only [P2, Option.some.injEq, Prod.mk.injEq] at hf
    obtain ⟨rfl, rfl⟩ := hf
    exact Good.value (E' := E) (by simp [execOp, hop]) h (hev _ _).1 (hev _ _).2
  · rename_i c x y hop
    split at hf
    · rename_i b hb
      have hcb : a.eval c = .bool b := Rep1.bool.1 (hp1 hb rfl).1
      cases b <;> simp only [cond_true, cond_false, P2, Option.some.injEq, Prod.mk.injEq] at hf <;> obtain ⟨rfl, rfl⟩ := hf
      · exact Good.value (E' := E) (x := a.eval y) (by simp [execOp, hop, hcb, asBool]) h (hev _ _).1 (hev _ _).2
      · exact Good.value (E' := E) (x := a.eval x) (by simp [execOp, hop, hcb, asBool]) h (hev _ _).1 (hev _ _).2
    · cases hf
  · rename_i t hop
    split at hf
    · rename_i d z hd hz
      split at hf
      · rename_i hk
        simp only [P2, Option.some.injEq, Prod.mk.injEq] at hf
        obtain ⟨rfl, rfl⟩ := hf
        simp only [Bool.and_eq_true] at hk
        exact good_alloc h hop hd hk.1 hk.2
      · cases hf
    · cases hf
  · rename_i t x hop
    split at hf
    · rename_i d hd
      split at hf
      · rename_i hk
        simp only [P2, Option.some.injEq, Prod.mk.injEq] at hf
        obtain ⟨rfl, rfl⟩ := hf
        simp only [Bool.and_eq_true] at hk
        exact good_box h hop hk.1 (hp1 rfl hk.2).1 (hp1 rfl hk.2).2
      · cases hf
    · cases hf
  · rename_i t parts hop
    split at hf
    · rename_i z hz
      split at hf
      · rename_i hk
        rw [partsK_eq] at hf
        cases hps : partsK cx.P t z (parts.toList.map fun p => (p.1, ev cx env 0 p.2)) some with
        | none => rw [hps] at hf; cases hf
        | some u =>
          rw [hps] at hf
          simp only [Option.bind_some, P2, Option.some.injEq, Prod.mk.injEq] at hf
          obtain ⟨rfl, rfl⟩ := hf
          simp only [Bool.and_eq_true] at hk
          exact good_build hc hG h hop hk.1.1 hk.1.2 hk.2 hps
      · cases hf
    · cases hf
  · rename_i t x hop
    split at hf
    · rename_i n p hx
      split at hf
      · rename_i c hc'
        rw [getK_eq] at hf
        cases hg : get c p with
        | none => rw [hg] at hf; cases hf
        | some u =>
          rw [hg] at hf
          simp only [Option.bind_some] at hf
          split at hf
          · rename_i hft
            simp only [P2, Option.some.injEq, Prod.mk.injEq] at hf
            obtain ⟨rfl, rfl⟩ := hf
            exact good_load h hop (hp1 hx rfl).1 hc' hg hft
          · cases hf
      · cases hf
    · rename_i u hx
      split at hf
      · rename_i hft
        simp only [P2, Option.some.injEq, Prod.mk.injEq] at hf
        obtain ⟨rfl, rfl⟩ := hf
        exact good_load_pim h hop (hp1 hx rfl).1 (by have := (hp1 hx rfl).2; simpa [AV.named] using this) hft
      · cases hf
    · cases hf
  · rename_i t x y hop
    split at hf
    · rename_i n p hx
      split at hf
      · rename_i c hc'
        split at hf
        · rename_i hft
          rw [setK_eq] at hf
          cases hs : set c p (ev cx env t y) with
          | none => rw [hs] at hf; cases hf
          | some c' =>
            rw [hs] at hf
            simp only [Option.bind_some, P2, Option.some.injEq, Prod.mk.injEq] at hf
            obtain ⟨rfl, rfl⟩ := hf
            have hy := hp1 (t := t) (x := y) rfl (fitsT_spec hft).2.2
            exact good_store h hop (hp1 hx rfl).1 hy.1 hy.2 hc' hs hft
        · cases hf
      · cases hf
    · cases hf
  · rename_i x hop
    split at hf
    · rename_i n p hx
      simp only [P2, Option.some.injEq, Prod.mk.injEq] at hf
      obtain ⟨rfl, rfl⟩ := hf
      have := hp1 hx rfl
      have e := Rep1.ptr.1 this.1
      exact Good.value (E' := E) (x := a.eval x) (by simp [execOp, hop, e]) h this.1 this.2
    · rename_i u hx
      simp only [P2, Option.some.injEq, Prod.mk.injEq] at hf
      obtain ⟨rfl, rfl⟩ := hf
      have := hp1 hx rfl
      obtain ⟨b, off, c, T, fz, ys, e, _⟩ := pim_inv this.1
      exact Good.value (E' := E) (x := a.eval x) (by simp [execOp, hop, e]) h this.1 this.2
    · cases hf
  · rename_i op t x y yt hop
    rw [binK_eq] at hf
    cases hb : binK cx.P op t (ev cx env 0 x) (ev cx env 0 y) some with
    | none => rw [hb] at hf; cases hf
    | some u =>
      rw [hb] at hf
      simp only [Option.bind_some, P2, Option.some.injEq, Prod.mk.injEq] at hf
      obtain ⟨rfl, rfl⟩ := hf
      obtain ⟨z, h1, h2, h3, h4⟩ := binK_run (w := w) hb (hev 0 x).1 (hev 0 y).1 x y
      refine Good.value (E' := E) (x := z) (w' := w) ?_ h ((Rep.one h3).2 h2) (h4 _)
      simp only [execOp, hop, Sem.run_bind] at h1 ⊢
      rw [h1]; rfl
  · rename_i op t x hop
    rw [unK_eq] at hf
    cases hb : unK op (ev cx env 0 x) some with
    | none => rw [hb] at hf; cases hf
    | some u =>
      rw [hb] at hf
      simp only [Option.bind_some, P2, Option.some.injEq, Prod.mk.injEq] at hf
      obtain ⟨rfl, rfl⟩ := hf
      obtain ⟨z, h1, h2, h3, h4⟩ := unK_run (P := cx.P) (w := w) hb (hev 0 x).1
      refine Good.value (E' := E) (x := z) (w' := w) ?_ h ((Rep.one h3).2 h2) (h4 _)
      simp [execOp, hop, h1]
  · rename_i s d x hop
    split at hf
    · rename_i ds kd n k hs hd hx
      simp only [P2, Option.some.injEq, Prod.mk.injEq] at hf
      obtain ⟨rfl, rfl⟩ := hf
      have e := Rep1.int.1 (hp1 hx rfl).1
      refine Good.value (E' := E) (x := .int kd (kd.wrap k)) (w' := w) ?_ h (Rep1.int.2 rfl) (by simp [AV.named])
      simp [execOp, hop, convert, run_underlying hs, run_underlying hd, e, Conv.intToInt]
    · cases hf
  · rename_i s x f hop
    split at hf
    · rename_i fs hu
      split at hf
      · rename_i fd n p hfd hx
        split at hf
        · cases hf
        · rename_i hs
          simp only [P2, Option.some.injEq, Prod.mk.injEq] at hf
          obtain ⟨rfl, rfl⟩ := hf
          exact good_fieldAddr h hop hu hfd hs (hp1 hx rfl).1 (own_some h hc hG hx)
      · rename_i fd u hfd hx
        split at hf
        · cases hf
        · rename_i hs
          rw [getK_eq] at hf
          cases hg : get u [.fld f fd.offset] with
          | none => rw [hg] at hf; cases hf
          | some u' =>
            rw [hg] at hf
            simp only [Option.bind_some, P2, Option.some.injEq, Prod.mk.injEq] at hf
            obtain ⟨rfl, rfl⟩ := hf
            exact good_fieldAddr_pim h hop hu hfd hs (hp1 hx rfl).1 (by have := (hp1 hx rfl).2; simpa [AV.named] using this) hg
      · cases hf
    · cases hf
  · rename_i t x f hop
    split at hf
    · rename_i fs hu
      split at hf
      · rename_i fd hfd
        rw [getK_eq] at hf
        cases hg : get (ev cx env 0 x) [.fld f fd.offset] with
        | none => rw [hg] at hf; cases hf
        | some u =>
          rw [hg] at hf
          simp only [Option.bind_some] at hf
          split at hf
          · rename_i hft
            simp only [P2, Option.some.injEq, Prod.mk.injEq] at hf
            obtain ⟨rfl, rfl⟩ := hf
            have hpl : (ev cx env 0 x).plain = true := by cases hq : ev cx env 0 x <;> rw [hq] at hg <;> simp [get, getK] at hg <;> rfl
            have := hp1 (t := 0) (x := x) rfl hpl
            exact good_field h hop hu hfd this.1 this.2 hg hft
          · cases hf
      · cases hf
    · cases hf
  · rename_i t x i hop
    split at hf
    · rename_i k j hi
      have hij : a.eval i = .int k j := Rep1.int.1 (hp1 hi rfl).1
      cases h0 : decide (0 ≤ j)
      · rw [h0] at hf; cases hf
      · rw [h0] at hf
        simp only [cond_true] at hf
        have h0' : 0 ≤ j := by simpa using h0
        split at hf
        · rename_i n e hu
          cases hb : Nat.blt j.toNat n
          · rw [hb] at hf; cases hf
          · rw [hb] at hf
            simp only [cond_true] at hf
            have hb' : j.toNat < n := by simpa using hb
            split at hf
            · rename_i sz hs
              split at hf
              · rename_i m p hx
                simp only [P2, Option.some.injEq, Prod.mk.injEq] at hf
                obtain ⟨rfl, rfl⟩ := hf
                exact good_indexAddr h hop hu hij h0' hb' hs (hp1 hx rfl).1 (own_some h hc hG hx)
              · rename_i u hx
                rw [getK_eq] at hf
                cases hg : get u [.idx j.toNat sz] with
                | none => rw [hg] at hf; cases hf
                | some u' =>
                  rw [hg] at hf
                  simp only [Option.bind_some, P2, Option.some.injEq, Prod.mk.injEq] at hf
                  obtain ⟨rfl, rfl⟩ := hf
                  exact good_indexAddr_pim h hop hu hij h0' hb' hs (hp1 hx rfl).1 (by have := (hp1 hx rfl).2; simpa [AV.named] using this) hg
              · cases hf
            · cases hf
        · rename_i e hu
          split at hf
          · rename_i sz hs
            split at hf
            · rename_i m p s i0 len cap hx
              split at hf
              · rename_i hsz
                cases hb : Nat.blt j.toNat len
                · rw [hb] at hf; cases hf
                · rw [hb] at hf
                  simp only [cond_true, P2, Option.some.injEq, Prod.mk.injEq] at hf
                  obtain ⟨rfl, rfl⟩ := hf
                  have hb' : j.toNat < len := by simpa using hb
                  exact good_indexAddr_sl h hop hu hij h0' hb' hs hsz (hp1 hx rfl).1 (by have := (hp1 hx rfl).2; simpa [AV.named] using this)
              · cases hf
            · rename_i fr s l hx
              split at hf
              · rename_i hsz
                cases hb : Nat.blt j.toNat l.length
                · rw [hb] at hf; cases hf
                · rw [hb] at hf
                  simp only [cond_true, P2, Option.some.injEq, Prod.mk.injEq] at hf
                  obtain ⟨rfl, rfl⟩ := hf
                  have hb' : j.toNat < l.length := by simpa using hb
                  exact good_indexAddr_isl h hop hu hij h0' hb' hs hsz (hp1 hx rfl).1
              · cases hf
            · cases hf
          · cases hf
        · cases hf
    · cases hf
  · rename_i t x i hop
    split at hf
    · rename_i k j hi
      have hij : a.eval i = .int k j := Rep1.int.1 (hp1 hi rfl).1
      cases h0 : decide (0 ≤ j)
      · rw [h0] at hf; cases hf
      · rw [h0] at hf
        simp only [cond_true] at hf
        have h0' : 0 ≤ j := by simpa using h0
        split at hf
        · rename_i n e hu
          cases hb : Nat.blt j.toNat n
          · rw [hb] at hf; cases hf
          · rw [hb] at hf
            simp only [cond_true] at hf
            have hb' : j.toNat < n := by simpa using hb
            split at hf
            · rename_i sz hs
              rw [getK_eq] at hf
              cases hg : get (ev cx env 0 x) [.idx j.toNat sz] with
              | none => rw [hg] at hf; cases hf
              | some u =>
                rw [hg] at hf
                simp only [Option.bind_some] at hf
                split at hf
                · rename_i hft
                  simp only [P2, Option.some.injEq, Prod.mk.injEq] at hf
                  obtain ⟨rfl, rfl⟩ := hf
                  have hpl : (ev cx env 0 x).plain = true := by cases hq : ev cx env 0 x <;> rw [hq] at hg <;> simp [get, getK] at hg <;> rfl
                  have := hp1 (t := 0) (x := x) rfl hpl
                  exact good_index h hop hu hij h0' hb' hs this.1 this.2 hg hft
                · cases hf
            · cases hf
        · cases hf
    · cases hf
  · rename_i x i hop
    split at hf
    · rename_i l hx
      split at hf
      · rename_i u hi
        simp only [P2, Option.some.injEq, Prod.mk.injEq] at hf
        obtain ⟨rfl, rfl⟩ := hf
        have := hev 0 x
        rw [hx] at this
        exact good_extract h hop this.1 (by simpa [AV.named] using this.2) hi
      · cases hf
    · cases hf
  · rename_i t x lo hi hop
    split at hf
    · rename_i n e hu
      split at hf
      · rename_i s m p hs hx
        split at hf
        · rename_i hsz
          rw [boundK_eq] at hf
          cases h1 : boundK cx env hi n n some with
          | none => rw [h1] at hf; cases hf
          | some hh =>
            rw [h1] at hf
            simp only [Option.bind_some] at hf
            rw [boundK_eq] at hf
            cases h2 : boundK cx env lo 0 hh some with
            | none => rw [h2] at hf; cases hf
            | some l =>
              rw [h2] at hf
              simp only [Option.bind_some, P2, Option.some.injEq, Prod.mk.injEq] at hf
              obtain ⟨rfl, rfl⟩ := hf
              exact good_slice_arr hc hG h hop hu hsz (hp1 hx rfl).1 (own_some h hc hG hx) h1 h2
        · cases hf
      · cases hf
    · rename_i e hu
      split at hf
      · rename_i m p s i len cap hx
        split at hf
        · rename_i hsz
          rw [boundK_eq] at hf
          cases h1 : boundK cx env hi len cap some with
          | none => rw [h1] at hf; cases hf
          | some hh =>
            rw [h1] at hf
            simp only [Option.bind_some] at hf
            rw [boundK_eq] at hf
            cases h2 : boundK cx env lo 0 hh some with
            | none => rw [h2] at hf; cases hf
            | some l =>
              rw [h2] at hf
              simp only [Option.bind_some, P2, Option.some.injEq, Prod.mk.injEq] at hf
              obtain ⟨rfl, rfl⟩ := hf
              exact good_slice_sl hc hG h hop hu hsz (hp1 hx rfl).1 (by have := (hp1 hx rfl).2; simpa [AV.named] using this) h1 h2
        · cases hf
      · rename_i fr s l0 hx
        split at hf
        · rename_i hsz
          rw [boundK_eq] at hf
          cases h1 : boundK cx env hi l0.length l0.length some with
          | none => rw [h1] at hf; cases hf
          | some hh =>
            rw [h1] at hf
            simp only [Option.bind_some] at hf
            rw [boundK_eq] at hf
            cases h2 : boundK cx env lo 0 hh some with
            | none => rw [h2] at hf; cases hf
            | some l =>
              rw [h2] at hf
              simp only [Option.bind_some, P2, Option.some.injEq, Prod.mk.injEq] at hf
              obtain ⟨rfl, rfl⟩ := hf
              exact good_slice_isl hc hG h hop hu hsz (hp1 hx rfl).1 h1 h2
        · cases hf
      · cases hf
    · cases hf
  · rename_i c hop
    split at hf
    · rename_i fop hcal
      split at hf
      · rename_i g hg
        have := (hp1 hg rfl).1.cells1 rfl
        simp only [RepC] at this
        obtain ⟨vs, e, hvs⟩ := this
        simp only [RepCs] at hvs
        subst hvs
        simp at e
        exact good_call hc hG h hop hcal e hf
      · cases hf
    · rename_i hcal
      have hargs : ∀ {l : List AV}, c.args.toList.map (ev cx env 0) = l → ∀ (i : Nat) (v : AV), l[i]? = some v → ∃ x, c.args[i]? = some x ∧ ev cx env 0 x = v := by
        intro l hl i v hv
        rw [← hl, List.getElem?_map] at hv
        cases hq : c.args.toList[i]? with
        | none => rw [hq] at hv; cases hv
        | some x => rw [hq] at hv; simp at hv; exact ⟨x, by simpa using hq, hv⟩
      have hrun : ∀ {n : Int} {T : TypeId}, c.argTypes[0]? = some T → (∀ x, c.args[0]? = some x → (Builtin.len_ c.argTypes o.type (c.args.map a.eval)).run cx.P w = .ok (goInt n) w) → (∃ x, c.args[0]? = some x) → Good cx.P o w0 N env hp (.int .i64 n) none a w := by
        intro n T hT hr ⟨x, hx⟩
        refine Good.value (E' := E) (x := goInt n) (w' := w) ?_ h (Rep1.int.2 rfl) (by simp [AV.named])
        simp [execOp, hop, resolve, hcal, invoke, builtin, hr x hx]
      split at hf
      · rename_i m p s i len cap e hl hT
        simp only [P2, Option.some.injEq, Prod.mk.injEq] at hf
        obtain ⟨rfl, rfl⟩ := hf
        obtain ⟨x, hx, hex⟩ := hargs hl 0 _ rfl
        obtain ⟨T, hT1, hT2⟩ := Option.bind_eq_some_iff.1 hT
        have hr := (hp1 hex rfl).1.cells1 rfl
        simp only [RepC] at hr
        obtain ⟨_, off, e1, _⟩ := hr
        simp at e1
        refine hrun hT1 (fun y hy => ?_) ⟨x, hx⟩
        rw [hx] at hy; cases hy
        simp [Builtin.len_, hT1, hx, run_underlying hT2, e1]
      · rename_i fr s l e hl hT
        simp only [P2, Option.some.injEq, Prod.mk.injEq] at hf
        obtain ⟨rfl, rfl⟩ := hf
        obtain ⟨x, hx, hex⟩ := hargs hl 0 _ rfl
        obtain ⟨T, hT1, hT2⟩ := Option.bind_eq_some_iff.1 hT
        have hr := (hp1 hex rfl).1.cells1 rfl
        simp only [RepC] at hr
        obtain ⟨y, ys, e1, _, ad, len, cap, e2, e3, _⟩ := hr
        simp at e1
        refine hrun hT1 (fun y' hy => ?_) ⟨x, hx⟩
        rw [hx] at hy; cases hy
        simp [Builtin.len_, hT1, hx, run_underlying hT2, e1, e2, e3]
      · rename_i n e _ _ hT
        split at hf
        · rename_i _ x hx
          simp only [P2, Option.some.injEq, Prod.mk.injEq] at hf
          obtain ⟨rfl, rfl⟩ := hf
          obtain ⟨T, hT1, hT2⟩ := Option.bind_eq_some_iff.1 hT
          refine hrun hT1 (fun y hy => ?_) ⟨x, hx⟩
          rw [hx] at hy; cases hy
          simp [Builtin.len_, hT1, hx, run_underlying hT2]
        · cases hf
      · cases hf
    · rename_i hcal
      split at hf
      · rename_i d s e hl hT
        split at hf
        · rename_i ki hue
          split at hf
          · rename_i hsz
            obtain ⟨T, hT1, hT2⟩ := Option.bind_eq_some_iff.1 hT
            obtain ⟨x, y, hxy⟩ : ∃ x y, c.args = #[x, y] := by
              have hlen := congrArg List.length hl
              simp at hlen
              match hq : c.args, hlen with
              | ⟨[x, y]⟩, _ => exact ⟨x, y, rfl⟩
            rw [hxy] at hl
            simp at hl
            obtain ⟨h1, h2⟩ := hl
            have hd := (hev 0 x).1
            have hs := (hev 0 y).1
            rw [h1] at hd
            rw [h2] at hs
            exact good_copy h hop hcal hxy hT1 hT2 hsz hd hs hf
          · cases hf
        · cases hf
      · cases hf
    · rename_i hcal
      split at hf
      · rename_i ka x kb y hl
        split at hf
        · rename_i hk
          subst hk
          simp only [P2, Option.some.injEq, Prod.mk.injEq] at hf
          obtain ⟨rfl, rfl⟩ := hf
          obtain ⟨p, q, hxy⟩ : ∃ x y, c.args = #[x, y] := by
            have hlen := congrArg List.length hl
            simp at hlen
            match hq : c.args, hlen with
            | ⟨[x, y]⟩, _ => exact ⟨x, y, rfl⟩
          rw [hxy] at hl
          simp at hl
          obtain ⟨h1, h2⟩ := hl
          have e1 := Rep1.int.1 (hp1 h1 rfl).1
          have e2 := Rep1.int.1 (hp1 h2 rfl).1
          refine Good.value (E' := E) (x := .int ka (if y < x then y else x)) (w' := w) ?_ h (Rep1.int.2 rfl) (by simp [AV.named])
          simp [execOp, hop, resolve, hcal, invoke, builtin, hxy, Builtin.min_, e1, e2, Builtin.min2]
        · cases hf
      · cases hf
    · cases hf
  · cases hf
end
end Go.Sy
