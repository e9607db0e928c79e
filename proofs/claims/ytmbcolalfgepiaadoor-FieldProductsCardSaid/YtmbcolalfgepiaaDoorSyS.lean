/- Functions: a contract out of the symbolic reading of the body. -/
import Derived.Test.YtmbcolalfgepiaaDoorSyR
set_option linter.unusedVariables false
set_option linter.unusedSimpArgs false
namespace Go.Sy
open Go Go.RowKit

section
variable {cx : Cx} {G : World → Prop} {w0 : World} {N : Nat}

theorem immK_sl {hp : Nat → Option AV} {n i len cap : Nat} {p : List Step} {s : Sh} {v' : AV} (hi : immK hp (.sl n p s i len cap) some = some v') :
    ∃ c m, ∃ l : List s.T, hp n = some c ∧ get c p = some (.arr s m l) ∧ v' = .isl false s ((l.drop i).take len) ∧ i + len ≤ m ∧ s.flat = true := by
  unfold immK at hi
  simp only at hi
  split at hi
  · rename_i c hc
    rw [getK_eq] at hi
    cases hg : get c p with
    | none => rw [hg] at hi; cases hi
    | some u =>
      rw [hg] at hi
      simp only [Option.bind_some] at hi
      split at hi
      · rename_i ka m l
        split at hi
        · rename_i kb
          split at hi
          · rename_i hk
            subst hk
            cases hb : Nat.ble (i + len) m
            · rw [hb] at hi; cases hi
            · rw [hb] at hi
              simp at hi
              exact ⟨c, m, l, hc, hg, hi.symm, Nat.le_of_ble_eq_true hb, rfl⟩
          · cases hi
        · cases hi
      · rename_i m l
        split at hi
        · cases hb : Nat.ble (i + len) m
          · rw [hb] at hi; cases hi
          · rw [hb] at hi
            simp at hi
            exact ⟨c, m, l, hc, hg, hi.symm, Nat.le_of_ble_eq_true hb, rfl⟩
        · cases hi
      · rename_i m l
        split at hi
        · cases hb : Nat.ble (i + len) m
          · rw [hb] at hi; cases hi
          · rw [hb] at hi
            simp at hi
            exact ⟨c, m, l, hc, hg, hi.symm, Nat.le_of_ble_eq_true hb, rfl⟩
        · cases hi
      · cases hi
  · cases hi

theorem immR_sound {β : Type} {S : St} {E : Emb} {a : Act} {w : World} (h : Rel w0 E N S.e S.h a w) {v : AV} {x : Value} {k : AV → Option β} {r : β} (hi : resultsK.immR S.h v k = some r) (hr : Rep E v x) :
    ∃ v', k v' = some r ∧ v'.plain = true ∧ Rep1 (freshImm w0 w) v' x ∧ v'.named (fun _ => false) = true := by
  unfold resultsK.immR at hi
  split at hi
  · rename_i s l
    split at hi
    · rename_i hf
      refine ⟨_, hi, rfl, Rep1.of_cells1 rfl ?_, rfl⟩
      have := Rep1.cells1 (E := E) (v := .isl true s l) hr rfl
      simp only [RepC] at this ⊢
      obtain ⟨y, ys, h1, h2, ad, len, cap, h3, h4, h5, h6⟩ := this
      refine ⟨y, ys, h1, h2.flat hf, ad, len, cap, h3, h4, h5, ?_⟩
      cases ad with
      | none => exact h6
      | some ad =>
        refine Or.imp id (fun hl => ?_) h6
        obtain ⟨g1, g2, c, T, fz, g3, g4⟩ := hl
        have hb := g2 rfl
        refine ⟨g1, (fun _ => by have := h.base; simp only [freshImm]; omega), c, T, fz, ?_, g4⟩
        simp only [freshImm]
        rw [if_pos (by rw [← h.base]; exact hb)]
        exact h.imm _ _ g3
    · cases hi
  · rename_i n p s i len cap
    rw [immK_eq] at hi
    cases hq : immK S.h (.sl n p s i len cap) some with
    | none => rw [hq] at hi; cases hi
    | some v' =>
      rw [hq] at hi
      simp only [Option.bind_some] at hi
      obtain ⟨c, m, l, hc, hg, rfl, hb, hf⟩ := immK_sl hq
      simp only at hi
      refine ⟨_, hi, rfl, Rep1.of_cells1 rfl ?_, rfl⟩
      have hx := Rep1.cells1 (E := E) (v := .sl n p s i len cap) hr rfl
      simp only [RepC] at hx
      obtain ⟨hle, off, ex, ho⟩ := hx
      simp at ex
      subst ex
      obtain ⟨xs, T, ys, h1, h2, h3, h4⟩ := own_part h hc hg
      simp only [RepC] at h3
      have hbase : w0.heap.size ≤ E.ρ n := by
        rcases Nat.lt_or_ge (E.ρ n) w0.heap.size with h' | h'
        · obtain ⟨_, _, _, _, himm⟩ := h.rheap n c hc
          have := h.imm0 _ _ (Array.getElem?_eq_getElem h')
          rw [himm] at this; cases this
        · exact h'
      have hlies : Lies (freshImm w0 w) true ⟨E.ρ n, offs p, none⟩ ys := by
        refine ⟨rfl, fun _ => hbase, xs, T, (0, 0), ?_, h2⟩
        simp only [freshImm]
        rw [if_pos hbase]; exact h1
      exact sl_part (w := w) (E := freshImm w0 w) hle ho hlies (h3.2.flat hf) (by rw [h3.1]; exact hb)
  · split at hi
    · rename_i hf
      exact ⟨_, hi, flat_plain hf, Rep1.flat hf ((Rep.one (flat_plain hf)).1 hr), flat_named hf⟩
    · cases hi

def resOf (tmps : Array Value) : ResultVar → Sem Value
  | .tmp t => pure (tmps.getD t undef)
  | .cell c t => do loadVar t (← asAddr (tmps.getD c undef))

theorem results_eq (fn : Func) (tmps : Array Value) : results fn tmps = (do
    let vs ← fn.results.mapM (resOf tmps)
    pure (if h : vs.size = 1 then vs[0] else .tuple vs)) := by
  unfold results
  congr 2

theorem resultsK_sound (hN : True) {β : Type} {S : St} {E : Emb} {a : Act} {w : World} (h : Rel w0 E N S.e S.h a w) : ∀ (res : List ResultVar) (k : List AV → Option β) (r : β), resultsK cx S res k = some r →
    ∃ l vs, k l = some r ∧ (res.mapM (resOf a.tmps)).run cx.P w = .ok vs w ∧ Rep1s (freshImm w0 w) l vs ∧ AV.nameds (fun _ => false) l = true
  | [], k, r, hr => ⟨[], [], hr, by simp, rfl, rfl⟩
  | .tmp t :: res, k, r, hr => by
    simp only [resultsK] at hr
    split at hr
    · rename_i v hv
      obtain ⟨x, hx, hrep⟩ := h.renv t v hv
      obtain ⟨v', h1, h2, h3, h4⟩ := immR_sound h hr hrep
      obtain ⟨l, vs, g1, g2, g3, g4⟩ := resultsK_sound hN h res _ r h1
      refine ⟨v' :: l, x :: vs, g1, ?_, ⟨x, vs, rfl, h2, h3, g3⟩, by simp [AV.nameds, h4, g4]⟩
      simp only [List.mapM_cons, Sem.run_bind, resOf, Sem.run_pure, Result.andThen_ok, g2]
      simp [Array.getD_eq_getD_getElem?, hx]
    · cases hr
  | .cell c t :: res, k, r, hr => by
    simp only [resultsK] at hr
    split at hr
    · rename_i n p hv
      split at hr
      · rename_i b hb
        rw [getK_eq] at hr
        cases hg : get b p with
        | none => rw [hg] at hr; cases hr
        | some u =>
          rw [hg] at hr
          simp only [Option.bind_some] at hr
          split at hr
          · rename_i hf
            obtain ⟨y, hy, hrep⟩ := h.renv c _ hv
            have hy' : y = _ := Rep1.ptr.1 hrep
            obtain ⟨xs, T, ys, e1, e2, e3, e4⟩ := own_part h hb hg
            obtain ⟨x, hx, hrx⟩ := run_loadVarT hf e1 e2 e3
            obtain ⟨v', h1, h2, h3, h4⟩ := immR_sound h hr ((Rep.one (fitsT_spec hf).2.2).2 hrx)
            obtain ⟨l, vs, g1, g2, g3, g4⟩ := resultsK_sound hN h res _ r h1
            refine ⟨v' :: l, x :: vs, g1, ?_, ⟨x, vs, rfl, h2, h3, g3⟩, by simp [AV.nameds, h4, g4]⟩
            have hget : a.tmps.getD c undef = .pointer (some ⟨E.ρ n, offs p, none⟩) := by simp [Array.getD_eq_getD_getElem?, hy, hy']
            have hA : (asAddr (a.tmps.getD c undef)).run cx.P w = .ok ⟨E.ρ n, offs p, none⟩ w := by rw [hget]; simp [asAddr]
            simp only [List.mapM_cons, Sem.run_bind, resOf, hA, Sem.run_pure, Result.andThen_ok, hx, g2]
          · cases hr
      · cases hr
    · cases hr

theorem one_rep {E : Emb} {l : List AV} {vs : List Value} (h : Rep1s E l vs) : Rep E (one l) (if hs : vs.toArray.size = 1 then vs.toArray[0] else .tuple vs.toArray) := by
  match l, vs, h with
  | [], vs, h =>
    have : vs = [] := h
    subst this
    exact ⟨[], rfl, rfl⟩
  | [v], vs, ⟨x, ys, e, hp, hr, hn⟩ =>
    have : ys = [] := hn
    subst this; subst e
    simpa [one] using (Rep.one hp).2 hr
  | v :: u :: l, vs, h =>
    obtain ⟨x, ys, e, hp, hr, y, zs, e', h2⟩ := h
    subst e'; subst e
    simp only [one]
    rw [dif_neg (by simp)]
    exact ⟨_, rfl, x, _, rfl, hp, hr, y, zs, rfl, h2⟩

theorem one_named {ok : Nat → Bool} {l : List AV} (h : AV.nameds ok l = true) : (one l).named ok = true := by
  match l, h with
  | [], _ => rfl
  | [v], h => simpa [one, AV.nameds] using h
  | v :: u :: l, h => simpa [one, AV.named] using h

theorem lk_zip {args : List AV} : ∀ {m n : Nat} {v : AV}, lk n ((List.range' m args.length).zip args) = some v → ∃ i, n = m + i ∧ args[i]? = some v := by
  induction args with
  | nil => intro m n v h; simp [lk] at h
  | cons x args ih =>
    intro m n v h
    simp only [List.length_cons, List.range'_succ, List.zip_cons_cons, lk] at h
    cases hb : Nat.beq n m
    · rw [hb] at h
      obtain ⟨i, h1, h2⟩ := ih h
      exact ⟨i + 1, by omega, by simpa using h2⟩
    · rw [hb] at h
      have := Nat.eq_of_beq_eq_true hb
      simp at h; subst h; subst this
      exact ⟨0, rfl, rfl⟩

theorem Rep1s.length {E : Emb} : ∀ {l : List AV} {vs : List Value}, Rep1s E l vs → l.length = vs.length
  | [], _, h => by have : _ = [] := h; subst this; rfl
  | v :: l, _, ⟨x, ys, e, _, _, h⟩ => by subst e; simp [h.length]

/-- **A function keeps the contract that the symbolic reading of its body tells.** -/
theorem fun_sound (hc : CxOk cx G) {f : Nat} {fn : Func} (hfn : cx.P.funcs[f]? = some fn) (hb : fn.body.isSome = true) (hN : fn.ntmps = cx.N) (hcall : ∀ args w, (callFunc f args).run cx.P w = .ok (.enter f args) w)
    (e : Entry) (encA : e.α → List AV) (decR : List AV → Option e.ρ) (hdec : ∀ args x, e.dec args = some x → args = encA x) (hnamed : ∀ x, AV.nameds (fun _ => false) (encA x) = true) (hlen : ∀ x, (encA x).length ≤ cx.N)
    (hr : ∀ l r, decR l = some r → l = e.enc r)
    (hl : ∀ w0, G w0 → ∀ b ∈ loopsOf (bodyOf fn), ∀ le, cx.loops (firstReg b) = some le → LoopOk cx w0 b le)
    (link : ∀ x, codeK cx (bodyOf fn) (start (encA x)) (finK cx fn.results.toList decR) = e.F x) : CallOk cx.P G f e := by
  intro w x r args vals hG hx hF hreps
  refine .inl ⟨hcall vals w, ?_⟩
  obtain ⟨code, hcode⟩ := Option.isSome_iff_exists.1 hb
  refine calls_of_wp hfn hcode ?_
  have hbody : bodyOf fn = code := by simp [bodyOf, hcode]
  rw [hbody] at link hl
  have ha := hdec args x hx
  subst ha
  have hsz := hreps.length
  have hrel : RelF w cx.N (start (encA x)).fs { tmps := vals ++ Array.replicate (fn.ntmps - vals.size) undef, defers := [] } w := by
    refine ⟨allImm w, ?_⟩
    have henv : ∀ s v, (start (encA x)).e s = some v → (encA x)[s]? = some v := fun s v hs => by
      have : lk s ((List.range' 0 (encA x).length).zip (encA x)) = some v := by
        simpa [start, St.e, List.range_eq_range'] using hs
      obtain ⟨i, h1, h2⟩ := lk_zip this
      simp at h1; subst h1; exact h2
    refine { size := ?_, defers := rfl, renv := ?_, rheap := ?_, inj := ?_, imm := fun _ _ h => h, base := rfl, imm0 := fun _ _ h => h, below := Below.refl _ _, senv := ?_, shp := ?_ }
    · simp only [Array.size_append, Array.size_replicate, hN]
      have := hlen x
      simp at hsz; omega
    · intro s v hs
      obtain ⟨y, hy, hp, hr⟩ := hreps.get (henv s v hs)
      have hlt : s < vals.size := by
        rcases Nat.lt_or_ge s vals.size with h | h
        · exact h
        · simp [Array.getElem?_eq_none h] at hy
      refine ⟨y, ?_, (Rep.one hp).2 hr⟩
      rw [Array.getElem?_append_left hlt]
      simpa using hy
    · intro n c hn; simp [start, St.fs, St.h, lk] at hn
    · intro n m hn; simp [start, St.fs, St.h, lk] at hn
    · intro s v hs; exact nameds_none (AV.nameds_get (hnamed x) (henv s v hs))
    · intro n c hn; simp [start, St.fs, St.h, lk] at hn
  refine codeK_sound hc hG code (hl w hG) (start (encA x)) _ r _ w ((link x).trans hF) hrel _ fun ex S' a' w' h1 h2 => ?_
  obtain ⟨E, h2⟩ := h2
  have fin : ∀ h1 : resultsK cx S' fn.results.toList decR = some r, bodyPost cx.P fn (fun en w' => ∃ v, en = .returned v ∧ CallPost e r w v w') .ret a' w' := by
    intro h1
    obtain ⟨l, vs, g1, g2, g3, g4⟩ := resultsK_sound trivial h2 _ _ _ h1
    have := hr l r g1
    subst this
    refine ⟨h2.defers, _, ?_, _, rfl, h2.below, one_rep g3, one_named g4⟩
    rw [results_eq]
    simp only [Array.mapM_eq_mapM_toList, Sem.run_bind, Sem.run_map, g2, Result.andThen_ok, Sem.run_pure]
  cases ex with
  | normal => exact fin h1
  | ret => exact fin h1
  | exit id => simp [finK] at h1
end
end Go.Sy
