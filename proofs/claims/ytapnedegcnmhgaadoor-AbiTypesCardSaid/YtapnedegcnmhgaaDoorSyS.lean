/- Functions: a contract out of the symbolic reading of the body. -/
import Derived.Test.YtapnedegcnmhgaaDoorSyR
set_option linter.unusedVariables false
set_option linter.unusedSimpArgs false
namespace Go.Sy
open Go Go.RowKit
noncomputable section

section
variable {cx : Cx} {G : Ini → Prop} {w0 : Ini} {N : Nat}

def resOf (tmps : Array Value) : ResultVar → Sem Value
  | .tmp t => pure (tmps.getD t undef)
  | .cell c t => do loadVar t (← asAddr (tmps.getD c undef))

theorem results_eq (fn : Func) (tmps : Array Value) : results fn tmps = (do
    let vs ← fn.results.mapM (resOf tmps)
    pure (if h : vs.size = 1 then vs[0] else .tuple vs)) := by
  unfold results
  congr 2

theorem resultsK_sound {β : Type} {S : St} {E : Emb} {a : Act} {w : World} (h : Rel w0 E N S.e S.h a w) : ∀ (res : List ResultVar) (k : List AV → Option β) (r : β), resultsK cx S res k = some r →
    ∃ l vs, k l = some r ∧ (res.mapM (resOf a.tmps)).run cx.P w = .ok vs w ∧ Rep1s E l vs ∧ AV.nameds (fun n => (S.h n).isSome) l = true ∧ vs.length = res.length
  | [], k, r, hr => ⟨[], [], hr, by simp, rfl, rfl, rfl⟩
  | .tmp t :: res, k, r, hr => by
    simp only [resultsK] at hr
    split at hr
    · rename_i v hv
      split at hr
      · rename_i hpl
        obtain ⟨x, hx, hrep⟩ := h.renv t v hv
        obtain ⟨l, vs, g1, g2, g3, g4, g5⟩ := resultsK_sound h res _ r hr
        refine ⟨v :: l, x :: vs, g1, ?_, ⟨x, vs, rfl, hpl, (Rep.one hpl).1 hrep, g3⟩, by simp only [AV.nameds, Bool.and_eq_true]; exact ⟨h.senv t v hv, g4⟩, by simp [g5]⟩
        simp only [List.mapM_cons, Sem.run_bind, resOf, Sem.run_pure, Result.andThen_ok, g2]
        simp [Array.getD_eq_getD_getElem?, hx]
      · cases hr
    · cases hr
  | .cell c t :: res, k, r, hr => by
    simp only [resultsK] at hr
    split at hr
    · rename_i n p hv
      split at hr
      · rename_i b hb
        rw [getB_eq] at hr
        cases hg : gett b p with
        | none => rw [hg] at hr; cases hr
        | some u =>
          rw [hg] at hr
          simp only [Option.bind_some] at hr
          split at hr
          · rename_i hf
            obtain ⟨y, hy, hrep⟩ := h.renv c _ hv
            have hy' : y = _ := Rep1.ptr.1 hrep
            obtain ⟨hlive, blk, T, hk, e1, e2, _⟩ := own_cells h hb hg
            obtain ⟨pre, ys, post, e3, e4, e5⟩ := gett_sound hg e2
            obtain ⟨x, hx, hrx⟩ := run_loadVarT (o := offs p) hf e1 (fun j v hj => by
              have hlt : j < ys.length := by
                rcases Nat.lt_or_ge j ys.length with h' | h'
                · exact h'
                · simp [List.getElem?_eq_none h'] at hj
              rw [← Array.getElem?_toList, e3, List.append_assoc, List.getElem?_append_right (by omega), e4, Nat.add_sub_cancel_left, List.getElem?_append_left hlt]
              exact hj) e5
            obtain ⟨l, vs, g1, g2, g3, g4, g5⟩ := resultsK_sound h res _ r hr
            refine ⟨u :: l, x :: vs, g1, ?_, ⟨x, vs, rfl, (fitsT_spec hf).2.2, hrx, g3⟩, by simp only [AV.nameds, Bool.and_eq_true]; exact ⟨gett_named hg (h.shp n b hb), g4⟩, by simp [g5]⟩
            have hget : a.tmps.getD c undef = .pointer (some ⟨E.ρ n, offs p, none⟩) := by simp [Array.getD_eq_getD_getElem?, hy, hy']
            have hA : (asAddr (a.tmps.getD c undef)).run cx.P w = .ok ⟨E.ρ n, offs p, none⟩ w := by rw [hget]; simp [asAddr]
            simp only [List.mapM_cons, Sem.run_bind, resOf, hA, Sem.run_pure, Result.andThen_ok, hx, g2]
          · cases hr
      · cases hr
    · cases hr

theorem one_rep {E : Emb} {l : List AV} {vs : List Value} (h : Rep1s E l vs) : Rep E (one l) (if hs : vs.toArray.size = 1 then vs.toArray[0] else .tuple vs.toArray) := by
  match l, vs, h with
  | [], vs, h =>
    have : vs = [] := h
    subst this
    exact ⟨[], rfl, rfl⟩
  | [v], vs, ⟨x, ys, e, hp, hr, hn⟩ =>
    have : ys = [] := hn
    subst this; subst e
    simpa [one] using (Rep.one hp).2 hr
  | v :: u :: l, vs, h =>
    obtain ⟨x, ys, e, hp, hr, y, zs, e', h2⟩ := h
    subst e'; subst e
    simp only [one]
    rw [dif_neg (by simp)]
    exact ⟨_, rfl, x, _, rfl, hp, hr, y, zs, rfl, h2⟩

theorem one_named {ok : Nat → Bool} {l : List AV} (h : AV.nameds ok l = true) : (one l).named ok = true := by
  match l, h with
  | [], _ => rfl
  | [v], h => simpa [one, AV.nameds] using h
  | v :: u :: l, h => simpa [one, AV.named] using h

theorem lk_zip {args : List AV} : ∀ {m n : Nat} {v : AV}, lk n ((List.range' m args.length).zip args) = some v → ∃ i, n = m + i ∧ args[i]? = some v := by
  induction args with
  | nil => intro m n v h; simp [lk] at h
  | cons x args ih =>
    intro m n v h
    simp only [List.length_cons, List.range'_succ, List.zip_cons_cons, lk] at h
    cases hb : Nat.beq n m
    · rw [hb] at h
      obtain ⟨i, h1, h2⟩ := ih h
      exact ⟨i + 1, by omega, by simpa using h2⟩
    · rw [hb] at h
      have := Nat.eq_of_beq_eq_true hb
      simp at h; subst h; subst this
      exact ⟨0, rfl, rfl⟩

theorem lk_zip' {args : List AV} : ∀ {m i : Nat} {v : AV}, args[i]? = some v → lk (m + i) ((List.range' m args.length).zip args) = some v := by
  induction args with
  | nil => intro m i v h; simp at h
  | cons x args ih =>
    intro m i v h
    simp only [List.length_cons, List.range'_succ, List.zip_cons_cons, lk]
    cases i with
    | zero => simp at h; simp [h]
    | succ i =>
      have hne : Nat.beq (m + (i + 1)) m = false := beq_no (by omega)
      rw [hne]
      have := ih (m := m + 1) (i := i) (by simpa using h)
      rw [show m + (i + 1) = m + 1 + i by omega]
      exact this

theorem lk_range {args : List AV} {n : Nat} : lk n ((List.range args.length).zip args) = args[n]? := by
  rw [List.range_eq_range']
  cases h : args[n]? with
  | some v => have := lk_zip' (m := 0) h; rw [Nat.zero_add] at this; exact this
  | none =>
    cases h' : lk n ((List.range' 0 args.length).zip args) with
    | none => rfl
    | some v =>
      obtain ⟨i, e, h2⟩ := lk_zip h'
      rw [Nat.zero_add] at e
      subst e; rw [h] at h2; cases h2

theorem Rep1s.length {E : Emb} : ∀ {l : List AV} {vs : List Value}, Rep1s E l vs → l.length = vs.length
  | [], _, h => by have : _ = [] := h; subst this; rfl
  | v :: l, _, ⟨x, ys, e, _, _, h⟩ => by subst e; simp [h.length]

/-- The state at the start, blocks that are lent too. -/
def start2 (args bs : List AV) : St := ⟨(List.range args.length).zip args, (List.range bs.length).zip bs⟩

def outS (e : Entry) (r : e.ρ) : St := ⟨(List.range (e.enc r).length).zip (e.enc r), e.out r⟩

theorem rep1s_of {E : Emb} : ∀ {l : List AV} {vs : List Value}, l.length = vs.length → (∀ (i : Nat) v, l[i]? = some v → v.plain = true ∧ ∃ x, vs[i]? = some x ∧ Rep E v x) → Rep1s E l vs
  | [], [], _, _ => rfl
  | [], _ :: _, h, _ => by simp at h
  | _ :: _, [], h, _ => by simp at h
  | v :: l, x :: vs, h, hr => by
    obtain ⟨h1, y, hy, h2⟩ := hr 0 v rfl
    simp at hy; subst hy
    exact ⟨x, vs, rfl, h1, (Rep.one h1).1 h2, rep1s_of (by simpa using h) (fun i u hu => by simpa using hr (i + 1) u (by simpa using hu))⟩

theorem nameds_of {ok : Nat → Bool} : ∀ {l : List AV}, (∀ (i : Nat) v, l[i]? = some v → v.named ok = true) → AV.nameds ok l = true
  | [], _ => rfl
  | v :: l, h => by
    simp only [AV.nameds, Bool.and_eq_true]
    exact ⟨h 0 v rfl, nameds_of fun i u hu => h (i + 1) u (by simpa using hu)⟩

/-- **A function keeps the contract that the symbolic reading of its body tells.** -/
theorem fun_sound (hc : CxOk cx G) {f : Nat} {fn : Func} (hfn : cx.P.funcs[f]? = some fn) (hb : fn.body.isSome = true) (hN : fn.ntmps = cx.N) (hcall : ∀ args w, (callFunc f args).run cx.P w = .ok (.enter f args) w)
    (e : Entry) (hq : e.quiet = true → e.nb = 0 ∧ ∀ r, e.out r = []) (hnb : e.nb ≤ 1000) (encS : e.α → St)
    (hdec : ∀ args bs x, bs.length = e.nb → e.dec args bs = some x → args.length ≤ cx.N ∧ ∃ v : View, v.ok = true ∧ (encS x).SubV (start2 args bs) v ∧ (encS x).inScope = true)
    (decR decP : St → Option e.ρ)
    (hr : ∀ (S : St) (l : List AV) r, decR (S.res l) = some r → e.pan r = false ∧ ∃ v : View, v.ok = true ∧ (outS e r).SubV (S.res l) v ∧ (outS e r).inScope = true)
    (hrp : ∀ (S : St) (l : List AV) r, decP (S.res l) = some r → e.pan r = true ∧ ∃ v : View, v.ok = true ∧ (outS e r).SubV (S.res l) v ∧ (outS e r).inScope = true)
    (hres : ∀ r, (e.enc r).length = cond (e.pan r) 1 fn.results.size) (hpl : ∀ r, ∀ v ∈ e.enc r, v.plain = true)
    (hl : ∀ w0, G w0 → ∀ b ∈ loopsOf (bodyOf fn), ∀ le, cx.loops (firstReg b) = some le → LoopOk cx w0 b le)
    (link : ∀ x, codeK cx (bodyOf fn) (encS x) (finK cx fn.results.toList decR decP) = e.F x) : CallOk cx.P G f e := by
  refine ⟨hq, fun w E x r args bs vals hG hM hbl hlive hx hF hreps hnam => .inl ⟨hcall vals w, ?_⟩⟩
  obtain ⟨code, hcode⟩ := Option.isSome_iff_exists.1 hb
  refine calls_of_wp hfn hcode ?_
  have hbody : bodyOf fn = code := by simp [bodyOf, hcode]
  rw [hbody] at link hl
  have hsz := hreps.length
  obtain ⟨hlen, v0, hv0, hsub, hsc⟩ := hdec args bs x hbl hx
  have hrel : Rel (iniOf E e.nb w) E cx.N (start2 args bs).e (start2 args bs).h { tmps := vals ++ Array.replicate (fn.ntmps - vals.size) undef, defers := [] } w := by
    have hh : (start2 args bs).h = hpOf bs := funext fun n => lk_range
    rw [hh]
    refine { hM with size := ?_, defers := rfl, renv := ?_, senv := ?_ }
    · simp only [Array.size_append, Array.size_replicate, hN]
      simp at hsz; omega
    · intro s v hs
      have hs' : args[s]? = some v := by rw [← hs]; exact lk_range.symm
      obtain ⟨y, hy, hp, hr⟩ := hreps.get hs'
      have hlt : s < vals.size := by
        rcases Nat.lt_or_ge s vals.size with h | h
        · exact h
        · simp [Array.getElem?_eq_none h] at hy
      refine ⟨y, ?_, (Rep.one hp).2 hr⟩
      rw [Array.getElem?_append_left hlt]
      simpa using hy
    · intro s v hs
      have hs' : args[s]? = some v := by rw [← hs]; exact lk_range.symm
      exact AV.nameds_get hnam hs'
  have hstart : RelF (iniOf E e.nb w) cx.N (encS x).fs { tmps := vals ++ Array.replicate (fn.ntmps - vals.size) undef, defers := [] } w := ⟨_, hrel.view hv0 hsub hsc⟩
  refine codeK_sound hc hG code (hl _ hG) (encS x) _ r _ w ((link x).trans hF) hstart _ fun ex S' z a' w' h1 h2 => ?_
  -- the answers, laid out as the contract says
  have out : ∀ (S' : St) (E' : Emb) (tmps : Array Value) (N' : Nat) (h2 : Rel (iniOf E e.nb w) E' N' S'.e S'.h { tmps := tmps, defers := [] } w') (l : List AV) (vs : List Value),
      l.length = (e.enc r).length → Rep1s E' l vs → AV.nameds (fun n => (S'.h n).isSome) l = true → (∃ v : View, v.ok = true ∧ (outS e r).SubV (S'.res l) v ∧ (outS e r).inScope = true) →
      CallPost e E r w (if hs : vs.toArray.size = 1 then vs.toArray[0] else .tuple vs.toArray) w' := by
    intro S' E' tmps N' h2 l vs hll g3 g4 ⟨v, hv, hs, hsc'⟩
    have hlv := g3.length
    have hrel' : Rel (iniOf E e.nb w) E' vs.length (S'.res l).e (S'.res l).h { tmps := vs.toArray, defers := [] } w' := by
      refine { h2.toMem with size := by simp, defers := rfl, renv := ?_, senv := ?_ }
      · intro s u hs
        have hs' : l[s]? = some u := by rw [← hs]; exact lk_range.symm
        obtain ⟨y, hy, hp, hr⟩ := g3.get hs'
        exact ⟨y, by simpa using hy, (Rep.one hp).2 hr⟩
      · intro s u hs
        have hs' : l[s]? = some u := by rw [← hs]; exact lk_range.symm
        exact AV.nameds_get g4 hs'
    have hT := hrel'.view hv hs hsc'
    have he : ∀ (i : Nat) u, (e.enc r)[i]? = some u → (outS e r).e i = some u := fun i u hu => by rw [← hu]; exact lk_range
    refine ⟨E'.view v, hT.toMem, fun j hj => hT.fixed j (E.ρ j, E.cnt j, E.len j) (by simp [iniOf, hj]) (by omega), one_rep (rep1s_of ?_ fun i u hu => ?_), one_named (nameds_of fun i u hu => ?_)⟩
    · omega
    · obtain ⟨y, hy, hr⟩ := hT.renv i u (he i u hu)
      exact ⟨hpl r u (List.mem_of_getElem? hu), y, by simpa using hy, hr⟩
    · exact hT.senv i u (he i u hu)
  have fin0 : ∀ (S' : St) (h2 : RelF (iniOf E e.nb w) cx.N S'.fs a' w') (h1 : (resultsK cx S' fn.results.toList fun l => decR (S'.res l)) = some r), bodyPost cx.P fn (fun en w' => ∃ v, en = endOf (e.pan r) v ∧ CallPost e E r w v w') .ret a' w' := by
    intro S' h2 h1
    obtain ⟨E', h2⟩ := h2
    obtain ⟨l, vs, g1, g2, g3, g4, g5⟩ := resultsK_sound h2 _ _ _ h1
    obtain ⟨hpan, hv⟩ := hr S' l r g1
    have hrun : (results fn a'.tmps).run cx.P w' = .ok (if hs : vs.toArray.size = 1 then vs.toArray[0] else .tuple vs.toArray) w' := by
      rw [results_eq]
      simp only [Array.mapM_eq_mapM_toList, Sem.run_bind, Sem.run_map, g2, Result.andThen_ok, Sem.run_pure]
    refine ⟨h2.defers, _, hrun, _, by rw [hpan]; rfl, ?_⟩
    have hlv := g3.length
    refine out S' E' a'.tmps cx.N { h2 with renv := h2.renv, senv := h2.senv, size := h2.size, defers := rfl } l vs ?_ g3 g4 hv
    rw [hres, hpan, cond_false, hlv, g5]; simp
  have fin : ∀ (h2 : RelF (iniOf E e.nb w) cx.N S'.fs a' w') (h1 : (match ghosts (cx.ghost 2000000) S' with
      | some S => resultsK cx S fn.results.toList fun l => decR (S.res l)
      | none => none) = some r), bodyPost cx.P fn (fun en w' => ∃ v, en = endOf (e.pan r) v ∧ CallPost e E r w v w') .ret a' w' := by
    intro h2 h1
    split at h1
    · rename_i S1 hgh
      exact fin0 S1 (ghosts_sound h2 hgh) h1
    · cases h1
  cases ex with
  | normal =>
    obtain ⟨rfl, h2⟩ := h2
    exact fin h2 h1
  | ret =>
    obtain ⟨rfl, h2⟩ := h2
    exact fin h2 h1
  | exit id => simp [finK] at h1
  | panic =>
    obtain ⟨y, rfl, E', h2⟩ := h2
    simp only [finK] at h1
    split at h1
    rotate_left
    · cases h1
    rename_i v hv
    split at h1
    rotate_left
    · cases h1
    rename_i hpl'
    obtain ⟨hpan, hvw⟩ := hrp S' [v] r h1
    obtain ⟨y', hy, hrv⟩ := h2.renv cx.N v hv
    have hsz' : a'.tmps.size = cx.N := by have := h2.size; simp at this; exact this
    have hy' : y' = y := by simp [← hsz'] at hy; exact hy.symm
    subst hy'
    refine ⟨h2.defers, y', by rw [hpan]; rfl, ?_⟩
    have := out S' E' _ _ { h2 with renv := h2.renv, senv := h2.senv, size := h2.size, defers := rfl } [v] [y'] (by rw [hres, hpan]; rfl) ⟨y', [], rfl, hpl', (Rep.one hpl').1 hrv, rfl⟩ (by show (v.named _ && true) = true; rw [Bool.and_true]; exact h2.senv cx.N v hv) hvw
    simpa using this
end
end
end Go.Sy
