/- Closures that are put off and recover. -/
import Derived.Test.YtapnedegcnmhgaaDoorSyT
import Derived.Recover
set_option linter.unusedVariables false
set_option linter.unusedSimpArgs false
namespace Go.Sy
open Go Go.RowKit
noncomputable section

section
variable {cx : Cx} {G : Ini → Prop} {w0 : Ini} {N : Nat}

theorem Mem.withD {b : Ini} {E : Emb} {hp : Nat → Option AV} {w : World} (D : List Deferred) (h : Mem b E hp w) : Mem { b with D := D } E hp w :=
  { rheap := h.rheap, inj := h.inj, imm := h.imm, imle := h.imle, pers := h.pers, new := h.new, imm0 := h.imm0, below := h.below, shp := h.shp, fixed := h.fixed, gone := h.gone, newn := h.newn }

/-- A function's answers, laid out as its contract says. -/
theorem ret_post (e : Entry) {fn : Func} {E : Emb} {w w' : World} {a : Act} {S : St} {b : Ini} (hmem : ∀ E' hp, Mem b E' hp w' → Mem (iniOf E e.nb w) E' hp w') (hnb : e.nb ≤ 1000) {decR : St → Option e.ρ} {r : e.ρ}
    (hr : ∀ (S : St) (l : List AV) r, decR (S.res l) = some r → ∃ v : View, v.ok = true ∧ (outS e r).SubV (S.res l) v ∧ (outS e r).inScope = true)
    (hres : ∀ r, (e.enc r).length = fn.results.size) (hpl : ∀ r, ∀ v ∈ e.enc r, v.plain = true)
    (h2 : RelF b N S.fs a w') (h1 : (resultsK cx S fn.results.toList fun l => decR (S.res l)) = some r) :
    ∃ v, (results fn a.tmps).run cx.P w' = .ok v w' ∧ CallPost e E r w v w' := by
  obtain ⟨E', h2⟩ := h2
  obtain ⟨l, vs, g1, g2, g3, g4, g5⟩ := resultsK_sound h2 _ _ _ h1
  obtain ⟨v, hv, hs, hsc'⟩ := hr S l r g1
  have hrun : (results fn a.tmps).run cx.P w' = .ok (if hs : vs.toArray.size = 1 then vs.toArray[0] else .tuple vs.toArray) w' := by
    rw [results_eq]
    simp only [Array.mapM_eq_mapM_toList, Sem.run_bind, Sem.run_map, g2, Result.andThen_ok, Sem.run_pure]
  refine ⟨_, hrun, ?_⟩
  have hlv := g3.length
  have hrel' : Rel (iniOf E e.nb w) E' vs.length (S.res l).e (S.res l).h { tmps := vs.toArray, defers := [] } w' := by
    refine { hmem _ _ h2.toMem with size := by simp, defers := rfl, renv := ?_, senv := ?_ }
    · intro s u hs
      have hs' : l[s]? = some u := by rw [← hs]; exact lk_range.symm
      obtain ⟨y, hy, hp, hr⟩ := g3.get hs'
      exact ⟨y, by simpa using hy, (Rep.one hp).2 hr⟩
    · intro s u hs
      have hs' : l[s]? = some u := by rw [← hs]; exact lk_range.symm
      exact AV.nameds_get g4 hs'
  have hT := hrel'.view hv hs hsc'
  have he : ∀ (i : Nat) u, (e.enc r)[i]? = some u → (outS e r).e i = some u := fun i u hu => by rw [← hu]; exact lk_range
  refine ⟨E'.view v, hT.toMem, fun j hj => hT.fixed j (E.ρ j, E.cnt j, E.len j) (by simp [iniOf, hj]) (by omega), one_rep (rep1s_of ?_ fun i u hu => ?_), one_named (nameds_of fun i u hu => ?_)⟩
  · rw [hres, g5]; simp
  · obtain ⟨y, hy, hr⟩ := hT.renv i u (he i u hu)
    exact ⟨hpl r u (List.mem_of_getElem? hu), y, by simpa using hy, hr⟩
  · exact hT.senv i u (he i u hu)

/-- The mode of the one that puts off, and what 'recover' tells then. -/
def recU (u : FrameMode) (y : Value) : Prop := (u = .returning ∧ y = .nilIface) ∨ u = .panicking [{ v := y, recovered := false }]

/-- A closure's contract: its last argument is what it recovers. -/
def CallOkD (P : Program) (G : Ini → Prop) (f : Nat) (e : Entry) : Prop :=
  (∀ r, e.pan r = false) ∧
  ∀ (w : World) (E : Emb) (a : e.α) (r : e.ρ) (args bs : List AV) (vals : Array Value) (u : FrameMode) (y : Value), G (iniOf E e.nb w) → Mem (iniOf E e.nb w) E (hpOf bs) w → bs.length = e.nb → (∀ c ∈ bs, c.live = true) →
    e.dec args bs = some a → e.F a = some r → Rep1s E args (vals.toList ++ [y]) → AV.nameds (fun n => (hpOf bs n).isSome) args = true → recU u y →
    CallsD P f vals u w fun en u' w' => ∃ v, en = .returned v ∧ settle u' = .returning ∧ CallPost e E r w v w'

theorem rep1s_last {E : Emb} {y : Value} : ∀ {xs : List Value} {args : List AV}, Rep1s E args (xs ++ [y]) → ∃ l r, args = l ++ [r] ∧ Rep1s E l xs ∧ r.plain = true ∧ Rep1 E r y
  | [], [], h => by simp [Rep1s] at h
  | x :: xs, [], h => by simp [Rep1s] at h
  | [], v :: l, ⟨x, ys, e, hp, h1, h2⟩ => by
    simp only [List.nil_append, List.cons.injEq] at e
    obtain ⟨rfl, rfl⟩ := e
    have := h2.length
    have hl : l = [] := List.length_eq_zero_iff.1 (by simpa using this)
    subst hl
    exact ⟨[], v, rfl, rfl, hp, h1⟩
  | x :: xs, v :: l, ⟨z, ys, e, hp, h1, h2⟩ => by
    simp only [List.cons_append, List.cons.injEq] at e
    obtain ⟨rfl, rfl⟩ := e
    obtain ⟨l', r, g1, g2, g3, g4⟩ := rep1s_last h2
    exact ⟨v :: l', r, by rw [g1]; rfl, ⟨x, xs, rfl, hp, h1, g2⟩, g3, g4⟩

theorem nameds_last {ok : Nat → Bool} {r : AV} : ∀ {l : List AV}, AV.nameds ok (l ++ [r]) = true → AV.nameds ok l = true ∧ r.named ok = true
  | [], h => by simpa [AV.nameds] using h
  | v :: l, h => by
    simp only [List.cons_append, AV.nameds, Bool.and_eq_true] at h ⊢
    exact ⟨⟨h.1, (nameds_last h.2).1⟩, (nameds_last h.2).2⟩

def start3 (args bs : List AV) (d : Nat) (rec : AV) : St := ⟨(d, rec) :: (List.range args.length).zip args, (List.range bs.length).zip bs⟩

theorem fun_soundR (hc : CxOk cx G) {f : Nat} {fn : Func} (hfn : cx.P.funcs[f]? = some fn) {id : Nat} {o : Oper} {C : Code} (hbody : fn.body = some (.seq (.region id #[o] false) C)) (hN : fn.ntmps = cx.N)
    (hrec : ∀ ρ w, (execOp ρ o).run cx.P w = .ok .recover w) (hgd : o.guard = none) {d : Nat} (hd : o.dst = some d) (hdN : d < cx.N)
    (e : Entry) (hnb : e.nb ≤ 1000) (encS : e.α → St)
    (hdec : ∀ args rec bs x, bs.length = e.nb → e.dec (args ++ [rec]) bs = some x → args.length ≤ cx.N ∧ ∃ v : View, v.ok = true ∧ (encS x).SubV (start3 args bs d rec) v ∧ (encS x).inScope = true)
    (decR : St → Option e.ρ)
    (hr : ∀ (S : St) (l : List AV) r, decR (S.res l) = some r → ∃ v : View, v.ok = true ∧ (outS e r).SubV (S.res l) v ∧ (outS e r).inScope = true)
    (hres : ∀ r, (e.enc r).length = fn.results.size) (hpl : ∀ r, ∀ v ∈ e.enc r, v.plain = true)
    (hpan : ∀ r, e.pan r = false)
    (hl : ∀ w0, G w0 → ∀ b ∈ loopsOf C, ∀ le, cx.loops (firstReg b) = some le → LoopOk cx w0 b le)
    (link : ∀ x, codeK cx C (encS x) (finK cx fn.results.toList decR fun _ => none) = e.F x) : CallOkD cx.P G f e := by
  refine ⟨hpan, fun w E x r args bs vals u y hG hM hbl hlive hx hF hreps hnam hu => ?_⟩
  obtain ⟨args, rec, rfl, hreps, hrp, hry⟩ := rep1s_last hreps
  obtain ⟨hnam, hrn⟩ := nameds_last hnam
  refine callsD_of_wpS hfn hbody fun c₀ cs hmode => ?_
  obtain ⟨hlen, v0, hv0, hsub, hsc⟩ := hdec args rec bs x hbl hx
  have hsz := hreps.length
  have hrel0 : Rel (iniOf E e.nb w) E cx.N (start2 args bs).e (start2 args bs).h { tmps := vals ++ Array.replicate (fn.ntmps - vals.size) undef, defers := [] } w := by
    have hh : (start2 args bs).h = hpOf bs := funext fun n => lk_range
    rw [hh]
    refine { hM with size := ?_, defers := rfl, renv := ?_, senv := ?_ }
    · simp only [Array.size_append, Array.size_replicate, hN]
      simp at hsz; omega
    · intro s v hs
      have hs' : args[s]? = some v := by rw [← hs]; exact lk_range.symm
      obtain ⟨y, hy, hp, hr⟩ := hreps.get hs'
      have hlt : s < vals.size := by
        rcases Nat.lt_or_ge s vals.size with h | h
        · exact h
        · simp [Array.getElem?_eq_none h] at hy
      refine ⟨y, ?_, (Rep.one hp).2 hr⟩
      rw [Array.getElem?_append_left hlt]
      simpa using hy
    · intro s v hs
      have hs' : args[s]? = some v := by rw [← hs]; exact lk_range.symm
      exact AV.nameds_get hnam hs'
  have hh : (start2 args bs).h = hpOf bs := funext fun n => lk_range
  have hrel := hrel0.put (dst := some d) (by simpa [dstOK] using hdN) ((Rep.one hrp).2 hry) (by rw [hh]; exact hrn)
  have hstart : RelF (iniOf E e.nb w) cx.N (encS x).fs (({ tmps := vals ++ Array.replicate (fn.ntmps - vals.size) undef, defers := [] } : Act).put (some d) y) w := by
    exact ⟨E.view v0, Rel.view (E := E) (S := start3 args bs d rec) hrel hv0 hsub hsc⟩
  have hC : ∀ u', settle u' = .returning → C.wpS cx.P (bodyPostS cx.P fn c₀ cs fun en u' w' => ∃ v, en = .returned v ∧ settle u' = .returning ∧ CallPost e E r w v w')
      (({ tmps := vals ++ Array.replicate (fn.ntmps - vals.size) undef, defers := [] } : Act).put (some d) y) ({ c₀ with mode := u' } :: cs) w := by
    intro u' hset
    refine wpS_of_wp (codeK_sound hc hG C (hl _ hG) (encS x) _ r _ w ((link x).trans hF) hstart _ fun ex S' z a' w' h1 h2 => ?_)
    have fin : ∀ (h2 : RelF (iniOf E e.nb w) cx.N S'.fs a' w') (h1 : (match ghosts (cx.ghost 2000000) S' with
        | some S => resultsK cx S fn.results.toList fun l => decR (S.res l)
        | none => none) = some r), a'.defers = [] ∧ ∃ u'' : FrameMode, ({ c₀ with mode := u' } :: cs) = { c₀ with mode := u'' } :: cs ∧ ∃ v, (results fn a'.tmps).run cx.P w' = .ok v w' ∧ ∃ v', Ending.returned v = .returned v' ∧ settle u'' = .returning ∧ CallPost e E r w v' w' := by
      intro h2 h1
      split at h1
      · rename_i S1 hgh
        have h3 := ghosts_sound h2 hgh
        obtain ⟨v, g1, g2⟩ := ret_post e (fun _ _ h => h) hnb hr hres hpl h3 h1
        obtain ⟨_, h2⟩ := h2
        exact ⟨h2.defers, u', rfl, v, g1, v, rfl, hset, g2⟩
      · cases h1
    cases ex with
    | normal => obtain ⟨rfl, h2⟩ := h2; exact fin h2 h1
    | ret => obtain ⟨rfl, h2⟩ := h2; exact fin h2 h1
    | exit i => simp [finK] at h1
    | panic =>
      simp only [finK] at h1
      split at h1
      · split at h1 <;> cases h1
      · cases h1
  refine wpS_seq (wpS_region ?_)
  have hrange : List.range (#[o] : Array Oper).size = [0] := rfl
  rw [hrange]
  unfold wpOpsS
  have h0 : (#[o] : Array Oper)[0]? = some o := rfl
  simp only [h0]
  rw [if_pos (by simp [Region.wanted, hgd])]
  rw [hrec]
  simp only [hd]
  rcases hu with ⟨hu, hy⟩ | hu
  · have hr0 : recoverD (c₀ :: cs) = none := by simp [recoverD, hmode, hu]
    rw [hr0]
    simp only [wpOpsS, Exit.thenS]
    have := hC .returning rfl
    rw [hy] at this
    have hcc : ({ c₀ with mode := .returning } : Frame) = c₀ := by rw [hu] at hmode; rw [← hmode]
    rw [hcc] at this
    exact this
  · have hr1 : recoverD (c₀ :: cs) = some (y, { c₀ with mode := .panicking [{ v := y, recovered := true }] } :: cs) := by simp [recoverD, hmode, hu]
    rw [hr1]
    simp only [wpOpsS, Exit.thenS]
    exact hC (.panicking [{ v := y, recovered := true }]) rfl

/-! ### Names below 1000 for own blocks -/

/-- A view, the names below 1000 too. -/
def View.ok0 (v : View) : Bool :=
  nodupN (v.names.map (·.1)) && nodupN (v.names.map (·.2)) && (v.names.all fun q => ((!newN q.1 || newN q.2) && (!froN q.2 || froN q.1))) && v.nils.all fun q => (v.of q.2.2.2).isNone && Nat.ble 1000 q.2.2.2

theorem View.ok_spec0 {v : View} (h : v.ok0 = true) : nodupN (v.names.map (·.1)) = true ∧ nodupN (v.names.map (·.2)) = true ∧ ∀ q ∈ v.nils, v.of q.2.2.2 = none ∧ 1000 ≤ q.2.2.2 := by
  simp only [View.ok0, Bool.and_eq_true, List.all_eq_true] at h
  exact ⟨h.1.1.1, h.1.1.2, fun q hq => ⟨by simpa using (h.2 q hq).1, Nat.le_of_ble_eq_true (h.2 q hq).2⟩⟩
theorem View.ok_fro0 {v : View} (h : v.ok0 = true) {n m : Nat} (hm : v.of m = some n) (hn : froN n = true) : froN m = true := by
  simp only [View.ok0, Bool.and_eq_true, List.all_eq_true] at h
  have := (h.1.2 _ (of_mem hm)).2
  simp only [Bool.or_eq_true, Bool.not_eq_true'] at this
  rcases this with h | h
  · rw [hn] at h; cases h
  · exact h
theorem View.ok_cls0 {v : View} (h : v.ok0 = true) {n m : Nat} (hm : v.of m = some n) (hn : newN m = true) : newN n = true := by
  simp only [View.ok0, Bool.and_eq_true, List.all_eq_true] at h
  have := (h.1.2 _ (of_mem hm)).1
  simp only [Bool.or_eq_true, Bool.not_eq_true'] at this
  rcases this with h | h
  · rw [hn] at h; cases h
  · exact h
theorem View.ok_of0 {v : View} (h : v.ok0 = true) {n m : Nat} (ht : v.to n = some m) : v.of m = some n := mem_of (View.ok_spec0 h).1 (to_mem ht)
theorem View.of_inj0 {v : View} (h : v.ok0 = true) {n m m' : Nat} (h1 : v.of m = some n) (h2 : v.of m' = some n) : m = m' := pair_inj (View.ok_spec0 h).2.1 (of_mem h1) (of_mem h2)
theorem View.nil_of0 {v : View} (h : v.ok0 = true) {q : Bool × Nat × List Step × Nat} (hq : q ∈ v.nils) : v.of q.2.2.2 = none ∧ 1000 ≤ q.2.2.2 := (View.ok_spec0 h).2.2 q hq

theorem atV_true0 {S : St} {v : View} (hv : v.ok0 = true) {m : Nat} {c : AV} (h : S.atV v true m = some c) :
    (∃ n c0 c1, v.of m = some n ∧ S.h n = some c0 ∧ c0.ren v.to = some c1 ∧ c = nilsOf true m v.nils c1) ∨ (v.of m = none ∧ 1000 ≤ m ∧ ∃ s, c = .row s []) := by
  unfold St.atV at h
  split at h
  · rename_i u hu
    have h := (cond_none h).2
    simp at h; subst h
    simp only [St.at0, Option.bind_eq_some_iff] at hu
    obtain ⟨n, h1, c0, h2, h3⟩ := hu
    exact .inl ⟨n, c0, u, h1, h2, h3, rfl⟩
  · simp only [cond_true] at h
    obtain ⟨⟨q, h1, h2⟩, h3⟩ := nilRow_spec h
    exact .inr ⟨by rw [← h2]; exact (View.nil_of0 hv h1).1, by rw [← h2]; exact (View.nil_of0 hv h1).2, h3⟩

theorem Rel.viewG {E : Emb} {ρ : Nat → Nat} {cnt : Nat → Option Nat} {len : Nat → Nat} {fx : Nat → Option (Nat × Option Nat × Nat)} {S : St} {a : Act} {w : World} (h : Rel w0 E N S.e S.h a w) {v : View} (hv : v.ok0 = true) (hvo : ∀ n m, v.of m = some n → ρ m = E.ρ n ∧ cnt m = E.cnt n ∧ len m = E.len n) (hvn : ∀ m, 1000 ≤ m → v.of m = none → cnt m = none ∧ len m = 0)
    (hfix : ∀ j q, fx j = some q → j < 1000 → ρ j = q.1 ∧ cnt j = q.2.1 ∧ len j = q.2.2) {T : St} (hs : T.SubV S v) (hsc : T.inScope = true) : Rel { w0 with fx := fx } { E with ρ := ρ, cnt := cnt, len := len } N T.e T.h a w := by
  let F : Emb := { E with ρ := ρ, cnt := cnt, len := len }
  show Rel { w0 with fx := fx } F N T.e T.h a w
  have hvo : ∀ n m, v.of m = some n → F.ρ m = E.ρ n ∧ F.cnt m = E.cnt n ∧ F.len m = E.len n := hvo
  have hvn : ∀ m, 1000 ≤ m → v.of m = none → F.cnt m = none ∧ F.len m = 0 := hvn
  have hN : Names v.to E F := fun n m hm => hvo n m (View.ok_of0 hv hm)
  have hT : Stays true E F := fun _ _ _ h => h
  have hF : Stays false E F := fun _ _ _ h => h
  have hnil : ∀ q ∈ v.nils, F.cnt q.2.2.2 = none ∧ F.len q.2.2.2 = 0 := fun q hq => by
    exact hvn _ (View.nil_of0 hv hq).2 (View.nil_of0 hv hq).1
  have hat : ∀ m c, T.h m = some c → c.live = true → (F.cnt m).isSome = true → ∃ n c0, v.of m = some n ∧ S.h n = some c0 ∧ c0.live = true ∧ E.cnt n = F.cnt m ∧ E.ρ n = F.ρ m := fun m c hc hl hk => by
    rcases atV_true0 hv (hs.2 m c hc) with ⟨n, c0, c1, h1, h2, h3, h4⟩ | ⟨h1, hbig, s, h2⟩
    · refine ⟨n, c0, h1, h2, ?_, (hvo _ _ h1).2.1.symm, (hvo _ _ h1).1.symm⟩
      rw [← (ren_agg h3).2.2.1]
      cases c1 <;> first | rfl | (rw [h4, nilsOf_undef] at hl; cases hl) | (rw [h4, nilsOf_tup] at hl; cases hl)
    · rw [(hvn _ hbig h1).1] at hk; cases hk
  refine { rheap := ?_, inj := ?_, imm := h.imm, imle := h.imle, pers := h.pers, new := h.new, imm0 := h.imm0, below := h.below, size := h.size, defers := h.defers, shp := (inScope_spec hsc).2, fixed := hfix, gone := fun n k hk => absurd rfl (atV_tup (hs.2 n _ hk) _), newn := ?_, renv := ?_, senv := (inScope_spec hsc).1 }
  rotate_left 2
  · intro m c hm hl hnm hk
    obtain ⟨n, c0, a1, a2, a3, a4, a5⟩ := hat m c hm hl hk
    rw [← a5]
    exact h.newn n c0 a2 a3 (View.ok_cls0 hv a1 hnm) (by rw [a4]; exact hk)
  rotate_left 1
  · intro m c hc hl
    rcases atV_true0 hv (hs.2 m c hc) with ⟨n, c0, c1, h1, h2, h3, h4⟩ | ⟨h1, hbig, s, h2⟩
    · have hl1 : c1.live = true := by
        cases c1 <;> first | rfl | (rw [h4, nilsOf_undef] at hl; cases hl) | (rw [h4, nilsOf_tup] at hl; cases hl)
      have hl0 : c0.live = true := by rw [← (ren_agg h3).2.2.1]; exact hl1
      obtain ⟨g1, g2⟩ := h.rheap n c0 h2 hl0
      obtain ⟨hρ, hcnt, hlen⟩ := hvo _ _ h1
      rcases g2 with ⟨k1, s, rfl⟩ | ⟨xs, T', k1, k2, k3, k4, k5⟩
      · have hr : RepR F c1 [] := by
          simp only [AV.ren, Option.some.injEq] at h3
          subst h3
          exact ⟨[], [], rfl, rfl, fun _ h => by cases h⟩
        have hc1 : c1 = .row s [] := by simp only [AV.ren, Option.some.injEq] at h3; exact h3.symm
        rw [h4, hc1, nilsOf_row]
        refine ⟨fun k hk => ?_, .inl ⟨by rw [hcnt, k1], s, rfl⟩⟩
        rw [hlen]; exact g1 k hk
      · have hr := k3.ren hN hT (.inr hF) h3
        have hc' : c.rowSz = c0.rowSz := by
          rw [h4]
          have hr2 := (nilsOf_rep true m v.nils hnil hr).2.1
          cases c0 <;> simp only [AV.ren, Option.some.injEq, Option.bind_eq_some_iff] at h3 <;> first
            | (subst h3; rw [nilsOf_row])
            | (rw [rowSz_none (by rw [hr2]; first | (obtain ⟨_, _, e⟩ := h3; subst e; rfl) | (subst h3; rfl))]; rfl)
        obtain ⟨r1, r2, r3⟩ := nilsOf_rep true m v.nils hnil hr
        rw [← h4] at r1 r2
        refine ⟨fun k hk => ?_, .inr ⟨xs, T', by rw [hcnt, k1], by rw [hρ]; exact k2, r1, fun f j hj => by
          rw [hρ]
          refine k4 f j fun hfn => ?_
          have := hj (View.ok_fro0 hv h1 hfn)
          rw [hc'] at this; exact this, by rw [hρ]; exact k5⟩⟩
        rw [hlen]
        exact g1 k (by rw [← (ren_agg h3).2.2.2, ← r2]; exact hk)
    · subst h2
      refine ⟨fun k hk => ?_, .inl ⟨(hvn _ hbig h1).1, s, rfl⟩⟩
      simp only [AV.rowLen, List.length_nil, Option.some.injEq] at hk
      subst hk; exact (hvn _ hbig h1).2.symm
  · intro m m' c c' hm hm' l1 l2 k1 k2 e
    obtain ⟨n, c0, a1, a2, a3, a4, a5⟩ := hat m c hm l1 k1
    obtain ⟨n', c0', b1, b2, b3, b4, b5⟩ := hat m' c' hm' l2 k2
    have := h.inj n n' c0 c0' a2 b2 a3 b3 (by rw [a4]; exact k1) (by rw [b4]; exact k2) (by rw [a5, b5, e])
    subst this
    exact View.of_inj0 hv a1 b1
  · intro s u hu
    have := hs.1 s u hu
    unfold St.atV at this
    split at this
    · rename_i u1 hu1
      simp at this; subst this
      simp only [St.at0, Option.bind_eq_some_iff] at hu1
      obtain ⟨u0, h1, h2⟩ := hu1
      obtain ⟨x, hx, hr⟩ := h.renv s u0 h1
      exact ⟨x, hx, nilsOf_rep1 false s v.nils hnil (hr.ren hN hT (.inr hF) h2)⟩
    · cases this


/-! ### The function that puts off -/

/-- The closure that was put off is called. -/
def recK {β : Type} (ce : Entry) (S : St) (caps : List AV) (rec : AV) (k : St → Option β) : Option β :=
  callG.callB S.h none ce (caps ++ [rec]) (reachN S.h 40 (AV.namess (asIs ce.modes (caps ++ [rec]))) []) (fun v δ => k ⟨S.env, δ ++ S.heap⟩) (fun _ _ => none)

theorem recK_sound {β : Type} (hc : CxOk cx G) (hG : G w0) {E : Emb} {S : St} {a : Act} {w : World} (h : Rel w0 E N S.e S.h a w) {g : Nat} {ce : Entry} (hce : CallOkD cx.P G g ce) {caps : List AV} {rec : AV} {cv : List Value} {y : Value}
    (hlen : caps.length = cv.length) (hcv : ∀ (i : Nat) (v : AV) (x : Value), caps[i]? = some v → cv[i]? = some x → Rep E v x) (hry : Rep E rec y) {u : FrameMode} (hu : recU u y) {k : St → Option β} {r : β} (hk : recK ce S caps rec k = some r) :
    CallsD cx.P g cv.toArray u w fun en u' w' => ∃ v, en = .returned v ∧ settle u' = .returning ∧ ∃ T, k T = some r ∧ T.e = S.e ∧ RelF w0 N T.fs a w' := by
  have hargs : (caps ++ [rec]).length = (cv ++ [y]).length := by simp [hlen]
  have hrep : ∀ (i : Nat) (v : AV) (x : Value), (caps ++ [rec])[i]? = some v → (cv ++ [y])[i]? = some x → Rep E v x := by
    intro i v x hv hx
    rcases Nat.lt_or_ge i caps.length with hi | hi
    · rw [List.getElem?_append_left hi] at hv
      rw [List.getElem?_append_left (by omega)] at hx
      exact hcv i v x hv hx
    · rw [List.getElem?_append_right hi] at hv
      rw [List.getElem?_append_right (by omega), ← hlen] at hx
      cases hj : i - caps.length with
      | zero => rw [hj] at hv hx; simp at hv hx; subst hv; subst hx; exact hry
      | succ j => rw [hj] at hv; simp at hv
  unfold recK at hk
  rw [callB_def] at hk
  split at hk
  rotate_left
  · cases hk
  rename_i hc0
  simp only [Bool.and_eq_true] at hc0
  have hnb := Nat.eq_of_beq_eq_true hc0.1
  have hsm := Nat.le_of_ble_eq_true hc0.2.2.1
  have hfr : ∀ n, n ∈ reachN S.h 40 (AV.namess (asIs ce.modes (caps ++ [rec]))) [] → froN n = false := fun n hn => by have := List.all_eq_true.1 hc0.2.2.2 n hn; simpa using this
  have hd := hc0.2.1
  clear hc0
  generalize reachN S.h 40 (AV.namess (asIs ce.modes (caps ++ [rec]))) [] = ns at *
  rw [argsK_eq] at hk
  cases ha : argsK S.h (fun n => placeN n ns) ce.modes (caps ++ [rec]) some with
  | none => rw [ha] at hk; cases hk
  | some args' =>
    rw [ha] at hk
    simp only [Option.bind_some] at hk
    rw [lentK_eq] at hk
    cases hb : lentK S.h (fun n => placeN n ns) ns some with
    | none => rw [hb] at hk; cases hk
    | some bs =>
      rw [hb] at hk
      simp only [Option.bind_some] at hk
      split at hk
      rotate_left
      · cases hk
      rename_i x hx
      cases hF : ce.F x with
      | none => rw [hF] at hk; cases hk
      | some q =>
        rw [hF] at hk
        simp only [Option.bind_some] at hk
        split at hk
        rotate_left
        · cases hk
        rename_i vs bs' hvs hout
        split at hk
        rotate_left
        · cases hk
        rename_i hfin
        simp only [Bool.and_eq_true] at hfin
        rw [hce.1 q] at hk
        simp only [cond_false] at hk
        obtain ⟨hlen', hlent⟩ := lentK_spec hb
        have hlive : ∀ n, n ∈ ns → ∃ c, S.h n = some c ∧ c.live = true := fun n hn => by
          obtain ⟨j, hj, e⟩ := List.getElem_of_mem hn
          obtain ⟨c, c', h1, h2, _⟩ := hlent j n (by rw [List.getElem?_eq_getElem hj, e])
          exact ⟨c, h1, h2⟩
        have hbegin := call_begin h.toMem hd hsm hfr hb
        rw [hnb] at hbegin
        have hGc : G (iniOf (calEmb E ns w) ce.nb w) := hc.keep w0 E S.h w _ _ _ hG h.toMem fun g hg => by
          rw [← hnb] at hg
          obtain ⟨n, h1, h2, h3⟩ := (call_lent hd g).1 hg
          obtain ⟨c, hc1, hl1⟩ := hlive n h1
          exact ⟨n, c, hc1, hl1, h2, h3, hfr n h1⟩
        obtain ⟨g1, g2⟩ := args_sound h.toMem hlive hfr (ok := fun n => (hpOf bs n).isSome) (fun j hj => by
          have : j < bs.length := by omega
          simp [hpOf, List.getElem?_eq_getElem this]) ha hargs hrep
        have hbl : ∀ c ∈ bs, c.live = true := fun c' hc' => by
          obtain ⟨j, hj, e⟩ := List.getElem_of_mem hc'
          obtain ⟨c, c'', h1, h2, h3, h4⟩ := hlent j _ (List.getElem?_eq_getElem (by omega))
          rw [List.getElem?_eq_getElem hj] at h4
          simp at h4
          rw [← e, h4, (ren_agg h3).2.2.1]; exact h2
        refine (hce.2 w _ x q args' bs cv.toArray u y hGc hbegin (by omega) hbl hx hF (by simpa using g1) g2 hu).mono fun en u' w' ⟨v, h1, h2, h3⟩ => ?_
        obtain ⟨E', k1, k2, k3⟩ := call_end h hd hfr hb hnb h3 hvs hout hfin.1 hfin.2
        refine ⟨v, h1, h2, ⟨S.env, (bs' ++ lostN ns) ++ S.heap⟩, hk, rfl, E', ?_⟩
        have hh : (⟨S.env, (bs' ++ lostN ns) ++ S.heap⟩ : St).h = updH S.h (bs' ++ lostN ns) := by
          funext n
          simp only [St.h, updH]
          rw [lk_append]
          cases lk n (bs' ++ lostN ns) <;> rfl
        show Rel w0 E' N S.e (⟨S.env, (bs' ++ lostN ns) ++ S.heap⟩ : St).h a w'
        rw [hh]; exact k1

def dropE (n : Nat) (S : St) : St := ⟨S.env.filter (fun p => !(Nat.beq n p.1)), S.heap⟩

theorem lk_drop {n m : Nat} {v : AV} : ∀ {l : List (Nat × AV)}, lk m (l.filter (fun p => !(Nat.beq n p.1))) = some v → m ≠ n ∧ lk m l = some v
  | [], h => by cases h
  | (j, u) :: l, h => by
    simp only [List.filter_cons] at h
    cases hb : Nat.beq n j
    · rw [hb] at h
      simp only [Bool.not_false, if_true, lk] at h ⊢
      cases hm : Nat.beq m j
      · rw [hm] at h; exact lk_drop h
      · rw [hm] at h
        have := Nat.eq_of_beq_eq_true hm
        subst this
        exact ⟨fun e => (by subst e; simp at hb), h⟩
    · rw [hb] at h
      simp only [Bool.not_true, Bool.false_eq_true, if_false] at h
      obtain ⟨h1, h2⟩ := lk_drop h
      have := Nat.eq_of_beq_eq_true hb
      subst this
      refine ⟨h1, ?_⟩
      simp only [lk, beq_no h1, cond_false]
      exact h2

theorem Rel.pop {E : Emb} {S : St} {a : Act} {w : World} {y : Value} (hsz : a.tmps.size = N) (h : Rel w0 E (N + 1) S.e S.h { a with tmps := a.tmps.push y } w) : Rel w0 E N (dropE N S).e (dropE N S).h a w := by
  refine { h.toMem with size := hsz, defers := h.defers, renv := fun s u hs => ?_, senv := fun s u hs => ?_ }
  · obtain ⟨h1, h2⟩ := lk_drop hs
    obtain ⟨x, g1, g2⟩ := h.renv s u h2
    refine ⟨x, ?_, g2⟩
    simp only [Array.getElem?_push, hsz, if_neg h1] at g1
    exact g1
  · exact h.senv s u (lk_drop hs).2

def capsLow : List AV → Bool
  | [] => true
  | .ptr n _ :: l => Nat.blt n 1000 && capsLow l
  | _ => false

theorem capsLow_keep {F E : Emb} (hk : ∀ n, n < 1000 → E.ρ n = F.ρ n) : ∀ {l : List AV} {xs : List Value}, capsLow l = true → RepCs F l xs → RepCs E l xs
  | [], xs, _, h => h
  | v :: l, xs, hl, h => by
    simp only [RepCs] at h ⊢
    obtain ⟨a, b, e, h1, h2⟩ := h
    cases v <;> simp only [capsLow, Bool.false_eq_true] at hl
    rename_i n p
    simp only [Bool.and_eq_true] at hl
    have hn : n < 1000 := by have := hl.1; simp [Nat.blt] at this; omega
    refine ⟨a, b, e, ?_, capsLow_keep hk hl.2 h2⟩
    simp only [RepC] at h1 ⊢
    rw [hk n hn]; exact h1

def renEq (o : Option (List AV)) (l : List AV) : Bool :=
  match o with
  | some m => capsEq m l
  | none => false

/-- A function that puts a closure off: what is ahead of it, the closure, what is behind it. -/
def deferK {β : Type} (cx : Cx) (A : Code) (mk : Oper) (t g : Nat) (mid : Lay) (vm : View) (caps : List AV) (B : Code) (ce ce2 : Entry) (res : List ResultVar) (decR : St → Option β) (S : St) : Option β :=
  codeK cx A S fun e S => match e with
  | .normal => opK cx mk S.e S.h fun v δ => match v with
    | .fn g' caps0 => if Nat.beq g g' && (capsOK caps && renEq (AV.rens vm.to caps0) caps) then
        match mid.decV vm (S.put (some t) v δ) with
        | some x => codeK cx B (mid.enc x) fun e S => match e with
          | .normal => recK ce S caps .nili fun S => resultsK cx S res fun l => decR (S.res l)
          | .ret => recK ce S caps .nili fun S => resultsK cx S res fun l => decR (S.res l)
          | .panic => match S.e cx.N with
            | some rec => if rec.plain then recK ce2 S caps rec fun S => resultsK cx (dropE cx.N S) res fun l => decR (S.res l) else none
            | none => none
          | .exit _ => none
        | none => none
      else none
    | _ => none
  | _ => none

theorem fun_soundD (hc : CxOk cx G) {f : Nat} {fn : Func} (hfn : cx.P.funcs[f]? = some fn) {A B : Code} {id : Nat} {mk df : Oper} (hbody : fn.body = some (.seq A (.seq (.region id #[mk, df] false) B))) (hN : fn.ntmps = cx.N) (hcall : ∀ args w, (callFunc f args).run cx.P w = .ok (.enter f args) w)
    {t g : Nat} (hmk : mk.dst = some t) (htN : t < cx.N) (hgm : mk.guard = none) (hgd : df.guard = none) (hdd : df.dst = none)
    (hdf : ∀ (ρ : Operand → Value) (w : World) (cv : Array Value), ρ (.tmp t) = .func (.func g) #[] cv → (execOp ρ df).run cx.P w = .ok (.defer ⟨.fn (.func g) cv, #[]⟩) w)
    (hinv : ∀ args w, (callFunc g args).run cx.P w = .ok (.enter g args) w)
    {ce ce2 : Entry} (hce : CallOkD cx.P G g ce) (hce2 : CallOkD cx.P G g ce2) (e : Entry) (mid : Lay) (vm : View) (caps : List AV) (hmid : (mid.ok && (vm.ok0 && (capsLow caps && vm.names.all fun q => Nat.ble e.nb q.1 || Nat.beq q.1 q.2))) = true)
    (hq : e.quiet = true → e.nb = 0 ∧ ∀ r, e.out r = []) (hnb : e.nb ≤ 1000) (encS : e.α → St)
    (hdec : ∀ args bs x, bs.length = e.nb → e.dec args bs = some x → args.length ≤ cx.N ∧ ∃ v : View, v.ok = true ∧ (encS x).SubV (start2 args bs) v ∧ (encS x).inScope = true)
    (decR : St → Option e.ρ)
    (hr : ∀ (S : St) (l : List AV) r, decR (S.res l) = some r → ∃ v : View, v.ok = true ∧ (outS e r).SubV (S.res l) v ∧ (outS e r).inScope = true)
    (hres : ∀ r, (e.enc r).length = fn.results.size) (hpl : ∀ r, ∀ v ∈ e.enc r, v.plain = true) (hpan : ∀ r, e.pan r = false)
    (hlA : ∀ w0, G w0 → ∀ b ∈ loopsOf A, ∀ le, cx.loops (firstReg b) = some le → LoopOk cx w0 b le)
    (hlB : ∀ w0, G w0 → ∀ b ∈ loopsOf B, ∀ le, cx.loops (firstReg b) = some le → LoopOk cx w0 b le)
    (link : ∀ x, deferK cx A mk t g mid vm caps B ce ce2 fn.results.toList decR (encS x) = e.F x) : CallOk cx.P G f e := by
  refine ⟨hq, fun w E x r args bs vals hG hM hbl hlive hx hF hreps hnam => .inl ⟨hcall vals w, ?_⟩⟩
  refine calls_of_wp_defers hfn hbody ?_
  simp only [Bool.and_eq_true] at hmid
  obtain ⟨hmok, hvok, hcl, hvn⟩ := hmid
  have hsz := hreps.length
  obtain ⟨hlen, v0, hv0, hsub, hsc⟩ := hdec args bs x hbl hx
  have hrel : Rel (iniOf E e.nb w) E cx.N (start2 args bs).e (start2 args bs).h { tmps := vals ++ Array.replicate (fn.ntmps - vals.size) undef, defers := [] } w := by
    have hh : (start2 args bs).h = hpOf bs := funext fun n => lk_range
    rw [hh]
    refine { hM with size := ?_, defers := rfl, renv := ?_, senv := ?_ }
    · simp only [Array.size_append, Array.size_replicate, hN]
      simp at hsz; omega
    · intro s v hs
      have hs' : args[s]? = some v := by rw [← hs]; exact lk_range.symm
      obtain ⟨y, hy, hp, hr⟩ := hreps.get hs'
      have hlt : s < vals.size := by
        rcases Nat.lt_or_ge s vals.size with h | h
        · exact h
        · simp [Array.getElem?_eq_none h] at hy
      refine ⟨y, ?_, (Rep.one hp).2 hr⟩
      rw [Array.getElem?_append_left hlt]
      simpa using hy
    · intro s v hs
      have hs' : args[s]? = some v := by rw [← hs]; exact lk_range.symm
      exact AV.nameds_get hnam hs'
  have hstart : RelF (iniOf E e.nb w) cx.N (encS x).fs { tmps := vals ++ Array.replicate (fn.ntmps - vals.size) undef, defers := [] } w := ⟨_, hrel.view hv0 hsub hsc⟩
  have hFx := (link x).trans hF
  unfold deferK at hFx
  refine wp_seq (codeK_sound hc hG A (hlA _ hG) (encS x) _ r _ w hFx hstart _ fun ex S1 z a1 w1 h1 h2 => ?_)
  cases ex with
  | exit i => cases h1
  | ret => cases h1
  | panic => cases h1
  | normal =>
  obtain ⟨rfl, E1, h2⟩ := h2
  simp only at h1
  rw [opK_eq] at h1
  cases hf : opF cx mk S1.e S1.h with
  | none => rw [hf] at h1; cases h1
  | some p =>
  obtain ⟨v, δ⟩ := p
  rw [hf] at h1
  simp only [Option.bind_some] at h1
  split at h1
  rotate_left
  · cases h1
  rename_i g' caps0
  split at h1
  rotate_left
  · cases h1
  rename_i hchk
  simp only [Bool.and_eq_true] at hchk
  obtain ⟨hgg, hcok, hcren⟩ := hchk
  have hgg := Nat.eq_of_beq_eq_true hgg
  subst hgg
  have hcren : AV.rens vm.to caps0 = some caps := by
    unfold renEq at hcren
    split at hcren
    · rename_i m hm
      rw [hm, capsEq_eq hcren]
    · cases hcren
  split at h1
  rotate_left
  · cases h1
  rename_i x2 hx2
  refine wp_seq (wp_region ?_)
  have hrange : List.range (#[mk, df] : Array Oper).size = [0, 1] := rfl
  rw [hrange, wpOps_cons]
  unfold wpOp
  have h0 : (#[mk, df] : Array Oper)[0]? = some mk := rfl
  have h01 : (#[mk, df] : Array Oper)[1]? = some df := rfl
  rw [h0]
  simp only
  rw [if_pos (by simp [Region.wanted, hgm])]
  refine .inl (opF_good hc hG h2 hf _ _ fun E2 y w2 k1 k2 k3 => ?_)
  have ky := ((Rep.one (v := .fn g caps0) rfl).1 k2).cells1 rfl
  simp only [RepC] at ky
  obtain ⟨vs, ey, hvs⟩ := ky
  simp at ey
  have k4 := k1.put (dst := some t) (by simpa [dstOK] using htN) k2 k3
  have hdef1 : a1.defers = [] := h2.defers
  rw [hmk, wpOps_cons]
  unfold wpOp
  rw [h01]
  simp only
  rw [if_pos (by simp [Region.wanted, hgd])]
  have hev : (a1.put (some t) y).eval (.tmp t) = .func (.func g) #[] vs.toArray := by
    have hlt : t < a1.tmps.size := by rw [h2.size]; exact htN
    simp [Act.eval, Act.put, Array.getD_eq_getD_getElem?, hlt, ey]
  refine .inl ?_
  unfold Oper.wp
  rw [hdf _ _ _ hev, Oper.upon_defer, hdd]
  simp only [wpOps]
  -- the names of what the closure holds
  let ρ' : Nat → Nat := fun m => match vm.of m with | some n => E2.ρ n | none => if m < 1000 then E2.ρ m else 0
  let cnt' : Nat → Option Nat := fun m => match vm.of m with | some n => E2.cnt n | none => if m < 1000 then E2.cnt m else none
  let len' : Nat → Nat := fun m => match vm.of m with | some n => E2.len n | none => if m < 1000 then E2.len m else 0
  let fx' : Nat → Option (Nat × Option Nat × Nat) := fun j => if j < 1000 then some (ρ' j, cnt' j, len' j) else none
  let dd : Deferred := ⟨.fn (.func g) vs.toArray, #[]⟩
  have hS2 : Rel (iniOf E e.nb w) E2 cx.N (S1.put (some t) (.fn g caps0) δ).e (S1.put (some t) (.fn g caps0) δ).h (a1.put (some t) y) w2 := by
    have hp := put_fs S1 (some t) (.fn g caps0) δ
    have he : (S1.put (some t) (.fn g caps0) δ).e = upd S1.e (some t) (.fn g caps0) := congrArg FS.e hp
    have hh : (S1.put (some t) (.fn g caps0) δ).h = updH S1.h δ := congrArg FS.h hp
    rw [he, hh]; exact k4
  have hvo : ∀ n m, vm.of m = some n → ρ' m = E2.ρ n ∧ cnt' m = E2.cnt n ∧ len' m = E2.len n := fun n m hm => by simp [ρ', cnt', len', hm]
  have k5 := hS2.viewG (ρ := ρ') (cnt := cnt') (len := len') (fx := fx') hvok hvo
    (fun m hb hm => by have : ¬ m < 1000 := by omega
                       simp [cnt', len', hm, this])
    (fun j q hj hl => by simp only [fx', if_pos hl, Option.some.injEq] at hj; subst hj; exact ⟨rfl, rfl, rfl⟩)
    (T := mid.enc x2) (Lay.decV_sub hx2) (Lay.inScope hmok x2)
  have k6 : Rel { iniOf E e.nb w with fx := fx', D := [dd] } { E2 with ρ := ρ', cnt := cnt', len := len' } cx.N (mid.enc x2).e (mid.enc x2).h ({ a1.put (some t) y with defers := dd :: (a1.put (some t) y).defers }.put none undef) w2 := by
    refine { k5.toMem.withD [dd] with size := k5.size, defers := ?_, renv := k5.renv, senv := k5.senv }
    show dd :: a1.defers = [dd]
    rw [hdef1]
  have hcF : RepCs { E2 with ρ := ρ', cnt := cnt', len := len' } caps vs := RepCs.ren (E := E2) (F := { E2 with ρ := ρ', cnt := cnt', len := len' }) (σ := vm.to) (fun n m hm => hvo n m (View.ok_of0 hvok hm)) (fun _ _ _ h => h) (.inr fun _ _ _ h => h) hcren hvs
  have hG' : G { iniOf E e.nb w with fx := fx', D := [dd] } := hc.defs _ _ _ hG
  have hmem : ∀ w' E' hp, Mem { iniOf E e.nb w with fx := fx', D := [dd] } E' hp w' → Mem (iniOf E e.nb w) E' hp w' := fun w' E' hp h =>
    { rheap := h.rheap, inj := h.inj, imm := h.imm, imle := h.imle, pers := h.pers, new := h.new, imm0 := h.imm0, below := h.below, shp := h.shp, gone := h.gone, newn := h.newn,
      fixed := fun j q hj hl => by
        have h3 := h.fixed j (ρ' j, cnt' j, len' j) (by simp [fx', hl]) hl
        have h4 := k1.fixed j q hj hl
        have hjn : j < e.nb := by
          simp only [iniOf] at hj
          split at hj
          · assumption
          · cases hj
        have h5 : ρ' j = E2.ρ j ∧ cnt' j = E2.cnt j ∧ len' j = E2.len j := by
          cases ho : vm.of j with
          | none => simp [ρ', cnt', len', ho, hl]
          | some n =>
            have := List.all_eq_true.1 hvn _ (of_mem ho)
            simp only [Bool.or_eq_true] at this
            rcases this with h | h
            · have := Nat.le_of_ble_eq_true h; omega
            · have := Nat.eq_of_beq_eq_true h
              subst this
              simp [ρ', cnt', len', ho]
        exact ⟨h3.1.trans (h5.1.trans h4.1), h3.2.1.trans (h5.2.1.trans h4.2.1), h3.2.2.trans (h5.2.2.trans h4.2.2)⟩ }
  have held : ∀ {N' : Nat} {E3 : Emb} {S3 : St} {a3 : Act} {w3 : World}, Rel { iniOf E e.nb w with fx := fx', D := [dd] } E3 N' S3.e S3.h a3 w3 → caps.length = vs.length ∧ ∀ (i : Nat) (v : AV) (x : Value), caps[i]? = some v → vs[i]? = some x → Rep E3 v x := fun {N' E3 S3 a3 w3} h =>
    caps_rep hcok (capsLow_keep (fun n hn => (h.fixed n (ρ' n, cnt' n, len' n) (by simp [fx', hn]) hn).1) hcl hcF)
  have hiv : ∀ w, (invoke (.fn (.func g) vs.toArray) #[]).run cx.P w = .ok (.enter g vs.toArray) w := fun w => by simpa [invoke] using hinv vs.toArray w
  refine codeK_sound hc hG' B (hlB _ hG') (mid.enc x2) _ r _ w2 h1 ⟨_, k6⟩ _ fun ex S3 z a3 w3 m1 m2 => ?_
  have fin : ∀ (h2 : RelF { iniOf E e.nb w with fx := fx', D := [dd] } cx.N S3.fs a3 w3) (m1 : (recK ce S3 caps .nili fun S => resultsK cx S fn.results.toList fun l => decR (S.res l)) = some r),
      Leaves cx.P fn a3.tmps (fun en w' => ∃ v, en = endOf (e.pan r) v ∧ CallPost e E r w v w') a3.defers .returning w3 := by
    intro h2 m1
    obtain ⟨E3, h2⟩ := h2
    have hdef : a3.defers = [dd] := h2.defers
    rw [hdef]
    obtain ⟨q1, q2⟩ := held h2
    refine leaves_cons (by simp) (hiv w3) ((recK_sound hc hG' h2 hce q1 q2 (rec := .nili) (y := .nilIface) ?_ (.inl ⟨rfl, rfl⟩) m1).mono ?_)
    · exact (Rep.one rfl).2 ⟨by simp [RepC, Value.cells], by simp [AV.isAgg], by simp [Value.cells]⟩
    · rintro en u' w' ⟨v, rfl, hset, T, hk, _, hrel⟩
      show Leaves cx.P fn a3.tmps _ [] (settle u') w'
      rw [hset]
      obtain ⟨v2, g1, g2⟩ := ret_post e (hmem w') hnb hr hres hpl hrel hk
      exact ⟨v2, g1, v2, by rw [hpan]; rfl, g2⟩
  cases ex with
  | exit i => cases m1
  | normal => obtain ⟨rfl, m2⟩ := m2; exact fin m2 m1
  | ret => obtain ⟨rfl, m2⟩ := m2; exact fin m2 m1
  | panic =>
    obtain ⟨y', rfl, E3, m2⟩ := m2
    simp only at m1
    split at m1
    rotate_left
    · cases m1
    rename_i rec hrec
    split at m1
    rotate_left
    · cases m1
    have hsz3 : a3.tmps.size = cx.N := by have := m2.size; simp at this; exact this
    obtain ⟨y2, hy2, hry⟩ := m2.renv cx.N rec hrec
    have hy2 : y2 = y' := by simp [← hsz3] at hy2; exact hy2.symm
    subst hy2
    have hdef : a3.defers = [dd] := m2.defers
    show Leaves cx.P fn a3.tmps _ a3.defers (.panicking [{ v := y2, recovered := false }]) w3
    rw [hdef]
    obtain ⟨q1, q2⟩ := held m2
    refine leaves_cons (by simp) (hiv w3) ((recK_sound hc hG' m2 hce2 q1 q2 hry (.inr rfl) m1).mono ?_)
    rintro en u' w' ⟨v, rfl, hset, T, hk, _, E4, hrel⟩
    show Leaves cx.P fn a3.tmps _ [] (settle u') w'
    rw [hset]
    obtain ⟨v2, g1, g2⟩ := ret_post (S := dropE cx.N T) e (hmem w') hnb hr hres hpl ⟨E4, Rel.pop hsz3 hrel⟩ hk
    exact ⟨v2, g1, v2, by rw [hpan]; rfl, g2⟩

/-! ### Contracts made of layouts -/

/-- A closure's: na: how many it has captured; d: where the recovered value goes. -/
def mkR (na d nb : Nat) (modes : List Bool) (inn out : Lay) (F : inn.T → Option out.T) : Entry :=
  { α := inn.T, ρ := out.T, nb := nb, quiet := false, modes := modes,
    dec := fun args bs => cond (Nat.beq args.length (na + 1)) (inn.dec ⟨(d, args.getD na .undef) :: (List.range na).zip args, (List.range bs.length).zip bs⟩) none,
    F := F, enc := fun r => resL 0 (out.enc r), out := fun r => (out.enc r).heap }

theorem start3_eq (args bs : List AV) (d : Nat) (rec : AV) : (⟨(d, (args ++ [rec]).getD args.length .undef) :: (List.range args.length).zip (args ++ [rec]), (List.range bs.length).zip bs⟩ : St) = start3 args bs d rec := by
  have h1 : (args ++ [rec]).getD args.length .undef = rec := by simp
  have h2 : (List.range args.length).zip (args ++ [rec]) = (List.range args.length).zip args := by
    have := List.zip_append (l₁ := List.range args.length) (l₂ := args) (r₁ := []) (r₂ := [rec]) (by simp)
    simpa using this
  rw [h1, h2]; rfl

theorem fun_okR (hc : CxOk cx G) {f : Nat} {fn : Func} (hfn : cx.P.funcs[f]? = some fn) {id : Nat} {o : Oper} {C : Code} (hbody : fn.body = some (.seq (.region id #[o] false) C)) (hN : fn.ntmps = cx.N)
    (hrec : ∀ ρ w, (execOp ρ o).run cx.P w = .ok .recover w) (hgd : o.guard = none) {d : Nat} (hd : o.dst = some d) (hdN : Nat.blt d cx.N = true)
    (na nb : Nat) (modes : List Bool) (inn out : Lay) (F : inn.T → Option out.T) (hnum : (Nat.ble na cx.N && Nat.ble nb 1000 && Nat.beq 0 fn.results.size) = true) (hin : inn.ok = true) (hout : outOk 0 out = true)
    (hl : ∀ w0, G w0 → ∀ b ∈ loopsOf C, ∀ le, cx.loops (firstReg b) = some le → LoopOk cx w0 b le)
    (link : ∀ x, codeK cx C (inn.enc x) (finK cx fn.results.toList out.dec fun _ => none) = F x) : CallOkD cx.P G f (mkR na d nb modes inn out F) := by
  simp only [Bool.and_eq_true] at hnum
  refine fun_soundR hc hfn hbody hN hrec hgd hd (by simp [Nat.blt] at hdN; omega) (mkR na d nb modes inn out F) (Nat.le_of_ble_eq_true hnum.1.2) inn.enc (fun args rec bs x hbs hx => ?_) out.dec (fun S l r hr => resL_out hout hr) (fun r => ?_) (fun r v hv => (resL_plain hout r v hv).1) (fun _ => rfl) hl link
  · have hx : cond (Nat.beq (args ++ [rec]).length (na + 1)) (inn.dec ⟨(d, (args ++ [rec]).getD na .undef) :: (List.range na).zip (args ++ [rec]), (List.range bs.length).zip bs⟩) none = some x := hx
    obtain ⟨h1, h2⟩ := cond_some hx
    have h1 := Nat.eq_of_beq_eq_true h1
    have h1 : args.length = na := by simpa using h1
    subst h1
    rw [start3_eq] at h2
    obtain ⟨v, hv, hs⟩ := Lay.dec_sub hin h2
    exact ⟨Nat.le_of_ble_eq_true hnum.1.1, v, hv, hs, Lay.inScope hin x⟩
  · show (resL 0 (out.enc r)).length = _
    exact Nat.eq_of_beq_eq_true hnum.2

theorem fun_okD (hc : CxOk cx G) {f : Nat} {fn : Func} (hfn : cx.P.funcs[f]? = some fn) {A B : Code} {id : Nat} {mk df : Oper} (hbody : fn.body = some (.seq A (.seq (.region id #[mk, df] false) B))) (hN : fn.ntmps = cx.N) (hcall : ∀ args w, (callFunc f args).run cx.P w = .ok (.enter f args) w)
    {t g : Nat} (hmk : mk.dst = some t) (htN : Nat.blt t cx.N = true) (hgm : mk.guard = none) (hgd : df.guard = none) (hdd : df.dst = none)
    (hdf : ∀ (ρ : Operand → Value) (w : World) (cv : Array Value), ρ (.tmp t) = .func (.func g) #[] cv → (execOp ρ df).run cx.P w = .ok (.defer ⟨.fn (.func g) cv, #[]⟩) w)
    (hinv : ∀ args w, (callFunc g args).run cx.P w = .ok (.enter g args) w)
    {ce ce2 : Entry} (hce : CallOkD cx.P G g ce) (hce2 : CallOkD cx.P G g ce2) (mid : Lay) (vm : View) (caps : List AV)
    (na nr nb : Nat) (modes : List Bool) (inn out : Lay) (F : inn.T → Option out.T) (hmid : (mid.ok && (vm.ok0 && (capsLow caps && vm.names.all fun q => Nat.ble nb q.1 || Nat.beq q.1 q.2))) = true)
    (hnum : (Nat.ble na cx.N && Nat.ble nb 1000 && Nat.beq nr fn.results.size) = true) (hin : inn.ok = true) (hout : outOk nr out = true)
    (hlA : ∀ w0, G w0 → ∀ b ∈ loopsOf A, ∀ le, cx.loops (firstReg b) = some le → LoopOk cx w0 b le)
    (hlB : ∀ w0, G w0 → ∀ b ∈ loopsOf B, ∀ le, cx.loops (firstReg b) = some le → LoopOk cx w0 b le)
    (link : ∀ x, deferK cx A mk t g mid vm caps B ce ce2 fn.results.toList out.dec (inn.enc x) = F x) : CallOk cx.P G f (mkB na nr nb modes inn out F) := by
  simp only [Bool.and_eq_true] at hnum
  refine fun_soundD hc hfn hbody hN hcall hmk (by simp [Nat.blt] at htN; omega) hgm hgd hdd hdf hinv hce hce2 (mkB na nr nb modes inn out F) mid vm caps hmid (fun h => by cases h) (Nat.le_of_ble_eq_true hnum.1.2) inn.enc (fun args bs x hbs hx => ?_) out.dec (fun S l r hr => resL_out hout hr) (fun r => ?_) (fun r v hv => (resL_plain hout r v hv).1) (fun _ => rfl) hlA hlB link
  · have hx : cond (Nat.beq args.length na) (inn.dec (start2 args bs)) none = some x := hx
    obtain ⟨h1, h2⟩ := cond_some hx
    have h1 := Nat.eq_of_beq_eq_true h1
    obtain ⟨v, hv, hs⟩ := Lay.dec_sub hin h2
    exact ⟨by rw [h1]; exact Nat.le_of_ble_eq_true hnum.1.1, v, hv, hs, Lay.inScope hin x⟩
  · show (resL nr (out.enc r)).length = _
    simp only [resL, List.length_map, List.length_range]
    exact Nat.eq_of_beq_eq_true hnum.2

/-! ### Pieces of a body; a contract of nothing -/

def headC : Code → Code
  | .seq a _ => a
  | c => c
def tailC : Code → Code
  | .seq _ b => b
  | c => c
def firstO : Code → Oper
  | .seq (.region _ ops _) _ => ops.getD 0 default
  | _ => default
def regO (n : Nat) : Code → Oper
  | .seq (.region _ ops _) _ => ops.getD n default
  | _ => default
def callOf : Op → Call
  | .defer c => c
  | _ => default

theorem callOk_none {P : Program} {f : Nat} {e : Entry} (hq : e.quiet = true → e.nb = 0 ∧ ∀ r, e.out r = []) (h : ∀ a, e.F a = none) : CallOk P G f e :=
  ⟨hq, fun w E x r args bs vals _ _ _ _ _ hF => by rw [h] at hF; cases hF⟩

/-- What the model does where a closure is put off. -/
theorem defer_run {P : Program} {o : Oper} {c : Call} {t g : Nat} (ho : o.op = .defer c) (hc : c.callee = .value (.tmp t)) (ha : c.args = #[]) (ρ : Operand → Value) (w : World) (cv : Array Value) (h : ρ (.tmp t) = .func (.func g) #[] cv) :
    (execOp ρ o).run P w = .ok (.defer ⟨.fn (.func g) cv, #[]⟩) w := by
  simp [execOp, ho, resolve, hc, ha, h, Deferred.ofValue]
end
end
end Go.Sy
