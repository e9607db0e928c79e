/- Functions: a contract out of the symbolic reading of the body. -/
import Derived.Test.YtapnedegcnmhgaaDoorSyKe
import GoSem.Extern.MathBitsCarry
import Derived.Recover
import Derived.Laws.Externs
set_option linter.unusedVariables false
set_option linter.unusedSimpArgs false
namespace Go.Sy
open Go Go.RowKit
noncomputable section

section
variable {cx : Cx} {G : Ini → Prop} {w0 : Ini} {N : Nat}

def resOf (tmps : Array Value) : ResultVar → Sem Value
  | .tmp t => pure (tmps.getD t undef)
  | .cell c t => do loadVar t (← asAddr (tmps.getD c undef))

theorem results_eq (fn : Func) (tmps : Array Value) : results fn tmps = (do
    let vs ← fn.results.mapM (resOf tmps)
    pure (if h : vs.size = 1 then vs[0] else .tuple vs)) := by
  unfold results
  congr 2

theorem resultsK_sound {β : Type} {S : St} {E : Emb} {a : Act} {w : World} (h : Rel w0 E N S.e S.h a w) : ∀ (res : List ResultVar) (k : List AV → Option β) (r : β), resultsK cx S res k = some r →
    ∃ l vs, k l = some r ∧ (res.mapM (resOf a.tmps)).run cx.P w = .ok vs w ∧ Rep1s E l vs ∧ AV.nameds (fun n => (S.h n).isSome) l = true ∧ vs.length = res.length
  | [], k, r, hr => ⟨[], [], hr, by simp, rfl, rfl, rfl⟩
  | .tmp t :: res, k, r, hr => by
    simp only [resultsK] at hr
    split at hr
    · rename_i v hv
      split at hr
      · rename_i hpl
        obtain ⟨x, hx, hrep⟩ := h.renv t v hv
        obtain ⟨l, vs, g1, g2, g3, g4, g5⟩ := resultsK_sound h res _ r hr
        refine ⟨v :: l, x :: vs, g1, ?_, ⟨x, vs, rfl, hpl, (Rep.one hpl).1 hrep, g3⟩, by simp only [AV.nameds, Bool.and_eq_true]; exact ⟨h.senv t v hv, g4⟩, by simp [g5]⟩
        simp only [List.mapM_cons, Sem.run_bind, resOf, Sem.run_pure, Result.andThen_ok, g2]
        simp [Array.getD_eq_getD_getElem?, hx]
      · cases hr
    · cases hr
  | .cell c t :: res, k, r, hr => by
    simp only [resultsK] at hr
    split at hr
    · rename_i n p hv
      split at hr
      · rename_i b hb
        rw [getB_eq] at hr
        cases hg : gett b p with
        | none => rw [hg] at hr; cases hr
        | some u =>
          rw [hg] at hr
          simp only [Option.bind_some] at hr
          split at hr
          · rename_i hf
            obtain ⟨y, hy, hrep⟩ := h.renv c _ hv
            have hy' : y = _ := Rep1.ptr.1 hrep
            obtain ⟨hlive, blk, T, hk, e1, e2, _⟩ := own_cells h hb hg
            obtain ⟨pre, ys, post, e3, e4, e5⟩ := gett_sound hg e2
            obtain ⟨x, hx, hrx⟩ := run_loadVarT (o := offs p) hf e1 (fun j v hj => by
              have hlt : j < ys.length := by
                rcases Nat.lt_or_ge j ys.length with h' | h'
                · exact h'
                · simp [List.getElem?_eq_none h'] at hj
              rw [← Array.getElem?_toList, e3, List.append_assoc, List.getElem?_append_right (by omega), e4, Nat.add_sub_cancel_left, List.getElem?_append_left hlt]
              exact hj) e5
            obtain ⟨l, vs, g1, g2, g3, g4, g5⟩ := resultsK_sound h res _ r hr
            refine ⟨u :: l, x :: vs, g1, ?_, ⟨x, vs, rfl, (fitsT_spec hf).2.2, hrx, g3⟩, by simp only [AV.nameds, Bool.and_eq_true]; exact ⟨gett_named hg (h.shp n b hb), g4⟩, by simp [g5]⟩
            have hget : a.tmps.getD c undef = .pointer (some ⟨E.ρ n, offs p, none⟩) := by simp [Array.getD_eq_getD_getElem?, hy, hy']
            have hA : (asAddr (a.tmps.getD c undef)).run cx.P w = .ok ⟨E.ρ n, offs p, none⟩ w := by rw [hget]; simp [asAddr]
            simp only [List.mapM_cons, Sem.run_bind, resOf, hA, Sem.run_pure, Result.andThen_ok, hx, g2]
          · cases hr
      · cases hr
    · cases hr

theorem one_rep {E : Emb} {l : List AV} {vs : List Value} (h : Rep1s E l vs) : Rep E (one l) (if hs : vs.toArray.size = 1 then vs.toArray[0] else .tuple vs.toArray) := by
  match l, vs, h with
  | [], vs, h =>
    have : vs = [] := h
    subst this
    exact ⟨[], rfl, rfl⟩
  | [v], vs, ⟨x, ys, e, hp, hr, hn⟩ =>
    have : ys = [] := hn
    subst this; subst e
    simpa [one] using (Rep.one hp).2 hr
  | v :: u :: l, vs, h =>
    obtain ⟨x, ys, e, hp, hr, y, zs, e', h2⟩ := h
    subst e'; subst e
    simp only [one]
    rw [dif_neg (by simp)]
    exact ⟨_, rfl, x, _, rfl, hp, hr, y, zs, rfl, h2⟩

theorem one_named {ok : Nat → Bool} {l : List AV} (h : AV.nameds ok l = true) : (one l).named ok = true := by
  match l, h with
  | [], _ => rfl
  | [v], h => simpa [one, AV.nameds] using h
  | v :: u :: l, h => simpa [one, AV.named] using h

theorem lk_zip {args : List AV} : ∀ {m n : Nat} {v : AV}, lk n ((List.range' m args.length).zip args) = some v → ∃ i, n = m + i ∧ args[i]? = some v := by
  induction args with
  | nil => intro m n v h; simp [lk] at h
  | cons x args ih =>
    intro m n v h
    simp only [List.length_cons, List.range'_succ, List.zip_cons_cons, lk] at h
    cases hb : Nat.beq n m
    · rw [hb] at h
      obtain ⟨i, h1, h2⟩ := ih h
      exact ⟨i + 1, by omega, by simpa using h2⟩
    · rw [hb] at h
      have := Nat.eq_of_beq_eq_true hb
      simp at h; subst h; subst this
      exact ⟨0, rfl, rfl⟩

theorem lk_zip' {args : List AV} : ∀ {m i : Nat} {v : AV}, args[i]? = some v → lk (m + i) ((List.range' m args.length).zip args) = some v := by
  induction args with
  | nil => intro m i v h; simp at h
  | cons x args ih =>
    intro m i v h
    simp only [List.length_cons, List.range'_succ, List.zip_cons_cons, lk]
    cases i with
    | zero => simp at h; simp [h]
    | succ i =>
      have hne : Nat.beq (m + (i + 1)) m = false := beq_no (by omega)
      rw [hne]
      have := ih (m := m + 1) (i := i) (by simpa using h)
      rw [show m + (i + 1) = m + 1 + i by omega]
      exact this

theorem lk_range {args : List AV} {n : Nat} : lk n ((List.range args.length).zip args) = args[n]? := by
  rw [List.range_eq_range']
  cases h : args[n]? with
  | some v => have := lk_zip' (m := 0) h; rw [Nat.zero_add] at this; exact this
  | none =>
    cases h' : lk n ((List.range' 0 args.length).zip args) with
    | none => rfl
    | some v =>
      obtain ⟨i, e, h2⟩ := lk_zip h'
      rw [Nat.zero_add] at e
      subst e; rw [h] at h2; cases h2

theorem Rep1s.length {E : Emb} : ∀ {l : List AV} {vs : List Value}, Rep1s E l vs → l.length = vs.length
  | [], _, h => by have : _ = [] := h; subst this; rfl
  | v :: l, _, ⟨x, ys, e, _, _, h⟩ => by subst e; simp [h.length]

/-- The state at the start, blocks that are lent too. -/
def start2 (args bs : List AV) : St := ⟨(List.range args.length).zip args, (List.range bs.length).zip bs⟩

def outS (e : Entry) (r : e.ρ) : St := ⟨(List.range (e.enc r).length).zip (e.enc r), e.out r⟩

theorem rep1s_of {E : Emb} : ∀ {l : List AV} {vs : List Value}, l.length = vs.length → (∀ (i : Nat) v, l[i]? = some v → v.plain = true ∧ ∃ x, vs[i]? = some x ∧ Rep E v x) → Rep1s E l vs
  | [], [], _, _ => rfl
  | [], _ :: _, h, _ => by simp at h
  | _ :: _, [], h, _ => by simp at h
  | v :: l, x :: vs, h, hr => by
    obtain ⟨h1, y, hy, h2⟩ := hr 0 v rfl
    simp at hy; subst hy
    exact ⟨x, vs, rfl, h1, (Rep.one h1).1 h2, rep1s_of (by simpa using h) (fun i u hu => by simpa using hr (i + 1) u (by simpa using hu))⟩

theorem nameds_of {ok : Nat → Bool} : ∀ {l : List AV}, (∀ (i : Nat) v, l[i]? = some v → v.named ok = true) → AV.nameds ok l = true
  | [], _ => rfl
  | v :: l, h => by
    simp only [AV.nameds, Bool.and_eq_true]
    exact ⟨h 0 v rfl, nameds_of fun i u hu => h (i + 1) u (by simpa using hu)⟩

/-- **A function keeps the contract that the symbolic reading of its body tells.** -/
theorem fun_sound (hc : CxOk cx G) {f : Nat} {fn : Func} (hfn : cx.P.funcs[f]? = some fn) (hb : fn.body.isSome = true) (hN : fn.ntmps = cx.N) (hcall : ∀ args w, (callFunc f args).run cx.P w = .ok (.enter f args) w)
    (e : Entry) (hq : e.quiet = true → e.nb = 0 ∧ ∀ r, e.out r = []) (hnb : e.nb ≤ 1000) (encS : e.α → St)
    (hdec : ∀ args bs x, bs.length = e.nb → e.dec args bs = some x → args.length ≤ cx.N ∧ ∃ v : View, v.ok = true ∧ (encS x).SubV (start2 args bs) v ∧ (encS x).inScope = true)
    (decR decP : St → Option e.ρ)
    (hr : ∀ (S : St) (l : List AV) r, decR (S.res l) = some r → e.pan r = false ∧ ∃ v : View, v.ok = true ∧ (outS e r).SubV (S.res l) v ∧ (outS e r).inScope = true)
    (hrp : ∀ (S : St) (l : List AV) r, decP (S.res l) = some r → e.pan r = true ∧ ∃ v : View, v.ok = true ∧ (outS e r).SubV (S.res l) v ∧ (outS e r).inScope = true)
    (hres : ∀ r, (e.enc r).length = cond (e.pan r) 1 fn.results.size) (hpl : ∀ r, ∀ v ∈ e.enc r, v.plain = true)
    (hl : ∀ w0, G w0 → ∀ b ∈ loopsOf (bodyOf fn), ∀ le, cx.loops (firstReg b) = some le → LoopOk cx w0 b le)
    (link : ∀ x, codeK cx (bodyOf fn) (encS x) (finK cx fn.results.toList decR decP) = e.F x) : CallOk cx.P G f e := by
  refine ⟨hq, fun w E x r args bs vals hG hM hbl hlive hx hF hreps hnam => .inl ⟨hcall vals w, ?_⟩⟩
  obtain ⟨code, hcode⟩ := Option.isSome_iff_exists.1 hb
  refine calls_of_wp hfn hcode ?_
  have hbody : bodyOf fn = code := by simp [bodyOf, hcode]
  rw [hbody] at link hl
  have hsz := hreps.length
  obtain ⟨hlen, v0, hv0, hsub, hsc⟩ := hdec args bs x hbl hx
  have hrel : Rel (iniOf E e.nb w) E cx.N (start2 args bs).e (start2 args bs).h { tmps := vals ++ Array.replicate (fn.ntmps - vals.size) undef, defers := [] } w := by
    have hh : (start2 args bs).h = hpOf bs := funext fun n => lk_range
    rw [hh]
    refine { hM with size := ?_, defers := rfl, renv := ?_, senv := ?_ }
    · simp only [Array.size_append, Array.size_replicate, hN]
      simp at hsz; omega
    · intro s v hs
      have hs' : args[s]? = some v := by rw [← hs]; exact lk_range.symm
      obtain ⟨y, hy, hp, hr⟩ := hreps.get hs'
      have hlt : s < vals.size := by
        rcases Nat.lt_or_ge s vals.size with h | h
        · exact h
        · simp [Array.getElem?_eq_none h] at hy
      refine ⟨y, ?_, (Rep.one hp).2 hr⟩
      rw [Array.getElem?_append_left hlt]
      simpa using hy
    · intro s v hs
      have hs' : args[s]? = some v := by rw [← hs]; exact lk_range.symm
      exact AV.nameds_get hnam hs'
  have hstart : RelF (iniOf E e.nb w) cx.N (encS x).fs { tmps := vals ++ Array.replicate (fn.ntmps - vals.size) undef, defers := [] } w := ⟨_, hrel.view hv0 hsub hsc⟩
  refine codeK_sound hc hG code (hl _ hG) (encS x) _ r _ w ((link x).trans hF) hstart _ fun ex S' z a' w' h1 h2 => ?_
  -- the answers, laid out as the contract says
  have out : ∀ (S' : St) (E' : Emb) (tmps : Array Value) (N' : Nat) (h2 : Rel (iniOf E e.nb w) E' N' S'.e S'.h { tmps := tmps, defers := [] } w') (l : List AV) (vs : List Value),
      l.length = (e.enc r).length → Rep1s E' l vs → AV.nameds (fun n => (S'.h n).isSome) l = true → (∃ v : View, v.ok = true ∧ (outS e r).SubV (S'.res l) v ∧ (outS e r).inScope = true) →
      CallPost e E r w (if hs : vs.toArray.size = 1 then vs.toArray[0] else .tuple vs.toArray) w' := by
    intro S' E' tmps N' h2 l vs hll g3 g4 ⟨v, hv, hs, hsc'⟩
    have hlv := g3.length
    have hrel' : Rel (iniOf E e.nb w) E' vs.length (S'.res l).e (S'.res l).h { tmps := vs.toArray, defers := [] } w' := by
      refine { h2.toMem with size := by simp, defers := rfl, renv := ?_, senv := ?_ }
      · intro s u hs
        have hs' : l[s]? = some u := by rw [← hs]; exact lk_range.symm
        obtain ⟨y, hy, hp, hr⟩ := g3.get hs'
        exact ⟨y, by simpa using hy, (Rep.one hp).2 hr⟩
      · intro s u hs
        have hs' : l[s]? = some u := by rw [← hs]; exact lk_range.symm
        exact AV.nameds_get g4 hs'
    have hT := hrel'.view hv hs hsc'
    have he : ∀ (i : Nat) u, (e.enc r)[i]? = some u → (outS e r).e i = some u := fun i u hu => by rw [← hu]; exact lk_range
    refine ⟨E'.view v, hT.toMem, fun j hj => hT.fixed j (E.ρ j, E.cnt j, E.len j) (by simp [iniOf, hj]) (by omega), one_rep (rep1s_of ?_ fun i u hu => ?_), one_named (nameds_of fun i u hu => ?_)⟩
    · omega
    · obtain ⟨y, hy, hr⟩ := hT.renv i u (he i u hu)
      exact ⟨hpl r u (List.mem_of_getElem? hu), y, by simpa using hy, hr⟩
    · exact hT.senv i u (he i u hu)
  have fin0 : ∀ (S' : St) (h2 : RelF (iniOf E e.nb w) cx.N S'.fs a' w') (h1 : (resultsK cx S' fn.results.toList fun l => decR (S'.res l)) = some r), bodyPost cx.P fn (fun en w' => ∃ v, en = endOf (e.pan r) v ∧ CallPost e E r w v w') .ret a' w' := by
    intro S' h2 h1
    obtain ⟨E', h2⟩ := h2
    obtain ⟨l, vs, g1, g2, g3, g4, g5⟩ := resultsK_sound h2 _ _ _ h1
    obtain ⟨hpan, hv⟩ := hr S' l r g1
    have hrun : (results fn a'.tmps).run cx.P w' = .ok (if hs : vs.toArray.size = 1 then vs.toArray[0] else .tuple vs.toArray) w' := by
      rw [results_eq]
      simp only [Array.mapM_eq_mapM_toList, Sem.run_bind, Sem.run_map, g2, Result.andThen_ok, Sem.run_pure]
    refine ⟨h2.defers, _, hrun, _, by rw [hpan]; rfl, ?_⟩
    have hlv := g3.length
    refine out S' E' a'.tmps cx.N { h2 with renv := h2.renv, senv := h2.senv, size := h2.size, defers := rfl } l vs ?_ g3 g4 hv
    rw [hres, hpan, cond_false, hlv, g5]; simp
  have fin : ∀ (h2 : RelF (iniOf E e.nb w) cx.N S'.fs a' w') (h1 : (ghostsK (cx.ghost 2000000) S' fun S => resultsK cx S fn.results.toList fun l => decR (S.res l)) = some r), bodyPost cx.P fn (fun en w' => ∃ v, en = endOf (e.pan r) v ∧ CallPost e E r w v w') .ret a' w' := by
    intro h2 h1
    obtain ⟨S1, h1, h2⟩ := ghostsK_sound h2 h1
    exact fin0 S1 h2 h1
  cases ex with
  | normal =>
    obtain ⟨rfl, h2⟩ := h2
    exact fin h2 h1
  | ret =>
    obtain ⟨rfl, h2⟩ := h2
    exact fin h2 h1
  | exit id => simp [finK] at h1
  | panic =>
    obtain ⟨y, rfl, E', h2⟩ := h2
    simp only [finK] at h1
    split at h1
    rotate_left
    · cases h1
    rename_i v hv
    split at h1
    rotate_left
    · cases h1
    rename_i hpl'
    obtain ⟨hpan, hvw⟩ := hrp S' [v] r h1
    obtain ⟨y', hy, hrv⟩ := h2.renv cx.N v hv
    have hsz' : a'.tmps.size = cx.N := by have := h2.size; simp at this; exact this
    have hy' : y' = y := by simp [← hsz'] at hy; exact hy.symm
    subst hy'
    refine ⟨h2.defers, y', by rw [hpan]; rfl, ?_⟩
    have := out S' E' _ _ { h2 with renv := h2.renv, senv := h2.senv, size := h2.size, defers := rfl } [v] [y'] (by rw [hres, hpan]; rfl) ⟨y', [], rfl, hpl', (Rep.one hpl').1 hrv, rfl⟩ (by show (v.named _ && true) = true; rw [Bool.and_true]; exact h2.senv cx.N v hv) hvw
    simpa using this
end
end
end Go.Sy

set_option linter.unusedVariables false
set_option linter.unusedSimpArgs false
namespace Go.Sy
open Go Go.RowKit
noncomputable section

/-- The shape of a value. -/
inductive Pat where
  | int (k : IntKind) | bool | u256 | arr (s : Sh) (n : Nat) | st (l : List Pat) | isl (fr : Bool) (s : Sh) | pim (fr : Bool) (p : Pat) | nilp
  | sl (n : Nat) (p : List Step) (s : Sh) | own (n : Nat) (s : Sh) | osl (n : Nat) (s : Sh) | nsl (s : Sh) | row (s : Sh) | str | ptr (n : Nat) (p : List Step)
  | el (i : DSh) | isw (fr : Bool) (s : Sh) | nili | ifc (t : TypeId) (p : Pat)

mutual
@[reducible] def Pat.T : Pat → Type
  | .int _ => Int
  | .bool => Bool
  | .u256 => Nat
  | .arr s _ => List s.T
  | .isl _ s => List s.T
  | .pim _ p => p.T
  | .ifc _ p => p.T
  | .st l => Pat.Ts l
  | .nilp => Unit
  | .sl .. => Nat × Nat × Nat
  | .own .. => Unit
  | .osl .. => Nat × Nat
  | .nsl _ => Unit
  | .row s => List s.T
  | .str => List UInt8
  | .ptr .. => Unit
  | .el i => i.T
  | .isw _ s => List s.T × Nat
  | .nili => Unit
@[reducible] def Pat.Ts : List Pat → Type
  | [] => Unit
  | p :: l => match l with
    | [] => p.T
    | _ :: _ => p.T × Pat.Ts l
end

mutual
def Pat.enc : (p : Pat) → p.T → AV
  | .int k, n => .int k n
  | .bool, b => .bool b
  | .u256, x => .u256 x
  | .arr s n, l => .arr s n l
  | .isl fr s, l => .isl fr s l
  | .pim fr p, x => .pim fr (p.enc x)
  | .ifc t p, x => .ifc t (p.enc x)
  | .st l, x => .st (Pat.encs l x)
  | .nilp, _ => .nilp
  | .sl n p s, x => .sl n p s x.1 x.2.1 x.2.2
  | .own n s, _ => .own n s
  | .osl n s, x => .osl n s x.1 x.2
  | .nsl s, _ => .nsl s
  | .row s, l => .row s l
  | .str, l => .str l
  | .ptr n p, _ => .ptr n p
  | .el i, t => .el i t
  | .isw fr s, x => .isw fr s x.1 x.2
  | .nili, _ => .nili
def Pat.encs : (l : List Pat) → Pat.Ts l → List AV
  | [], _ => []
  | [p], x => [p.enc x]
  | p :: q :: l, x => p.enc x.1 :: Pat.encs (q :: l) x.2
end

def stepEq : Step → Step → Bool
  | .fld i o, .fld i' o' => Nat.beq i i' && Nat.beq o o'
  | .idx i o, .idx i' o' => Nat.beq i i' && Nat.beq o o'
  | _, _ => false
def pathEq : List Step → List Step → Bool
  | [], [] => true
  | a :: l, b :: m => stepEq a b && pathEq l m
  | _, _ => false
theorem stepEq_eq {a b : Step} (h : stepEq a b = true) : a = b := by
  cases a <;> cases b <;> simp [stepEq] at h <;> obtain ⟨h1, h2⟩ := h <;> rw [h1, h2]
theorem pathEq_eq : ∀ {a b : List Step}, pathEq a b = true → a = b
  | [], [], _ => rfl
  | [], _ :: _, h => by cases h
  | _ :: _, [], h => by cases h
  | a :: l, b :: m, h => by
    simp only [pathEq, Bool.and_eq_true] at h
    rw [stepEq_eq h.1, pathEq_eq h.2]
theorem shEq_eq {a b : Sh} (h : shEq a b = true) : a = b := shEq_eq' h

mutual
def Pat.dec : (p : Pat) → AV → Option p.T
  | .int k, .int k' n => if k = k' then some n else none
  | .bool, .bool b => some b
  | .u256, .u256 x => some x
  | .arr s n, .arr s' n' l => cond (Nat.beq n n') (castL s s' l) none
  | .isl fr s, .isl fr' s' l => cond (fr == fr') (castL s s' l) none
  | .pim fr p, .pim fr' v => cond (fr == fr') (p.dec v) none
  | .ifc t p, .ifc t' v => cond (Nat.beq t t') (p.dec v) none
  | .st l, .st vs => Pat.decs l vs
  | .nilp, .nilp => some ()
  | .sl n p s, .sl n' p' s' i len cap => cond (Nat.beq n n' && pathEq p p' && shEq s s') (some (i, len, cap)) none
  | .own n s, .own n' s' => cond (Nat.beq n n' && shEq s s') (some ()) none
  | .osl n s, .osl n' s' i len => cond (Nat.beq n n' && shEq s s') (some (i, len)) none
  | .nsl s, .nsl s' => cond (shEq s s') (some ()) none
  | .row s, .row s' l => castL s s' l
  | .str, .str l => some l
  | .el i, .el j t => j.cast i t
  | .isw fr s, .isw fr' s' l n => cond (fr == fr') ((castL s s' l).bind fun l => some (l, n)) none
  | .nili, .nili => some ()
  | .ptr n p, .ptr n' p' => cond (Nat.beq n n' && pathEq p p') (some ()) none
  | _, _ => none
def Pat.decs : (l : List Pat) → List AV → Option (Pat.Ts l)
  | [], [] => some ()
  | [p], [v] => p.dec v
  | p :: q :: l, v :: vs => (p.dec v).bind fun x => (Pat.decs (q :: l) vs).bind fun y => some (x, y)
  | _, _ => none
end

mutual
theorem Pat.dec_enc : ∀ (p : Pat) (v : AV) (x : p.T), p.dec v = some x → v = p.enc x
  | .int k, v, x, h => by
    cases v <;> simp [Pat.dec] at h
    obtain ⟨rfl, rfl⟩ := h; rfl
  | .bool, v, x, h => by
    cases v <;> simp [Pat.dec] at h
    subst h; rfl
  | .u256, v, x, h => by
    cases v <;> simp [Pat.dec] at h
    subst h; rfl
  | .arr s n, v, x, h => by
    cases v <;> simp only [Pat.dec, reduceCtorEq] at h
    rename_i s' n' l
    obtain ⟨hb, h'⟩ := cond_some h
    clear h
    have hb := Nat.eq_of_beq_eq_true hb
    subst hb
    obtain ⟨e, h⟩ := castL_eq h'
    subst e
    subst h; rfl
  | .isl fr s, v, x, h => by
    cases v <;> simp only [Pat.dec, reduceCtorEq] at h
    rename_i fr' s' l
    obtain ⟨hb, h'⟩ := cond_some h
    clear h
    have hb := eq_of_beq hb
    subst hb
    obtain ⟨e, h⟩ := castL_eq h'
    subst e
    subst h; rfl
  | .pim fr p, v, x, h => by
    cases v <;> simp only [Pat.dec, reduceCtorEq] at h
    rename_i fr' v
    obtain ⟨hb, h'⟩ := cond_some h
    have hb := eq_of_beq hb
    subst hb
    rw [Pat.dec_enc p _ _ h']; rfl
  | .ifc t p, v, x, h => by
    cases v <;> simp only [Pat.dec, reduceCtorEq] at h
    rename_i t' v
    obtain ⟨hb, h'⟩ := cond_some h
    have hb := Nat.eq_of_beq_eq_true hb
    subst hb
    rw [Pat.dec_enc p _ _ h']; rfl
  | .own n s, v, x, h => by
    cases v <;> simp only [Pat.dec, reduceCtorEq] at h
    obtain ⟨hb, _⟩ := cond_some h
    simp only [Bool.and_eq_true] at hb
    have h1 := Nat.eq_of_beq_eq_true hb.1
    have h2 := shEq_eq hb.2
    subst h1; subst h2; rfl
  | .osl n s, v, x, h => by
    cases v <;> simp only [Pat.dec, reduceCtorEq] at h
    obtain ⟨hb, h'⟩ := cond_some h
    simp only [Bool.and_eq_true] at hb
    have h1 := Nat.eq_of_beq_eq_true hb.1
    have h2 := shEq_eq hb.2
    subst h1; subst h2
    simp at h'; subst h'; rfl
  | .nsl s, v, x, h => by
    cases v <;> simp only [Pat.dec, reduceCtorEq] at h
    obtain ⟨hb, _⟩ := cond_some h
    have h2 := shEq_eq hb
    subst h2; rfl
  | .row s, v, x, h => by
    cases v <;> simp only [Pat.dec, reduceCtorEq] at h
    obtain ⟨e, h⟩ := castL_eq h
    subst e
    subst h; rfl
  | .str, v, x, h => by
    cases v <;> simp [Pat.dec] at h
    subst h; rfl
  | .nili, v, x, h => by
    cases v <;> simp [Pat.dec] at h
    rfl
  | .el i, v, x, h => by
    cases v <;> simp only [Pat.dec, reduceCtorEq] at h
    obtain ⟨e, h2⟩ := DSh.cast_eq h
    subst e; subst h2; rfl
  | .isw fr s, v, x, h => by
    cases v <;> simp only [Pat.dec, reduceCtorEq] at h
    rename_i fr' s' l n
    obtain ⟨hb, h'⟩ := cond_some h
    clear h
    have hb := eq_of_beq hb
    subst hb
    obtain ⟨l2, h1, h2⟩ := Option.bind_eq_some_iff.1 h'
    obtain ⟨e, h⟩ := castL_eq h1
    subst e
    subst h
    simp at h2; subst h2; rfl
  | .ptr n p, v, x, h => by
    cases v <;> simp only [Pat.dec, reduceCtorEq] at h
    obtain ⟨hb, _⟩ := cond_some h
    simp only [Bool.and_eq_true] at hb
    have h1 := Nat.eq_of_beq_eq_true hb.1
    have h2 := pathEq_eq hb.2
    subst h1; subst h2; rfl
  | .st l, v, x, h => by
    cases v <;> simp [Pat.dec] at h
    rw [Pat.decs_encs l _ _ h]; rfl
  | .nilp, v, x, h => by
    cases v <;> simp [Pat.dec] at h
    rfl
  | .sl n p s, v, x, h => by
    cases v <;> simp only [Pat.dec, reduceCtorEq] at h
    rename_i n' p' s' i len cap
    obtain ⟨hb, h'⟩ := cond_some h
    clear h
    simp only [Bool.and_eq_true] at hb
    obtain ⟨⟨h1, h2⟩, h3⟩ := hb
    have h1 := Nat.eq_of_beq_eq_true h1
    have h2 := pathEq_eq h2
    have h3 := shEq_eq h3
    subst h1; subst h2; subst h3
    simp at h'; subst h'; rfl
theorem Pat.decs_encs : ∀ (l : List Pat) (vs : List AV) (x : Pat.Ts l), Pat.decs l vs = some x → vs = Pat.encs l x
  | [], [], x, _ => rfl
  | [], _ :: _, x, h => by simp [Pat.decs] at h
  | [p], [v], x, h => by
    simp only [Pat.decs] at h
    rw [Pat.dec_enc p _ _ h]; rfl
  | [p], [], x, h => by simp [Pat.decs] at h
  | [p], _ :: _ :: _, x, h => by simp [Pat.decs] at h
  | p :: q :: l, [], x, h => by simp [Pat.decs] at h
  | p :: q :: l, v :: vs, x, h => by
    simp only [Pat.decs, Option.bind_eq_some_iff] at h
    obtain ⟨a, ha, b, hb, h⟩ := h
    simp at h; subst h
    rw [Pat.dec_enc p _ _ ha, Pat.decs_encs (q :: l) _ _ hb]
    rfl
end

theorem castL_self (s : Sh) (l : List s.T) : castL s s l = some l := by
  cases s with
  | d i => cases i <;> rfl
  | _ => simp [castL]
theorem stepEq_self (a : Step) : stepEq a a = true := by cases a <;> simp [stepEq]
theorem pathEq_self : ∀ p : List Step, pathEq p p = true
  | [] => rfl
  | a :: l => by simp [pathEq, stepEq_self, pathEq_self l]
theorem shEq_self (a : Sh) : shEq a a = true := by
  cases a with
  | d i => cases i <;> rfl
  | _ => simp [shEq]
theorem DSh.cast_self (i : DSh) (t : i.T) : i.cast i t = some t := by cases i <;> rfl

mutual
theorem Pat.dec_of_enc : ∀ (p : Pat) (x : p.T), p.dec (p.enc x) = some x
  | .int k, x => by simp [Pat.enc, Pat.dec]
  | .bool, x => rfl
  | .u256, x => rfl
  | .arr s n, x => by simp [Pat.enc, Pat.dec, castL_self]
  | .isl fr s, x => by simp [Pat.enc, Pat.dec, castL_self]
  | .pim fr p, x => by simp only [Pat.enc, Pat.dec, beq_self_eq_true, cond_true]; exact Pat.dec_of_enc p x
  | .ifc t p, x => by simp only [Pat.enc, Pat.dec, Nat.beq_refl, cond_true]; exact Pat.dec_of_enc p x
  | .own n s, x => by simp [Pat.enc, Pat.dec, shEq_self]
  | .osl n s, x => by simp [Pat.enc, Pat.dec, shEq_self]
  | .nsl s, x => by simp [Pat.enc, Pat.dec, shEq_self]
  | .row s, x => by simp [Pat.enc, Pat.dec, castL_self]
  | .str, x => rfl
  | .nili, x => rfl
  | .el i, x => by simp [Pat.enc, Pat.dec, DSh.cast_self]
  | .isw fr s, x => by simp [Pat.enc, Pat.dec, castL_self]
  | .ptr n p, x => by simp [Pat.enc, Pat.dec, pathEq_self]
  | .st l, x => by simp only [Pat.enc, Pat.dec]; exact Pat.decs_of_encs l x
  | .nilp, x => rfl
  | .sl n p s, x => by simp [Pat.enc, Pat.dec, pathEq_self, shEq_self]
theorem Pat.decs_of_encs : ∀ (l : List Pat) (x : Pat.Ts l), Pat.decs l (Pat.encs l x) = some x
  | [], x => rfl
  | [p], x => by simp only [Pat.encs, Pat.decs]; exact Pat.dec_of_enc p x
  | p :: q :: l, x => by
    simp only [Pat.encs, Pat.decs]
    rw [Pat.dec_of_enc p x.1, Pat.decs_of_encs (q :: l) x.2]
    rfl
end

mutual
def Pat.named (ok : Nat → Bool) : Pat → Bool
  | .st l => Pat.nameds ok l
  | .pim _ p => p.named ok
  | .ifc _ p => p.named ok
  | .sl n .. | .own n _ | .osl n _ | .ptr n _ => ok n
  | _ => true
def Pat.nameds (ok : Nat → Bool) : List Pat → Bool
  | [] => true
  | p :: l => p.named ok && Pat.nameds ok l
end

mutual
theorem Pat.enc_named {ok : Nat → Bool} : ∀ (p : Pat) (x : p.T), p.named ok = true → (p.enc x).named ok = true
  | .int k, x, _ => rfl
  | .bool, x, _ => rfl
  | .u256, x, _ => rfl
  | .arr s n, x, _ => rfl
  | .isl fr s, x, _ => rfl
  | .nilp, x, _ => rfl
  | .pim fr p, x, h => by simp only [Pat.named] at h; simp only [Pat.enc, AV.named]; exact Pat.enc_named p x h
  | .ifc t p, x, h => by simp only [Pat.named] at h; simp only [Pat.enc, AV.named]; exact Pat.enc_named p x h
  | .own n s, x, h => h
  | .osl n s, x, h => h
  | .ptr n p, x, h => h
  | .nsl s, x, _ => rfl
  | .row s, x, _ => rfl
  | .str, x, _ => rfl
  | .nili, x, _ => rfl
  | .el i, x, _ => rfl
  | .isw fr s, x, _ => rfl
  | .st l, x, h => by simp only [Pat.named] at h; simp only [Pat.enc, AV.named]; exact Pat.encs_named l x h
  | .sl n p s, x, h => h
theorem Pat.encs_named {ok : Nat → Bool} : ∀ (l : List Pat) (x : Pat.Ts l), Pat.nameds ok l = true → AV.nameds ok (Pat.encs l x) = true
  | [], x, _ => rfl
  | [p], x, h => by
    simp only [Pat.nameds, Bool.and_eq_true] at h
    simp only [Pat.encs, AV.nameds, Bool.and_eq_true]
    exact ⟨Pat.enc_named p x h.1, trivial⟩
  | p :: q :: l, x, h => by
    simp only [Pat.nameds, Bool.and_eq_true] at h
    simp only [Pat.encs, AV.nameds, Bool.and_eq_true]
    refine ⟨Pat.enc_named p x.1 h.1, Pat.encs_named (q :: l) x.2 ?_⟩
    simp only [Pat.nameds, Bool.and_eq_true]; exact h.2
end

theorem Pat.encs_length : ∀ (l : List Pat) (x : Pat.Ts l), (Pat.encs l x).length = l.length
  | [], x => rfl
  | [p], x => rfl
  | p :: q :: l, x => by simp only [Pat.encs, List.length_cons]; rw [Pat.encs_length (q :: l) x.2]; rfl

/-! ### Functions that lend nothing -/

def mkE (ps rs : List Pat) (F : Pat.Ts ps → Option (Pat.Ts rs)) : Entry := { α := Pat.Ts ps, ρ := Pat.Ts rs, nb := 0, quiet := true, modes := [], dec := fun args _ => Pat.decs ps args, F := F, enc := Pat.encs rs, out := fun _ => [] }

def seconds : List (Nat × AV) → List AV
  | [] => []
  | (_, v) :: l => v :: seconds l

theorem seconds_zip : ∀ (l : List AV) (m : Nat), seconds ((List.range' m l.length).zip l) = l
  | [], _ => rfl
  | v :: l, m => by simp only [List.length_cons, List.range'_succ, List.zip_cons_cons, seconds]; rw [seconds_zip l]

theorem seconds_res (S : St) (l : List AV) : seconds (S.res l).env = l := by
  simp only [St.res, List.range_eq_range']; exact seconds_zip l 0

def noView : View := ⟨[], []⟩

theorem atV_no {S : St} {n : Nat} {v : AV} (h : S.e n = some v) (hn : v.named (fun _ => false) = true) : S.atV noView false n = some v := by
  simp [St.atV, St.at0, h, ren_self hn, noView, nilsOf]

mutual
def Pat.plain : Pat → Bool
  | .row _ => false
  | _ => true
def Pat.plains : List Pat → Bool
  | [] => true
  | p :: l => p.plain && Pat.plains l
end

theorem Pat.enc_plain : ∀ (p : Pat) (x : p.T), p.plain = true → (p.enc x).plain = true
  | .int k, x, _ | .bool, x, _ | .u256, x, _ | .arr s n, x, _ | .isl fr s, x, _ | .nilp, x, _ | .pim fr p, x, _ | .ifc t p, x, _ | .st l, x, _ | .sl n p s, x, _ | .own n s, x, _ | .osl n s, x, _ | .ptr n p, x, _ | .nsl s, x, _ | .str, x, _ | .nili, x, _ | .el i, x, _ | .isw fr s, x, _ => rfl
  | .row s, x, h => by cases h
theorem Pat.encs_plain : ∀ (l : List Pat) (x : Pat.Ts l), Pat.plains l = true → ∀ v ∈ Pat.encs l x, v.plain = true
  | [], x, _, v, hv => by cases hv
  | [p], x, h, v, hv => by
    simp only [Pat.plains, Bool.and_eq_true] at h
    simp only [Pat.encs, List.mem_singleton] at hv
    subst hv; exact Pat.enc_plain p x h.1
  | p :: q :: l, x, h, v, hv => by
    rw [Pat.plains, Bool.and_eq_true] at h
    simp only [Pat.encs] at hv
    rcases List.mem_cons.1 hv with e | hv
    · subst e; exact Pat.enc_plain p x.1 h.1
    · exact Pat.encs_plain (q :: l) x.2 h.2 v hv

theorem fun_ok {cx : Cx} {G : Ini → Prop} (hc : CxOk cx G) {f : Nat} {fn : Func} (hfn : cx.P.funcs[f]? = some fn) (hb : fn.body.isSome = true) (hN : fn.ntmps = cx.N) (hcall : ∀ args w, (callFunc f args).run cx.P w = .ok (.enter f args) w)
    (ps rs : List Pat) (F : Pat.Ts ps → Option (Pat.Ts rs)) (hnamed : Pat.nameds (fun _ => false) ps = true) (hrs : (Pat.nameds (fun _ => false) rs && Pat.plains rs && Nat.beq rs.length fn.results.size) = true) (hlen : Nat.ble ps.length cx.N = true)
    (hl : ∀ w0, G w0 → ∀ b ∈ loopsOf (bodyOf fn), ∀ le, cx.loops (firstReg b) = some le → LoopOk cx w0 b le)
    (link : ∀ x, codeK cx (bodyOf fn) (start (Pat.encs ps x)) (finK cx fn.results.toList (fun S => Pat.decs rs (seconds S.env)) fun _ => none) = F x) : CallOk cx.P G f (mkE ps rs F) := by
  simp only [Bool.and_eq_true] at hrs
  have hno : noView.ok = true := rfl
  refine fun_sound hc hfn hb hN hcall (mkE ps rs F) (fun _ => ⟨rfl, fun _ => rfl⟩) (Nat.zero_le _) (fun x => start (Pat.encs ps x)) (fun args bs x hbs hx => ?_) (fun S => Pat.decs rs (seconds S.env)) (fun _ => none) (fun S l r hr => ⟨rfl, ?_⟩) (fun _ _ _ h => by cases h) (fun r => ?_) (fun r => Pat.encs_plain rs r hrs.1.2) hl link
  · have hx : Pat.decs ps args = some x := hx
    have := Pat.decs_encs ps args x hx
    subst this
    have hn := Pat.encs_named ps x hnamed
    refine ⟨Nat.le_trans (Nat.le_of_eq (Pat.encs_length ps x)) (Nat.le_of_ble_eq_true hlen), noView, hno, ⟨fun n u hu => ?_, fun n u hu => by simp [start, St.h, lk] at hu⟩, ?_⟩
    · have hu' : (Pat.encs ps x)[n]? = some u := by rw [← hu]; exact lk_range.symm
      exact atV_no hu (AV.nameds_get hn hu')
    · unfold St.inScope
      simp only [Bool.and_eq_true, List.all_eq_true]
      refine ⟨fun p hp => ?_, fun p hp => by cases hp⟩
      obtain ⟨_, h2⟩ := List.of_mem_zip hp
      obtain ⟨i, hi, e⟩ := List.getElem_of_mem h2
      exact nameds_none (AV.nameds_get hn (List.getElem?_eq_getElem hi ▸ congrArg some e))
  · rw [seconds_res] at hr
    have := Pat.decs_encs rs l r hr
    subst this
    have hn := Pat.encs_named rs r hrs.1.1
    refine ⟨noView, hno, ⟨fun n u hu => ?_, fun n u hu => by simp [outS, mkE, St.h, lk] at hu⟩, ?_⟩
    · have hu' : (Pat.encs rs r)[n]? = some u := by rw [← hu]; exact lk_range.symm
      refine atV_no ?_ (AV.nameds_get hn hu')
      rw [← hu']; exact lk_range
    · unfold St.inScope
      simp only [Bool.and_eq_true, List.all_eq_true]
      refine ⟨fun p hp => ?_, fun p hp => by cases hp⟩
      obtain ⟨_, h2⟩ := List.of_mem_zip hp
      obtain ⟨i, hi, e⟩ := List.getElem_of_mem h2
      exact nameds_none (AV.nameds_get hn (List.getElem?_eq_getElem hi ▸ congrArg some e))
  · exact (Pat.encs_length rs r).trans (Nat.eq_of_beq_eq_true hrs.2)

/-! ### Loop states -/

/-- Constants and variables: true: a block, false: a temporary. -/
structure Lay where
  fix : List (Bool × Nat × AV)
  var : List (Bool × Nat × Pat)
  views : List View

@[reducible] def Lay.T (l : Lay) : Type := Pat.Ts (l.var.map (·.2.2))

def capsEq : List AV → List AV → Bool
  | [], [] => true
  | .ptr n p :: l, .ptr n' p' :: l' => Nat.beq n n' && pathEq p p' && capsEq l l'
  | _, _ => false
theorem capsEq_eq : ∀ {a b : List AV}, capsEq a b = true → a = b
  | [], [], _ => rfl
  | [], _ :: _, h => by simp [capsEq] at h
  | v :: l, b, h => by
    unfold capsEq at h
    split at h
    · rename_i h2; cases h2
    · rename_i h1
      cases h1
      simp only [Bool.and_eq_true] at h
      rw [Nat.eq_of_beq_eq_true h.1.1, pathEq_eq h.1.2, capsEq_eq h.2]
    · cases h

def sameAV : AV → AV → Bool
  | .int k n, .int k' n' => if k = k' then n == n' else false
  | .bool b, .bool b' => b == b'
  | .ptr n p, .ptr n' p' => Nat.beq n n' && pathEq p p'
  | .sl n p s i len cap, .sl n' p' s' i' len' cap' => Nat.beq n n' && pathEq p p' && shEq s s' && Nat.beq i i' && Nat.beq len len' && Nat.beq cap cap'
  | .fn f l, .fn f' l' => Nat.beq f f' && capsEq l l'
  | .nilp, .nilp => true
  | .nili, .nili => true
  | .own n s, .own n' s' => Nat.beq n n' && shEq s s'
  | .nsl s, .nsl s' => shEq s s'
  | _, _ => false

theorem sameAV_eq {a b : AV} (h : sameAV a b = true) : a = b := by
  unfold sameAV at h
  split at h
  · split at h
    · rename_i e; subst e; simp at h; rw [h]
    · cases h
  · simp at h; rw [h]
  · simp only [Bool.and_eq_true] at h
    rw [Nat.eq_of_beq_eq_true h.1, pathEq_eq h.2]
  · simp only [Bool.and_eq_true] at h
    obtain ⟨⟨⟨⟨⟨h1, h2⟩, h3⟩, h4⟩, h5⟩, h6⟩ := h
    rw [Nat.eq_of_beq_eq_true h1, pathEq_eq h2, shEq_eq h3, Nat.eq_of_beq_eq_true h4, Nat.eq_of_beq_eq_true h5, Nat.eq_of_beq_eq_true h6]
  · simp only [Bool.and_eq_true] at h
    rw [Nat.eq_of_beq_eq_true h.1, capsEq_eq h.2]
  · rfl
  · rfl
  · simp only [Bool.and_eq_true] at h
    rw [Nat.eq_of_beq_eq_true h.1, shEq_eq h.2]
  · rw [shEq_eq h]
  · cases h

section
variable (w : View)
def checkL (S : St) : List (Bool × Nat × AV) → Bool
  | [] => true
  | (b, n, v) :: l => match S.atV w b n with
    | some u => cond (sameAV u v) (checkL S l) false
    | none => false

def readL {α : Type} (S : St) : List (Bool × Nat × α) → Option (List AV)
  | [] => some []
  | (b, n, _) :: l => match S.atV w b n with
    | some u => match readL S l with
      | some us => some (u :: us)
      | none => none
    | none => none

end

def putL {α : Type} : List (Bool × Nat × α) → List AV → St → St
  | (b, n, _) :: l, v :: vs, S => putL l vs (cond b ⟨S.env, (n, v) :: S.heap⟩ ⟨(n, v) :: S.env, S.heap⟩)
  | _, _, S => S

def putF : List (Bool × Nat × AV) → St → St
  | (b, n, v) :: l, S => putF l (cond b ⟨S.env, (n, v) :: S.heap⟩ ⟨(n, v) :: S.env, S.heap⟩)
  | _, S => S

def Lay.enc (l : Lay) (x : l.T) : St := putL l.var (Pat.encs (l.var.map (·.2.2)) x) (putF l.fix ⟨[], []⟩)

def Lay.decV (l : Lay) (w : View) (S : St) : Option l.T :=
  cond (checkL w S l.fix) (match readL w S l.var with
    | some vs => Pat.decs _ vs
    | none => none) none

def Lay.decs (l : Lay) (S : St) : List View → Option l.T
  | [] => none
  | w :: ws => match l.decV w S with
    | some x => some x
    | none => l.decs S ws

def Lay.dec (l : Lay) (S : St) : Option l.T := l.decs S l.views

/-- All that T holds lies in S, in the view. -/
def St.In (T S : St) (w : View) : Prop := (∀ n v, (n, v) ∈ T.env → S.atV w false n = some v) ∧ (∀ n v, (n, v) ∈ T.heap → S.atV w true n = some v)

theorem St.In.sub {T S : St} {w : View} (h : T.In S w) : T.SubV S w := ⟨fun n v hv => h.1 n v (lk_mem hv), fun n v hv => h.2 n v (lk_mem hv)⟩

theorem St.In.put {T S : St} {w : View} (h : T.In S w) {b : Bool} {n : Nat} {v : AV} (hv : S.atV w b n = some v) : (cond b (⟨T.env, (n, v) :: T.heap⟩ : St) ⟨(n, v) :: T.env, T.heap⟩).In S w := by
  cases b with
  | true =>
    refine ⟨h.1, fun m u hm => ?_⟩
    rcases List.mem_cons.1 hm with e | hm
    · cases e; exact hv
    · exact h.2 m u hm
  | false =>
    refine ⟨fun m u hm => ?_, h.2⟩
    rcases List.mem_cons.1 hm with e | hm
    · cases e; exact hv
    · exact h.1 m u hm

theorem putF_in {S : St} {w : View} : ∀ (l : List (Bool × Nat × AV)) {T : St}, T.In S w → checkL w S l = true → (putF l T).In S w
  | [], T, h, _ => h
  | (b, n, v) :: l, T, h, hc => by
    simp only [checkL] at hc
    split at hc
    · rename_i u hu
      cases hs : sameAV u v with
      | false => rw [hs] at hc; cases hc
      | true =>
        rw [hs] at hc
        have := sameAV_eq hs
        subst this
        exact putF_in l (h.put hu) hc
    · cases hc

theorem putL_in {α : Type} {S : St} {w : View} : ∀ (l : List (Bool × Nat × α)) {vs : List AV} {T : St}, T.In S w → readL w S l = some vs → (putL l vs T).In S w
  | [], vs, T, h, hr => by simp [readL] at hr; subst hr; exact h
  | (b, n, a) :: l, vs, T, h, hr => by
    simp only [readL] at hr
    split at hr
    · rename_i u hu
      split at hr
      · rename_i us hus
        simp at hr; subst hr
        exact putL_in l (h.put hu) hus
      · cases hr
    · cases hr

theorem Lay.decV_sub {l : Lay} {S : St} {w : View} {x : l.T} (h : l.decV w S = some x) : (l.enc x).SubV S w := by
  unfold Lay.decV at h
  cases hc : checkL w S l.fix with
  | false => rw [hc] at h; cases h
  | true =>
    rw [hc] at h
    simp only [cond_true] at h
    split at h
    · rename_i vs hvs
      have := Pat.decs_encs _ _ _ h
      subst this
      exact (putL_in l.var (putF_in l.fix (T := ⟨[], []⟩) ⟨fun _ _ h => (by cases h), fun _ _ h => (by cases h)⟩ hc) hvs).sub
    · cases h

theorem Lay.decs_sub {l : Lay} {S : St} {x : l.T} : ∀ {ws : List View}, l.decs S ws = some x → ∃ w ∈ ws, (l.enc x).SubV S w
  | [], h => by cases h
  | w :: ws, h => by
    simp only [Lay.decs] at h
    split at h
    · rename_i y hy
      simp at h; subst h
      exact ⟨w, List.mem_cons_self, Lay.decV_sub hy⟩
    · obtain ⟨w', h1, h2⟩ := Lay.decs_sub h
      exact ⟨w', List.mem_cons_of_mem _ h1, h2⟩

/-! Are the blocks there? -/

def Lay.dom (l : Lay) (n : Nat) : Bool := l.fix.any (fun p => p.1 && Nat.beq n p.2.1) || l.var.any (fun p => p.1 && Nat.beq n p.2.1)
def Lay.ok (l : Lay) : Bool := l.views.all View.ok && (l.fix.all (fun p => p.2.2.named l.dom) && l.var.all (fun p => p.2.2.named l.dom))

theorem Lay.dec_sub {l : Lay} (h : l.ok = true) {S : St} {x : l.T} (hx : l.dec S = some x) : ∃ w : View, w.ok = true ∧ (l.enc x).SubV S w := by
  obtain ⟨w, h1, h2⟩ := Lay.decs_sub hx
  simp only [Lay.ok, Bool.and_eq_true, List.all_eq_true] at h
  exact ⟨w, h.1 w h1, h2⟩

theorem lk_of_mem {n : Nat} {v : AV} : ∀ {l : List (Nat × AV)}, (n, v) ∈ l → (lk n l).isSome = true
  | [], h => by cases h
  | (m, u) :: l, h => by
    simp only [lk]
    cases hb : Nat.beq n m
    · rcases List.mem_cons.1 h with e | h
      · cases e; simp at hb
      · exact lk_of_mem h
    · rfl

/-- The keys and values that are put. -/
theorem putF_mem : ∀ (l : List (Bool × Nat × AV)) (T : St), (∀ n v, (n, v) ∈ (putF l T).env → (n, v) ∈ T.env ∨ (false, n, v) ∈ l) ∧ (∀ n v, (n, v) ∈ (putF l T).heap → (n, v) ∈ T.heap ∨ (true, n, v) ∈ l) ∧
    (∀ n v, ((n, v) ∈ T.heap ∨ (true, n, v) ∈ l) → (n, v) ∈ (putF l T).heap)
  | [], T => ⟨fun _ _ h => .inl h, fun _ _ h => .inl h, fun _ _ h => h.elim id (fun h => by cases h)⟩
  | (b, m, u) :: l, T => by
    obtain ⟨h1, h2, h3⟩ := putF_mem l (cond b ⟨T.env, (m, u) :: T.heap⟩ ⟨(m, u) :: T.env, T.heap⟩)
    cases b with
    | true =>
      refine ⟨fun n v h => ?_, fun n v h => ?_, fun n v h => ?_⟩
      · rcases h1 n v h with h | h
        · exact .inl h
        · exact .inr (List.mem_cons_of_mem _ h)
      · rcases h2 n v h with h | h
        · rcases List.mem_cons.1 h with e | h
          · cases e; exact .inr List.mem_cons_self
          · exact .inl h
        · exact .inr (List.mem_cons_of_mem _ h)
      · refine h3 n v ?_
        rcases h with h | h
        · exact .inl (List.mem_cons_of_mem _ h)
        · rcases List.mem_cons.1 h with e | h
          · cases e; exact .inl List.mem_cons_self
          · exact .inr h
    | false =>
      refine ⟨fun n v h => ?_, fun n v h => ?_, fun n v h => ?_⟩
      · rcases h1 n v h with h | h
        · rcases List.mem_cons.1 h with e | h
          · cases e; exact .inr List.mem_cons_self
          · exact .inl h
        · exact .inr (List.mem_cons_of_mem _ h)
      · rcases h2 n v h with h | h
        · exact .inl h
        · exact .inr (List.mem_cons_of_mem _ h)
      · refine h3 n v ?_
        rcases h with h | h
        · exact .inl h
        · rcases List.mem_cons.1 h with e | h
          · cases e
          · exact .inr h

theorem putL_mem : ∀ (l : List (Bool × Nat × Pat)) (x : Pat.Ts (l.map (·.2.2))) (T : St),
    (∀ n v, (n, v) ∈ (putL l (Pat.encs _ x) T).env → (n, v) ∈ T.env ∨ ∃ p, (false, n, p) ∈ l ∧ ∃ y, v = Pat.enc p y) ∧
    (∀ n v, (n, v) ∈ (putL l (Pat.encs _ x) T).heap → (n, v) ∈ T.heap ∨ ∃ b p, (b, n, p) ∈ l ∧ ∃ y, v = Pat.enc p y) ∧
    (∀ n v, (n, v) ∈ T.heap → (n, v) ∈ (putL l (Pat.encs _ x) T).heap) ∧ (∀ n p, (true, n, p) ∈ l → ∃ v, (n, v) ∈ (putL l (Pat.encs _ x) T).heap)
  | [], x, T => ⟨fun _ _ h => .inl h, fun _ _ h => .inl h, fun _ _ h => h, fun _ _ h => by cases h⟩
  | [(b, m, p)], x, T => by
    have hx : Pat.encs (([(b, m, p)] : List (Bool × Nat × Pat)).map (·.2.2)) x = [Pat.enc p x] := rfl
    rw [hx]
    simp only [putL]
    cases b with
    | true =>
      simp only [cond_true]
      refine ⟨fun n v h => .inl h, fun n v h => ?_, fun n v h => List.mem_cons_of_mem _ h, fun n q h => ?_⟩
      · rcases List.mem_cons.1 h with e | h
        · cases e; exact .inr ⟨true, p, List.mem_cons_self, x, rfl⟩
        · exact .inl h
      · rcases List.mem_cons.1 h with e | h
        · cases e; exact ⟨_, List.mem_cons_self⟩
        · cases h
    | false =>
      simp only [cond_false]
      refine ⟨fun n v h => ?_, fun n v h => .inl h, fun n v h => h, fun n q h => ?_⟩
      · rcases List.mem_cons.1 h with e | h
        · cases e; exact .inr ⟨p, List.mem_cons_self, x, rfl⟩
        · exact .inl h
      · rcases List.mem_cons.1 h with e | h
        · cases e
        · cases h
  | (b, m, p) :: q :: l, x, T => by
    have hx : Pat.encs (((b, m, p) :: q :: l : List (Bool × Nat × Pat)).map (·.2.2)) x = Pat.enc p x.1 :: Pat.encs ((q :: l).map (·.2.2)) x.2 := rfl
    rw [hx]
    simp only [putL]
    obtain ⟨h1, h2, h3, h4⟩ := putL_mem (q :: l) x.2 (cond b ⟨T.env, (m, p.enc x.1) :: T.heap⟩ ⟨(m, p.enc x.1) :: T.env, T.heap⟩)
    simp only [putL] at h1 h2 h3 h4
    cases b with
    | true =>
      simp only [cond_true] at h1 h2 h3 h4 ⊢
      refine ⟨fun n v h => ?_, fun n v h => ?_, fun n v h => h3 n v (List.mem_cons_of_mem _ h), fun n r h => ?_⟩
      · rcases h1 n v h with h | ⟨p', h, y⟩
        · exact .inl h
        · exact .inr ⟨p', List.mem_cons_of_mem _ h, y⟩
      · rcases h2 n v h with h | ⟨b', p', h, y⟩
        · rcases List.mem_cons.1 h with e | h
          · cases e; exact .inr ⟨true, p, List.mem_cons_self, x.1, rfl⟩
          · exact .inl h
        · exact .inr ⟨b', p', List.mem_cons_of_mem _ h, y⟩
      · rcases List.mem_cons.1 h with e | h
        · cases e; exact ⟨_, h3 _ _ List.mem_cons_self⟩
        · exact h4 n r h
    | false =>
      simp only [cond_false] at h1 h2 h3 h4 ⊢
      refine ⟨fun n v h => ?_, fun n v h => ?_, fun n v h => h3 n v h, fun n r h => ?_⟩
      · rcases h1 n v h with h | ⟨p', h, y⟩
        · rcases List.mem_cons.1 h with e | h
          · cases e; exact .inr ⟨p, List.mem_cons_self, x.1, rfl⟩
          · exact .inl h
        · exact .inr ⟨p', List.mem_cons_of_mem _ h, y⟩
      · rcases h2 n v h with h | ⟨b', p', h, y⟩
        · exact .inl h
        · exact .inr ⟨b', p', List.mem_cons_of_mem _ h, y⟩
      · rcases List.mem_cons.1 h with e | h
        · cases e
        · exact h4 n r h

theorem Lay.inScope {l : Lay} (h : l.ok = true) (x : l.T) : (l.enc x).inScope = true := by
  obtain ⟨f1, f2, f3⟩ := putF_mem l.fix ⟨[], []⟩
  obtain ⟨h1, h2, h3, h4⟩ := putL_mem l.var x (putF l.fix ⟨[], []⟩)
  simp only [Lay.ok, Bool.and_eq_true, List.all_eq_true] at h
  have hd : ∀ n, l.dom n = true → inDom (l.enc x).heap n = true := by
    intro n hn
    simp only [Lay.dom, Bool.or_eq_true, List.any_eq_true, Bool.and_eq_true] at hn
    rcases hn with ⟨⟨b, m, v⟩, hm, hb, he⟩ | ⟨⟨b, m, p⟩, hm, hb, he⟩
    · simp only at hb he
      subst hb
      have := Nat.eq_of_beq_eq_true he
      subst this
      exact lk_of_mem (h3 _ _ (f3 _ _ (.inr hm)))
    · simp only at hb he
      subst hb
      have := Nat.eq_of_beq_eq_true he
      subst this
      obtain ⟨v, hv⟩ := h4 _ _ hm
      exact lk_of_mem hv
  have fin : ∀ b n v, (b, n, v) ∈ l.fix → v.named (inDom (l.enc x).heap) = true := fun b n v hv => AV.named_mono hd (h.2.1 _ hv)
  have vin : ∀ b n p, (b, n, p) ∈ l.var → ∀ y, (Pat.enc p y).named (inDom (l.enc x).heap) = true := fun b n p hv y => AV.named_mono hd (Pat.enc_named p y (h.2.2 _ hv))
  unfold St.inScope
  simp only [Bool.and_eq_true, List.all_eq_true]
  refine ⟨fun ⟨n, v⟩ hv => ?_, fun ⟨n, v⟩ hv => ?_⟩
  · rcases h1 n v hv with hv | ⟨p, hp, y, rfl⟩
    · rcases f1 n v hv with hv | hv
      · cases hv
      · exact fin _ _ _ hv
    · exact vin _ _ _ hp y
  · rcases h2 n v hv with hv | ⟨b, p, hp, y, rfl⟩
    · rcases f2 n v hv with hv | hv
      · cases hv
      · exact fin _ _ _ hv
    · exact vin _ _ _ hp y

/-! ### Exits -/

@[reducible] def exT : List (Ex × Lay) → Type
  | [] => Empty
  | p :: l => match l with
    | [] => p.2.T
    | _ :: _ => Sum p.2.T (exT l)

def exEnc : (l : List (Ex × Lay)) → exT l → Ex × St
  | [], r => nomatch r
  | [p], r => (p.1, p.2.enc r)
  | p :: q :: l, r => match r with
    | .inl a => (p.1, p.2.enc a)
    | .inr b => exEnc (q :: l) b

def exElim {β : Type} : (l : List (Ex × Lay)) → exT l → (Ex → St → Option β) → Option β
  | [], r, _ => nomatch r
  | [p], r, k => k p.1 (p.2.enc r)
  | p :: q :: l, r, k => sumK r (fun a => k p.1 (p.2.enc a)) (fun b => exElim (q :: l) b k)

theorem exElim_eq {β : Type} : ∀ (l : List (Ex × Lay)) (r : exT l) (k : Ex → St → Option β), exElim l r k = k (exEnc l r).1 (exEnc l r).2
  | [], r, _ => nomatch r
  | [p], r, k => rfl
  | p :: q :: l, .inl a, k => rfl
  | p :: q :: l, .inr b, k => exElim_eq (q :: l) b k

def sameEx : Ex → Ex → Bool
  | .normal, .normal => true
  | .ret, .ret => true
  | .panic, .panic => true
  | .exit a, .exit b => Nat.beq a b
  | _, _ => false

theorem sameEx_eq {a b : Ex} (h : sameEx a b = true) : a = b := by
  cases a <;> cases b <;> first | rfl | cases h | (rw [Nat.eq_of_beq_eq_true h])

def exDec : (l : List (Ex × Lay)) → Ex → St → Option (exT l)
  | [], _, _ => none
  | [p], e, S => cond (sameEx e p.1) (p.2.dec S) none
  | p :: q :: l, e, S => cond (sameEx e p.1) ((p.2.dec S).bind fun x => some (.inl x)) ((exDec (q :: l) e S).bind fun x => some (.inr x))

def exOk : List (Ex × Lay) → Bool
  | [] => true
  | p :: l => p.2.ok && exOk l

theorem exDec_spec : ∀ (l : List (Ex × Lay)) (e : Ex) (S : St) (r : exT l), exOk l = true → exDec l e S = some r → (exEnc l r).1 = e ∧ ∃ w : View, w.ok = true ∧ (exEnc l r).2.SubV S w
  | [], _, _, r, _, _ => nomatch r
  | [p], e, S, r, hk, h => by
    simp only [exOk, Bool.and_eq_true] at hk
    simp only [exDec] at h
    cases hs : sameEx e p.1 with
    | false => rw [hs] at h; cases h
    | true =>
      rw [hs] at h
      exact ⟨(sameEx_eq hs).symm, Lay.dec_sub hk.1 h⟩
  | p :: q :: l, e, S, r, hk, h => by
    rw [exOk, Bool.and_eq_true] at hk
    simp only [exDec] at h
    cases hs : sameEx e p.1 with
    | false =>
      rw [hs] at h
      simp only [cond_false, Option.bind_eq_some_iff] at h
      obtain ⟨x, hx, h⟩ := h
      simp at h; subst h
      exact exDec_spec (q :: l) e S x hk.2 hx
    | true =>
      rw [hs] at h
      simp only [cond_true, Option.bind_eq_some_iff] at h
      obtain ⟨x, hx, h⟩ := h
      simp at h; subst h
      exact ⟨(sameEx_eq hs).symm, Lay.dec_sub hk.1 hx⟩

theorem exEnc_inScope : ∀ (l : List (Ex × Lay)) (r : exT l), exOk l = true → (exEnc l r).2.inScope = true
  | [], r, _ => nomatch r
  | [p], r, h => by
    simp only [exOk, Bool.and_eq_true] at h
    exact Lay.inScope h.1 r
  | p :: q :: l, .inl a, h => by
    simp only [exOk, Bool.and_eq_true] at h
    exact Lay.inScope h.1 a
  | p :: q :: l, .inr b, h => by
    rw [exOk, Bool.and_eq_true] at h
    exact exEnc_inScope (q :: l) b h.2

def mkL (lay : Lay) (exs : List (Ex × Lay)) (F : lay.T → Option (exT exs)) : LEntry :=
  { α := lay.T, ρ := exT exs, dec := lay.dec, F := F, enc := fun _ r => exEnc exs r, run := fun x k => (F x).bind fun r => exElim exs r k, run_eq := fun _ x k => by cases F x <;> simp [exElim_eq] }

/-- A loop that is read in two ways. -/
def orL (a b : LEntry) : LEntry where
    α := a.α ⊕ b.α
    ρ := a.ρ ⊕ b.ρ
    dec := fun S => match a.dec S with
      | some x => some (.inl x)
      | none => match b.dec S with
        | some y => some (.inr y)
        | none => none
    F := fun z => match z with
      | .inl x => (a.F x).bind fun r => some (.inl r)
      | .inr y => (b.F y).bind fun r => some (.inr r)
    enc := fun z q => match z, q with
      | .inl x, .inl r => a.enc x r
      | .inr y, .inr r => b.enc y r
      | _, _ => (.normal, ⟨[], []⟩)
    run := fun z k => match z with
      | .inl x => a.run x k
      | .inr y => b.run y k
    run_eq := fun β z k => by
      cases z with
      | inl x => simp only [a.run_eq]; cases a.F x <;> rfl
      | inr y => simp only [b.run_eq]; cases b.F y <;> rfl

theorem loop_or {cx : Cx} {w0 : Ini} {body : Code} {a b : LEntry} (ha : LoopOk cx w0 body a) (hb : LoopOk cx w0 body b) : LoopOk cx w0 body (orL a b) := by
  intro S z q act w hdec hF hr Q hQ
  simp only [orL] at hdec hF hQ z q
  cases hx : a.dec S with
  | some x =>
    rw [hx] at hdec
    simp at hdec; subst hdec
    simp only [Option.bind_eq_some_iff, Option.some.injEq] at hF
    obtain ⟨r, h1, rfl⟩ := hF
    exact ha S x r act w hx h1 hr Q hQ
  | none =>
    rw [hx] at hdec
    cases hy : b.dec S with
    | none => rw [hy] at hdec; cases hdec
    | some y =>
      rw [hy] at hdec
      simp at hdec; subst hdec
      simp only [Option.bind_eq_some_iff, Option.some.injEq] at hF
      obtain ⟨r, h1, rfl⟩ := hF
      exact hb S y r act w hy h1 hr Q hQ

def roundK (lay : Lay) (exs : List (Ex × Lay)) (e : Ex) (S : St) : Option (Sum lay.T (exT exs)) :=
  match e with
  | .normal => (lay.dec S).bind fun x => some (.inl x)
  | e => (exDec exs e S).bind fun x => some (.inr x)

theorem loop_ok {cx : Cx} {G : Ini → Prop} {w0 : Ini} (hc : CxOk cx G) (hG : G w0) (body : Code) (hl : ∀ b ∈ loopsOf body, ∀ le, cx.loops (firstReg b) = some le → LoopOk cx w0 b le)
    (lay : Lay) (exs : List (Ex × Lay)) (hok : (lay.ok && exOk exs) = true) (f : lay.T → Option (Sum lay.T (exT exs))) (n : lay.T → Nat)
    (link : ∀ x, codeK cx body (lay.enc x) (roundK lay exs) = f x) :
    LoopOk cx w0 body (mkL lay exs fun x => iter f (n x) x) := by
  simp only [Bool.and_eq_true] at hok
  intro S x r a w hdec hF hr Q hQ
  simp only [mkL] at hdec hF hQ x r
  refine wp_loop_rounds (n x) ?_
  have hr' : RelF w0 cx.N (lay.enc x).fs a w := by
    obtain ⟨v, hv, hs⟩ := Lay.dec_sub hok.1 hdec
    exact hr.view hv hs (Lay.inScope hok.1 x)
  clear hr hdec
  generalize n x = m at *
  induction m generalizing x a w with
  | zero => cases hF
  | succ m ih =>
    rw [rounds_succ]
    simp only [iter] at hF
    cases hf : f x with
    | none => rw [hf] at hF; cases hF
    | some q =>
      rw [hf] at hF
      simp only [Option.bind_some] at hF
      have h := link x
      rw [hf] at h
      refine codeK_sound hc hG body hl (lay.enc x) _ q a w h hr' _ fun e S' z a' w' h1 h2 => ?_
      have fin : ∀ e', exitR w0 cx.N e' S' z a' w' → (exDec exs e' S').bind (fun x => some (Sum.inr (α := lay.T) x)) = some q → Q z a' w' := by
        intro e' h2 h1
        simp only [Option.bind_eq_some_iff] at h1
        obtain ⟨r', hq, h1⟩ := h1
        simp at h1; subst h1
        simp at hF; subst hF
        obtain ⟨g1, v, hv, g2⟩ := exDec_spec exs e' S' r' hok.2 hq
        refine hQ z a' w' ?_
        rw [g1]
        exact h2.view hv g2 (exEnc_inScope exs r' hok.2)
      cases e with
      | normal =>
        obtain ⟨rfl, h2⟩ := h2
        simp only [roundK, Option.bind_eq_some_iff] at h1
        obtain ⟨y, hq, h1⟩ := h1
        simp at h1; subst h1
        obtain ⟨v, hv, hs⟩ := Lay.dec_sub hok.1 hq
        exact ih _ a' w' (h2.view hv hs (Lay.inScope hok.1 y)) hF
      | exit id => have h3 := h2; obtain ⟨rfl, _⟩ := h2; exact fin (.exit id) h3 h1
      | ret => have h3 := h2; obtain ⟨rfl, _⟩ := h2; exact fin .ret h3 h1
      | panic => have h3 := h2; obtain ⟨_, rfl, _⟩ := h2; exact fin .panic h3 h1

/-! ### All loops of a text -/

def LAll (cx : Cx) (w0 : Ini) (l : List Code) : Prop := ∀ b ∈ l, ∀ le, cx.loops (firstReg b) = some le → LoopOk cx w0 b le

theorem lall_nil {cx : Cx} {w0 : Ini} : LAll cx w0 [] := fun _ h => by cases h

theorem lall_cut {cx : Cx} {w0 : Ini} {b : Code} {le : LEntry} {l : List Code} (h : LoopOk cx w0 b le) (he : cx.loops (firstReg b) = some le) (ht : LAll cx w0 l) : LAll cx w0 (b :: l) := by
  intro c hc le' hle
  rcases List.mem_cons.1 hc with rfl | hc
  · rw [he] at hle; cases hle; exact h
  · exact ht c hc le' hle

theorem lall_free {cx : Cx} {w0 : Ini} {b : Code} {l : List Code} (he : cx.loops (firstReg b) = none) (ht : LAll cx w0 l) : LAll cx w0 (b :: l) := by
  intro c hc le' hle
  rcases List.mem_cons.1 hc with rfl | hc
  · rw [he] at hle; cases hle
  · exact ht c hc le' hle

theorem lall_of {cx : Cx} {w0 : Ini} {l l' : List Code} (h : LAll cx w0 l') (e : l = l') : ∀ b ∈ l, ∀ le, cx.loops (firstReg b) = some le → LoopOk cx w0 b le := by
  subst e; exact h

theorem loop_okH {cx : Cx} {G : Ini → Prop} {w0 : Ini} (hc : CxOk cx G) (hG : G w0) (body : Code) (hl : ∀ b ∈ loopsOf body, ∀ le, cx.loops (firstReg b) = some le → LoopOk cx w0 b le)
    (lay : Lay) (exs : List (Ex × Lay)) (hok : (lay.ok && exOk exs) = true) (f : lay.T → Option (Sum lay.T (exT exs))) (n : lay.T → Nat)
    (link : ∀ x, codeK cx body (lay.enc x) (roundK lay exs) = f x) (F : lay.T → Option (exT exs)) (hF : ∀ x, F x = iter f (n x) x) :
    LoopOk cx w0 body (mkL lay exs F) := by
  have : F = fun x => iter f (n x) x := funext hF
  subst this
  exact loop_ok hc hG body hl lay exs hok f n link

/-! ### Contexts -/

def tabE : List (Nat × Entry) → Nat → Option Entry
  | [], _ => none
  | (g, e) :: l, f => cond (Nat.beq f g) (some e) (tabE l f)
def tabL : List (Nat × LEntry) → Nat → Option LEntry
  | [], _ => none
  | (g, e) :: l, f => cond (Nat.beq f g) (some e) (tabL l f)
def tabK : List (Nat × List Nat × List Nat) → Nat → Option (List Nat × List Nat)
  | [], _ => none
  | (g, e) :: l, f => cond (Nat.beq f g) (some e) (tabK l f)

def tabG : List (Nat × List Ghost) → Nat → List Ghost
  | [], _ => []
  | (m, g) :: l, n => cond (Nat.beq n m) g (tabG l n)

def mkCx (P : Program) (N : Nat) (globs : List (Nat × AV)) (calls : List (Nat × Entry)) (loops : List (Nat × LEntry)) (keep : List (Nat × List Nat × List Nat)) (gh : List (Nat × List Ghost) := []) : Cx :=
  { P := P, N := N, calls := tabE calls, loops := tabL loops, keep := tabK keep, globs := fun g => lk g globs, ghost := tabG gh }

def AllOk (P : Program) (G : Ini → Prop) : List (Nat × Entry) → Prop
  | [] => True
  | (f, e) :: l => CallOk P G f e ∧ AllOk P G l

theorem tabE_ok {P : Program} {G : Ini → Prop} : ∀ {l : List (Nat × Entry)}, AllOk P G l → ∀ f e, tabE l f = some e → CallOk P G f e
  | [], _, f, e, h => by cases h
  | (g, d) :: l, ⟨h1, h2⟩, f, e, h => by
    simp only [tabE] at h
    cases hb : Nat.beq f g
    · rw [hb] at h; exact tabE_ok h2 f e h
    · rw [hb] at h
      have := Nat.eq_of_beq_eq_true hb
      simp at h; subst h; subst this; exact h1

/-- The given variables lie in memory, and they are not lent. -/
def Glob (globs : List (Nat × AV)) (b : Ini) : Prop := ∀ g v, (g, v) ∈ globs → ¬ b.L g ∧ ∃ c T fz, b.w.heap[g]? = some (.cells c T fz) ∧ v.litCells = some c.toList ∧ 0 < c.size

theorem Glob.keep {globs : List (Nat × AV)} {b : Ini} {E : Emb} {hp : Nat → Option AV} {w : World} (h : Glob globs b) (hm : Mem b E hp w) {L : Nat → Prop} {I : Nat → Nat → Option Value} {fx : Nat → Option (Nat × Option Nat × Nat)}
    (hL : ∀ g, L g → ∃ n c, hp n = some c ∧ c.live = true ∧ (E.cnt n).isSome = true ∧ E.ρ n = g ∧ froN n = false) : Glob globs ⟨w, L, I, fx, []⟩ := by
  intro g v hg
  obtain ⟨h0, c, T, fz, h1, h2, h3⟩ := h g v hg
  refine ⟨fun hl => ?_, c, T, fz, ?_, h2, h3⟩
  · obtain ⟨n, c', k1, k2, k3, k4, k5⟩ := hL g hl
    obtain ⟨_, ⟨q, _⟩ | ⟨xs, T', q1, q2, q3, q4, q5⟩⟩ := hm.rheap n c' k1 k2
    · rw [q] at k3; cases k3
    · have := hm.imm0 g c T fz h0 h1 0 _ (Array.getElem?_eq_getElem h3)
      rw [← k4, q4 false 0 (fun hf => by rw [k5] at hf; cases hf)] at this; cases this
  · show w.heap[g]? = _
    rw [hm.below.block g ?_ h0]
    · exact h1
    · rcases Nat.lt_or_ge g b.w.heap.size with h' | h'
      · exact h'
      · rw [Array.getElem?_eq_none h'] at h1; cases h1

theorem cx_ok {P : Program} {N : Nat} {globs : List (Nat × AV)} {calls : List (Nat × Entry)} {loops : List (Nat × LEntry)} {keep : List (Nat × List Nat × List Nat)} {gh : List (Nat × List Ghost)} (hm : P.follows .mixedOrders = true)
    (hg : (globs.all fun p => p.2.litCells.isSome) = true) (h : AllOk P (Glob globs) calls) : CxOk (mkCx P N globs calls loops keep gh) (Glob globs) where
  keep := fun b E hp w L I fx h hm hL => h.keep hm hL
  defs := fun b D fx h => h
  glob := fun g v hv => by
    have hmem : (g, v) ∈ globs := lk_mem hv
    simp only [List.all_eq_true] at hg
    obtain ⟨xs, hxs⟩ := Option.isSome_iff_exists.1 (hg _ hmem)
    refine ⟨lit_named hxs, lit_plain hxs, fun b hb => ?_⟩
    obtain ⟨h0, c, T, fz, h1, h2, _⟩ := hb g v hmem
    exact ⟨h0, c, T, fz, h1, fun E => litCells_rep E h2⟩
  calls := fun f e he => tabE_ok h f e he
  mixed := hm

/-! ### Functions that are lent blocks, or make some -/

def resL (n : Nat) (S : St) : List AV := (List.range n).map fun i => (S.e i).getD .undef

def Lay.hasE (l : Lay) (n : Nat) : Bool := l.fix.any (fun p => !p.1 && Nat.beq n p.2.1) || l.var.any (fun p => !p.1 && Nat.beq n p.2.1)

theorem putF_env : ∀ (l : List (Bool × Nat × AV)) (T : St) (n : Nat), ((∃ v, (n, v) ∈ T.env) ∨ ∃ v, (false, n, v) ∈ l) → ∃ v, (n, v) ∈ (putF l T).env
  | [], T, n, h => h.elim id (fun ⟨_, h⟩ => by cases h)
  | (b, m, u) :: l, T, n, h => by
    simp only [putF]
    refine putF_env l _ n ?_
    rcases h with ⟨v, h⟩ | ⟨v, h⟩
    · left; refine ⟨v, ?_⟩
      cases b
      · exact List.mem_cons_of_mem _ h
      · exact h
    · rcases List.mem_cons.1 h with e | h
      · cases e; left; exact ⟨_, List.mem_cons_self⟩
      · exact .inr ⟨v, h⟩

theorem putL_env : ∀ (l : List (Bool × Nat × Pat)) (x : Pat.Ts (l.map (·.2.2))) (T : St) (n : Nat), ((∃ v, (n, v) ∈ T.env) ∨ ∃ p, (false, n, p) ∈ l) → ∃ v, (n, v) ∈ (putL l (Pat.encs _ x) T).env
  | [], x, T, n, h => h.elim id (fun ⟨_, h⟩ => by cases h)
  | [(b, m, p)], x, T, n, h => by
    have hx : Pat.encs (([(b, m, p)] : List (Bool × Nat × Pat)).map (·.2.2)) x = [Pat.enc p x] := rfl
    rw [hx]
    simp only [putL]
    rcases h with ⟨v, h⟩ | ⟨q, h⟩
    · refine ⟨v, ?_⟩
      cases b
      · exact List.mem_cons_of_mem _ h
      · exact h
    · rcases List.mem_cons.1 h with e | h
      · cases e; exact ⟨_, List.mem_cons_self⟩
      · cases h
  | (b, m, p) :: q :: l, x, T, n, h => by
    have hx : Pat.encs (((b, m, p) :: q :: l : List (Bool × Nat × Pat)).map (·.2.2)) x = Pat.enc p x.1 :: Pat.encs ((q :: l).map (·.2.2)) x.2 := rfl
    rw [hx]
    simp only [putL]
    refine putL_env (q :: l) x.2 _ n ?_
    rcases h with ⟨v, h⟩ | ⟨r, h⟩
    · left; refine ⟨v, ?_⟩
      cases b
      · exact List.mem_cons_of_mem _ h
      · exact h
    · rcases List.mem_cons.1 h with e | h
      · cases e; left; exact ⟨_, List.mem_cons_self⟩
      · exact .inr ⟨r, h⟩

/-- Are all results there? -/
def outOk (nr : Nat) (out : Lay) : Bool :=
  out.ok && (out.fix.all (fun p => p.1 || p.2.2.plain) && (out.var.all (fun p => p.1 || p.2.2.plain) && (List.range nr).all out.hasE))

theorem resL_plain {nr : Nat} {out : Lay} (h : outOk nr out = true) (x : out.T) : ∀ v ∈ resL nr (out.enc x), v.plain = true ∧ ∃ i, i < nr ∧ (out.enc x).e i = some v := by
  simp only [outOk, Bool.and_eq_true, List.all_eq_true] at h
  obtain ⟨h0, h1, h2, h3⟩ := h
  intro v hv
  simp only [resL, List.mem_map, List.mem_range] at hv
  obtain ⟨i, hi, rfl⟩ := hv
  have hh := h3 i (by simpa using hi)
  simp only [Lay.hasE, Bool.or_eq_true, List.any_eq_true, Bool.and_eq_true, Bool.not_eq_true'] at hh
  obtain ⟨u, hu⟩ : ∃ v, (i, v) ∈ (out.enc x).env := by
    refine putL_env _ _ _ _ ?_
    rcases hh with ⟨⟨b, m, v⟩, hm, hb, he⟩ | ⟨⟨b, m, p⟩, hm, hb, he⟩
    · simp only at hb he
      subst hb
      have := Nat.eq_of_beq_eq_true he
      subst this
      exact .inl (putF_env _ _ _ (.inr ⟨v, hm⟩))
    · simp only at hb he
      subst hb
      have := Nat.eq_of_beq_eq_true he
      subst this
      exact .inr ⟨p, hm⟩
  obtain ⟨w, hw⟩ := Option.isSome_iff_exists.1 (lk_of_mem hu)
  have hwm := lk_mem hw
  have he : (out.enc x).e i = some w := hw
  refine ⟨?_, i, hi, by rw [he]; rfl⟩
  rw [he]
  simp only [Option.getD_some]
  obtain ⟨g1, _⟩ := putL_mem out.var x (putF out.fix ⟨[], []⟩)
  rcases g1 i w hwm with g | ⟨p, hp, y, rfl⟩
  · rcases (putF_mem out.fix ⟨[], []⟩).1 i w g with g | g
    · cases g
    · simpa using h1 _ g
  · exact Pat.enc_plain p y (by simpa using h2 _ hp)

/-- na: how many arguments; nr: how many results. -/
def mkB (na nr nb : Nat) (modes : List Bool) (inn out : Lay) (F : inn.T → Option out.T) : Entry :=
  { α := inn.T, ρ := out.T, nb := nb, quiet := false, modes := modes,
    dec := fun args bs => cond (Nat.beq args.length na) (inn.dec (start2 args bs)) none,
    F := F, enc := fun r => resL nr (out.enc r), out := fun r => (out.enc r).heap }

theorem resL_get {nr i : Nat} {S : St} {v : AV} (h : (resL nr S)[i]? = some v) : i < nr ∧ v = (S.e i).getD .undef := by
  simp only [resL, List.getElem?_map] at h
  rcases Nat.lt_or_ge i nr with hi | hi
  · rw [List.getElem?_range hi] at h
    simp at h; exact ⟨hi, h.symm⟩
  · rw [List.getElem?_eq_none (by simpa using hi)] at h; cases h

theorem fun_okB {cx : Cx} {G : Ini → Prop} (hc : CxOk cx G) {f : Nat} {fn : Func} (hfn : cx.P.funcs[f]? = some fn) (hb : fn.body.isSome = true) (hN : fn.ntmps = cx.N) (hcall : ∀ args w, (callFunc f args).run cx.P w = .ok (.enter f args) w)
    (na nr nb : Nat) (modes : List Bool) (inn out : Lay) (F : inn.T → Option out.T) (hnum : (Nat.ble na cx.N && Nat.ble nb 1000 && Nat.beq nr fn.results.size) = true) (hin : inn.ok = true) (hout : outOk nr out = true)
    (hl : ∀ w0, G w0 → ∀ b ∈ loopsOf (bodyOf fn), ∀ le, cx.loops (firstReg b) = some le → LoopOk cx w0 b le)
    (link : ∀ x, codeK cx (bodyOf fn) (inn.enc x) (finK cx fn.results.toList out.dec fun _ => none) = F x) : CallOk cx.P G f (mkB na nr nb modes inn out F) := by
  simp only [Bool.and_eq_true] at hnum
  have hok : out.ok = true := by simp only [outOk, Bool.and_eq_true] at hout; exact hout.1
  refine fun_sound hc hfn hb hN hcall (mkB na nr nb modes inn out F) (fun h => by cases h) (Nat.le_of_ble_eq_true hnum.1.2) inn.enc (fun args bs x hbs hx => ?_) out.dec (fun _ => none) (fun S l r hr => ⟨rfl, ?_⟩) (fun _ _ _ h => by cases h) (fun r => ?_) (fun r v hv => (resL_plain hout r v hv).1) hl link
  · have hx : cond (Nat.beq args.length na) (inn.dec (start2 args bs)) none = some x := hx
    obtain ⟨h1, h2⟩ := cond_some hx
    have h1 := Nat.eq_of_beq_eq_true h1
    obtain ⟨v, hv, hs⟩ := Lay.dec_sub hin h2
    exact ⟨by rw [h1]; exact Nat.le_of_ble_eq_true hnum.1.1, v, hv, hs, Lay.inScope hin x⟩
  · obtain ⟨v, hv, hs⟩ := Lay.dec_sub hok hr
    have hsc := Lay.inScope hok r
    have key : ∀ n u, (outS (mkB na nr nb modes inn out F) r).e n = some u → (out.enc r).e n = some u := fun n u hu => by
      have hu' : (resL nr (out.enc r))[n]? = some u := by rw [← hu]; exact lk_range.symm
      obtain ⟨hn, he⟩ := resL_get hu'
      obtain ⟨hp, i, _, hi⟩ := resL_plain hout r u (List.mem_of_getElem? hu')
      cases hq : (out.enc r).e n with
      | none => rw [hq] at he; simp at he; subst he; cases hp
      | some u' => rw [hq] at he; simp at he; rw [he]
    refine ⟨v, hv, ⟨fun n u hu => hs.1 n u (key n u hu), fun n u hu => hs.2 n u hu⟩, ?_⟩
    unfold St.inScope at hsc ⊢
    simp only [Bool.and_eq_true, List.all_eq_true] at hsc ⊢
    refine ⟨fun ⟨n, u⟩ hp => ?_, hsc.2⟩
    obtain ⟨_, h2⟩ := List.of_mem_zip hp
    obtain ⟨_, i, _, hi⟩ := resL_plain hout r u h2
    exact hsc.1 (i, u) (lk_mem (show lk i (out.enc r).env = some u from hi))
  · show (resL nr (out.enc r)).length = _
    simp only [resL, List.length_map, List.length_range]
    exact Nat.eq_of_beq_eq_true hnum.2

/-- The same where the call may panic: outP tells what lies there then. -/
def mkP (na nr nb : Nat) (modes : List Bool) (inn out outP : Lay) (F : inn.T → Option (Sum out.T outP.T)) : Entry :=
  { α := inn.T, ρ := Sum out.T outP.T, nb := nb, quiet := false, modes := modes,
    dec := fun args bs => cond (Nat.beq args.length na) (inn.dec (start2 args bs)) none,
    F := F, enc := fun r => sumK r (fun r => resL nr (out.enc r)) (fun r => resL 1 (outP.enc r)), out := fun r => sumK r (fun r => (out.enc r).heap) (fun r => (outP.enc r).heap),
    pans := true, pan := fun r => sumK r (fun _ => false) (fun _ => true),
    elim := fun r k => sumK r (fun x => k (.inl x)) (fun y => k (.inr y)), elim_eq := fun r k => by cases r <;> rfl }

theorem resL_out {nr : Nat} {out : Lay} (hout : outOk nr out = true) {S : St} {l : List AV} {r : out.T} (hr : out.dec (S.res l) = some r) :
    ∃ v : View, v.ok = true ∧ (⟨(List.range (resL nr (out.enc r)).length).zip (resL nr (out.enc r)), (out.enc r).heap⟩ : St).SubV (S.res l) v ∧ (⟨(List.range (resL nr (out.enc r)).length).zip (resL nr (out.enc r)), (out.enc r).heap⟩ : St).inScope = true := by
  have hok : out.ok = true := by simp only [outOk, Bool.and_eq_true] at hout; exact hout.1
  obtain ⟨v, hv, hs⟩ := Lay.dec_sub hok hr
  have hsc := Lay.inScope hok r
  have key : ∀ n u, (⟨(List.range (resL nr (out.enc r)).length).zip (resL nr (out.enc r)), (out.enc r).heap⟩ : St).e n = some u → (out.enc r).e n = some u := fun n u hu => by
    have hu' : (resL nr (out.enc r))[n]? = some u := by rw [← hu]; exact lk_range.symm
    obtain ⟨hn, he⟩ := resL_get hu'
    obtain ⟨hp, i, _, hi⟩ := resL_plain hout r u (List.mem_of_getElem? hu')
    cases hq : (out.enc r).e n with
    | none => rw [hq] at he; simp at he; subst he; cases hp
    | some u' => rw [hq] at he; simp at he; rw [he]
  refine ⟨v, hv, ⟨fun n u hu => hs.1 n u (key n u hu), fun n u hu => hs.2 n u hu⟩, ?_⟩
  unfold St.inScope at hsc ⊢
  simp only [Bool.and_eq_true, List.all_eq_true] at hsc ⊢
  refine ⟨fun ⟨n, u⟩ hp => ?_, hsc.2⟩
  obtain ⟨_, h2⟩ := List.of_mem_zip hp
  obtain ⟨_, i, _, hi⟩ := resL_plain hout r u h2
  exact hsc.1 (i, u) (lk_mem (show lk i (out.enc r).env = some u from hi))

theorem fun_okP {cx : Cx} {G : Ini → Prop} (hc : CxOk cx G) {f : Nat} {fn : Func} (hfn : cx.P.funcs[f]? = some fn) (hb : fn.body.isSome = true) (hN : fn.ntmps = cx.N) (hcall : ∀ args w, (callFunc f args).run cx.P w = .ok (.enter f args) w)
    (na nr nb : Nat) (modes : List Bool) (inn out outP : Lay) (F : inn.T → Option (Sum out.T outP.T)) (hnum : (Nat.ble na cx.N && Nat.ble nb 1000 && Nat.beq nr fn.results.size) = true) (hin : inn.ok = true) (hout : outOk nr out = true) (houtP : outOk 1 outP = true)
    (hl : ∀ w0, G w0 → ∀ b ∈ loopsOf (bodyOf fn), ∀ le, cx.loops (firstReg b) = some le → LoopOk cx w0 b le)
    (link : ∀ x, codeK cx (bodyOf fn) (inn.enc x) (finK cx fn.results.toList (fun S => (out.dec S).bind fun x => some (.inl x)) fun S => (outP.dec S).bind fun x => some (.inr x)) = F x) : CallOk cx.P G f (mkP na nr nb modes inn out outP F) := by
  simp only [Bool.and_eq_true] at hnum
  refine fun_sound hc hfn hb hN hcall (mkP na nr nb modes inn out outP F) (fun h => by cases h) (Nat.le_of_ble_eq_true hnum.1.2) inn.enc (fun args bs x hbs hx => ?_) (fun S => (out.dec S).bind fun x => some (.inl x)) (fun S => (outP.dec S).bind fun x => some (.inr x)) (fun S l r hr => ?_) (fun S l r hr => ?_) (fun r => ?_) (fun r v hv => ?_) hl link
  · have hx : cond (Nat.beq args.length na) (inn.dec (start2 args bs)) none = some x := hx
    obtain ⟨h1, h2⟩ := cond_some hx
    have h1 := Nat.eq_of_beq_eq_true h1
    obtain ⟨v, hv, hs⟩ := Lay.dec_sub hin h2
    exact ⟨by rw [h1]; exact Nat.le_of_ble_eq_true hnum.1.1, v, hv, hs, Lay.inScope hin x⟩
  · obtain ⟨y, h1, h2⟩ := Option.bind_eq_some_iff.1 hr
    obtain rfl := Option.some.inj h2
    exact ⟨rfl, resL_out hout h1⟩
  · obtain ⟨y, h1, h2⟩ := Option.bind_eq_some_iff.1 hr
    obtain rfl := Option.some.inj h2
    exact ⟨rfl, resL_out houtP h1⟩
  · cases r with
    | inl r =>
      show (resL nr (out.enc r)).length = _
      simp only [resL, List.length_map, List.length_range]
      exact Nat.eq_of_beq_eq_true hnum.2
    | inr r => rfl
  · cases r with
    | inl r => exact (resL_plain hout r v hv).1
    | inr r => exact (resL_plain houtP r v hv).1
end
end Go.Sy

set_option linter.unusedVariables false
set_option linter.unusedSimpArgs false
namespace Go.Sy
open Go Go.RowKit
noncomputable section

section
variable {cx : Cx} {G : Ini → Prop} {w0 : Ini} {N : Nat}

theorem Mem.withD {b : Ini} {E : Emb} {hp : Nat → Option AV} {w : World} (D : List Deferred) (h : Mem b E hp w) : Mem { b with D := D } E hp w :=
  { rheap := h.rheap, inj := h.inj, imm := h.imm, imle := h.imle, pers := h.pers, new := h.new, imm0 := h.imm0, below := h.below, shp := h.shp, fixed := h.fixed, gone := h.gone, newn := h.newn }

/-- A function's answers, laid out as its contract says. -/
theorem ret_post (e : Entry) {fn : Func} {E : Emb} {w w' : World} {a : Act} {S : St} {b : Ini} (hmem : ∀ E' hp, Mem b E' hp w' → Mem (iniOf E e.nb w) E' hp w') (hnb : e.nb ≤ 1000) {decR : St → Option e.ρ} {r : e.ρ}
    (hr : ∀ (S : St) (l : List AV) r, decR (S.res l) = some r → ∃ v : View, v.ok = true ∧ (outS e r).SubV (S.res l) v ∧ (outS e r).inScope = true)
    (hres : ∀ r, (e.enc r).length = fn.results.size) (hpl : ∀ r, ∀ v ∈ e.enc r, v.plain = true)
    (h2 : RelF b N S.fs a w') (h1 : (resultsK cx S fn.results.toList fun l => decR (S.res l)) = some r) :
    ∃ v, (results fn a.tmps).run cx.P w' = .ok v w' ∧ CallPost e E r w v w' := by
  obtain ⟨E', h2⟩ := h2
  obtain ⟨l, vs, g1, g2, g3, g4, g5⟩ := resultsK_sound h2 _ _ _ h1
  obtain ⟨v, hv, hs, hsc'⟩ := hr S l r g1
  have hrun : (results fn a.tmps).run cx.P w' = .ok (if hs : vs.toArray.size = 1 then vs.toArray[0] else .tuple vs.toArray) w' := by
    rw [results_eq]
    simp only [Array.mapM_eq_mapM_toList, Sem.run_bind, Sem.run_map, g2, Result.andThen_ok, Sem.run_pure]
  refine ⟨_, hrun, ?_⟩
  have hlv := g3.length
  have hrel' : Rel (iniOf E e.nb w) E' vs.length (S.res l).e (S.res l).h { tmps := vs.toArray, defers := [] } w' := by
    refine { hmem _ _ h2.toMem with size := by simp, defers := rfl, renv := ?_, senv := ?_ }
    · intro s u hs
      have hs' : l[s]? = some u := by rw [← hs]; exact lk_range.symm
      obtain ⟨y, hy, hp, hr⟩ := g3.get hs'
      exact ⟨y, by simpa using hy, (Rep.one hp).2 hr⟩
    · intro s u hs
      have hs' : l[s]? = some u := by rw [← hs]; exact lk_range.symm
      exact AV.nameds_get g4 hs'
  have hT := hrel'.view hv hs hsc'
  have he : ∀ (i : Nat) u, (e.enc r)[i]? = some u → (outS e r).e i = some u := fun i u hu => by rw [← hu]; exact lk_range
  refine ⟨E'.view v, hT.toMem, fun j hj => hT.fixed j (E.ρ j, E.cnt j, E.len j) (by simp [iniOf, hj]) (by omega), one_rep (rep1s_of ?_ fun i u hu => ?_), one_named (nameds_of fun i u hu => ?_)⟩
  · rw [hres, g5]; simp
  · obtain ⟨y, hy, hr⟩ := hT.renv i u (he i u hu)
    exact ⟨hpl r u (List.mem_of_getElem? hu), y, by simpa using hy, hr⟩
  · exact hT.senv i u (he i u hu)

/-- The mode of the one that puts off, and what 'recover' tells then. -/
def recU (u : FrameMode) (y : Value) : Prop := (u = .returning ∧ y = .nilIface) ∨ u = .panicking [{ v := y, recovered := false }]

/-- A closure's contract: its last argument is what it recovers. -/
def CallOkD (P : Program) (G : Ini → Prop) (f : Nat) (e : Entry) : Prop :=
  (∀ r, e.pan r = false) ∧
  ∀ (w : World) (E : Emb) (a : e.α) (r : e.ρ) (args bs : List AV) (vals : Array Value) (u : FrameMode) (y : Value), G (iniOf E e.nb w) → Mem (iniOf E e.nb w) E (hpOf bs) w → bs.length = e.nb → (∀ c ∈ bs, c.live = true) →
    e.dec args bs = some a → e.F a = some r → Rep1s E args (vals.toList ++ [y]) → AV.nameds (fun n => (hpOf bs n).isSome) args = true → recU u y →
    CallsD P f vals u w fun en u' w' => ∃ v, en = .returned v ∧ settle u' = .returning ∧ CallPost e E r w v w'

theorem rep1s_last {E : Emb} {y : Value} : ∀ {xs : List Value} {args : List AV}, Rep1s E args (xs ++ [y]) → ∃ l r, args = l ++ [r] ∧ Rep1s E l xs ∧ r.plain = true ∧ Rep1 E r y
  | [], [], h => by simp [Rep1s] at h
  | x :: xs, [], h => by simp [Rep1s] at h
  | [], v :: l, ⟨x, ys, e, hp, h1, h2⟩ => by
    simp only [List.nil_append, List.cons.injEq] at e
    obtain ⟨rfl, rfl⟩ := e
    have := h2.length
    have hl : l = [] := List.length_eq_zero_iff.1 (by simpa using this)
    subst hl
    exact ⟨[], v, rfl, rfl, hp, h1⟩
  | x :: xs, v :: l, ⟨z, ys, e, hp, h1, h2⟩ => by
    simp only [List.cons_append, List.cons.injEq] at e
    obtain ⟨rfl, rfl⟩ := e
    obtain ⟨l', r, g1, g2, g3, g4⟩ := rep1s_last h2
    exact ⟨v :: l', r, by rw [g1]; rfl, ⟨x, xs, rfl, hp, h1, g2⟩, g3, g4⟩

theorem nameds_last {ok : Nat → Bool} {r : AV} : ∀ {l : List AV}, AV.nameds ok (l ++ [r]) = true → AV.nameds ok l = true ∧ r.named ok = true
  | [], h => by simpa [AV.nameds] using h
  | v :: l, h => by
    simp only [List.cons_append, AV.nameds, Bool.and_eq_true] at h ⊢
    exact ⟨⟨h.1, (nameds_last h.2).1⟩, (nameds_last h.2).2⟩

def start3 (args bs : List AV) (d : Nat) (rec : AV) : St := ⟨(d, rec) :: (List.range args.length).zip args, (List.range bs.length).zip bs⟩

theorem fun_soundR (hc : CxOk cx G) {f : Nat} {fn : Func} (hfn : cx.P.funcs[f]? = some fn) {id : Nat} {o : Oper} {C : Code} (hbody : fn.body = some (.seq (.region id #[o] false) C)) (hN : fn.ntmps = cx.N)
    (hrec : ∀ ρ w, (execOp ρ o).run cx.P w = .ok .recover w) (hgd : o.guard = none) {d : Nat} (hd : o.dst = some d) (hdN : d < cx.N)
    (e : Entry) (hnb : e.nb ≤ 1000) (encS : e.α → St)
    (hdec : ∀ args rec bs x, bs.length = e.nb → e.dec (args ++ [rec]) bs = some x → args.length ≤ cx.N ∧ ∃ v : View, v.ok = true ∧ (encS x).SubV (start3 args bs d rec) v ∧ (encS x).inScope = true)
    (decR : St → Option e.ρ)
    (hr : ∀ (S : St) (l : List AV) r, decR (S.res l) = some r → ∃ v : View, v.ok = true ∧ (outS e r).SubV (S.res l) v ∧ (outS e r).inScope = true)
    (hres : ∀ r, (e.enc r).length = fn.results.size) (hpl : ∀ r, ∀ v ∈ e.enc r, v.plain = true)
    (hpan : ∀ r, e.pan r = false)
    (hl : ∀ w0, G w0 → ∀ b ∈ loopsOf C, ∀ le, cx.loops (firstReg b) = some le → LoopOk cx w0 b le)
    (link : ∀ x, codeK cx C (encS x) (finK cx fn.results.toList decR fun _ => none) = e.F x) : CallOkD cx.P G f e := by
  refine ⟨hpan, fun w E x r args bs vals u y hG hM hbl hlive hx hF hreps hnam hu => ?_⟩
  obtain ⟨args, rec, rfl, hreps, hrp, hry⟩ := rep1s_last hreps
  obtain ⟨hnam, hrn⟩ := nameds_last hnam
  refine callsD_of_wpS hfn hbody fun c₀ cs hmode => ?_
  obtain ⟨hlen, v0, hv0, hsub, hsc⟩ := hdec args rec bs x hbl hx
  have hsz := hreps.length
  have hrel0 : Rel (iniOf E e.nb w) E cx.N (start2 args bs).e (start2 args bs).h { tmps := vals ++ Array.replicate (fn.ntmps - vals.size) undef, defers := [] } w := by
    have hh : (start2 args bs).h = hpOf bs := funext fun n => lk_range
    rw [hh]
    refine { hM with size := ?_, defers := rfl, renv := ?_, senv := ?_ }
    · simp only [Array.size_append, Array.size_replicate, hN]
      simp at hsz; omega
    · intro s v hs
      have hs' : args[s]? = some v := by rw [← hs]; exact lk_range.symm
      obtain ⟨y, hy, hp, hr⟩ := hreps.get hs'
      have hlt : s < vals.size := by
        rcases Nat.lt_or_ge s vals.size with h | h
        · exact h
        · simp [Array.getElem?_eq_none h] at hy
      refine ⟨y, ?_, (Rep.one hp).2 hr⟩
      rw [Array.getElem?_append_left hlt]
      simpa using hy
    · intro s v hs
      have hs' : args[s]? = some v := by rw [← hs]; exact lk_range.symm
      exact AV.nameds_get hnam hs'
  have hh : (start2 args bs).h = hpOf bs := funext fun n => lk_range
  have hrel := hrel0.put (dst := some d) (by simpa [dstOK] using hdN) ((Rep.one hrp).2 hry) (by rw [hh]; exact hrn)
  have hstart : RelF (iniOf E e.nb w) cx.N (encS x).fs (({ tmps := vals ++ Array.replicate (fn.ntmps - vals.size) undef, defers := [] } : Act).put (some d) y) w := by
    exact ⟨E.view v0, Rel.view (E := E) (S := start3 args bs d rec) hrel hv0 hsub hsc⟩
  have hC : ∀ u', settle u' = .returning → C.wpS cx.P (bodyPostS cx.P fn c₀ cs fun en u' w' => ∃ v, en = .returned v ∧ settle u' = .returning ∧ CallPost e E r w v w')
      (({ tmps := vals ++ Array.replicate (fn.ntmps - vals.size) undef, defers := [] } : Act).put (some d) y) ({ c₀ with mode := u' } :: cs) w := by
    intro u' hset
    refine wpS_of_wp (codeK_sound hc hG C (hl _ hG) (encS x) _ r _ w ((link x).trans hF) hstart _ fun ex S' z a' w' h1 h2 => ?_)
    have fin : ∀ (h2 : RelF (iniOf E e.nb w) cx.N S'.fs a' w') (h1 : (ghostsK (cx.ghost 2000000) S' fun S => resultsK cx S fn.results.toList fun l => decR (S.res l)) = some r), a'.defers = [] ∧ ∃ u'' : FrameMode, ({ c₀ with mode := u' } :: cs) = { c₀ with mode := u'' } :: cs ∧ ∃ v, (results fn a'.tmps).run cx.P w' = .ok v w' ∧ ∃ v', Ending.returned v = .returned v' ∧ settle u'' = .returning ∧ CallPost e E r w v' w' := by
      intro h2 h1
      obtain ⟨S1, h1, h3⟩ := ghostsK_sound h2 h1
      obtain ⟨v, g1, g2⟩ := ret_post e (fun _ _ h => h) hnb hr hres hpl h3 h1
      obtain ⟨_, h2⟩ := h2
      exact ⟨h2.defers, u', rfl, v, g1, v, rfl, hset, g2⟩
    cases ex with
    | normal => obtain ⟨rfl, h2⟩ := h2; exact fin h2 h1
    | ret => obtain ⟨rfl, h2⟩ := h2; exact fin h2 h1
    | exit i => simp [finK] at h1
    | panic =>
      simp only [finK] at h1
      split at h1
      · split at h1 <;> cases h1
      · cases h1
  refine wpS_seq (wpS_region ?_)
  have hrange : List.range (#[o] : Array Oper).size = [0] := rfl
  rw [hrange]
  unfold wpOpsS
  have h0 : (#[o] : Array Oper)[0]? = some o := rfl
  simp only [h0]
  rw [if_pos (by simp [Region.wanted, hgd])]
  rw [hrec]
  simp only [hd]
  rcases hu with ⟨hu, hy⟩ | hu
  · have hr0 : recoverD (c₀ :: cs) = none := by simp [recoverD, hmode, hu]
    rw [hr0]
    simp only [wpOpsS, Exit.thenS]
    have := hC .returning rfl
    rw [hy] at this
    have hcc : ({ c₀ with mode := .returning } : Frame) = c₀ := by rw [hu] at hmode; rw [← hmode]
    rw [hcc] at this
    exact this
  · have hr1 : recoverD (c₀ :: cs) = some (y, { c₀ with mode := .panicking [{ v := y, recovered := true }] } :: cs) := by simp [recoverD, hmode, hu]
    rw [hr1]
    simp only [wpOpsS, Exit.thenS]
    exact hC (.panicking [{ v := y, recovered := true }]) rfl

/-! ### Names below 1000 for own blocks -/

/-- A view, the names below 1000 too. -/
def View.ok0 (v : View) : Bool :=
  nodupN (v.names.map (·.1)) && nodupN (v.names.map (·.2)) && (v.names.all fun q => ((!newN q.1 || newN q.2) && (!froN q.2 || froN q.1))) && v.nils.all fun q => (v.of q.2.2.2).isNone && Nat.ble 1000 q.2.2.2

theorem View.ok_spec0 {v : View} (h : v.ok0 = true) : nodupN (v.names.map (·.1)) = true ∧ nodupN (v.names.map (·.2)) = true ∧ ∀ q ∈ v.nils, v.of q.2.2.2 = none ∧ 1000 ≤ q.2.2.2 := by
  simp only [View.ok0, Bool.and_eq_true, List.all_eq_true] at h
  exact ⟨h.1.1.1, h.1.1.2, fun q hq => ⟨by simpa using (h.2 q hq).1, Nat.le_of_ble_eq_true (h.2 q hq).2⟩⟩
theorem View.ok_fro0 {v : View} (h : v.ok0 = true) {n m : Nat} (hm : v.of m = some n) (hn : froN n = true) : froN m = true := by
  simp only [View.ok0, Bool.and_eq_true, List.all_eq_true] at h
  have := (h.1.2 _ (of_mem hm)).2
  simp only [Bool.or_eq_true, Bool.not_eq_true'] at this
  rcases this with h | h
  · rw [hn] at h; cases h
  · exact h
theorem View.ok_cls0 {v : View} (h : v.ok0 = true) {n m : Nat} (hm : v.of m = some n) (hn : newN m = true) : newN n = true := by
  simp only [View.ok0, Bool.and_eq_true, List.all_eq_true] at h
  have := (h.1.2 _ (of_mem hm)).1
  simp only [Bool.or_eq_true, Bool.not_eq_true'] at this
  rcases this with h | h
  · rw [hn] at h; cases h
  · exact h
theorem View.ok_of0 {v : View} (h : v.ok0 = true) {n m : Nat} (ht : v.to n = some m) : v.of m = some n := mem_of (View.ok_spec0 h).1 (to_mem ht)
theorem View.of_inj0 {v : View} (h : v.ok0 = true) {n m m' : Nat} (h1 : v.of m = some n) (h2 : v.of m' = some n) : m = m' := pair_inj (View.ok_spec0 h).2.1 (of_mem h1) (of_mem h2)
theorem View.nil_of0 {v : View} (h : v.ok0 = true) {q : Bool × Nat × List Step × Nat} (hq : q ∈ v.nils) : v.of q.2.2.2 = none ∧ 1000 ≤ q.2.2.2 := (View.ok_spec0 h).2.2 q hq

theorem atV_true0 {S : St} {v : View} (hv : v.ok0 = true) {m : Nat} {c : AV} (h : S.atV v true m = some c) :
    (∃ n c0 c1, v.of m = some n ∧ S.h n = some c0 ∧ c0.ren v.to = some c1 ∧ c = nilsOf true m v.nils c1) ∨ (v.of m = none ∧ 1000 ≤ m ∧ ∃ s, c = .row s []) := by
  unfold St.atV at h
  split at h
  · rename_i u hu
    have h := (cond_none h).2
    simp at h; subst h
    simp only [St.at0, Option.bind_eq_some_iff] at hu
    obtain ⟨n, h1, c0, h2, h3⟩ := hu
    exact .inl ⟨n, c0, u, h1, h2, h3, rfl⟩
  · simp only [cond_true] at h
    obtain ⟨⟨q, h1, h2⟩, h3⟩ := nilRow_spec h
    exact .inr ⟨by rw [← h2]; exact (View.nil_of0 hv h1).1, by rw [← h2]; exact (View.nil_of0 hv h1).2, h3⟩

theorem Rel.viewG {E : Emb} {ρ : Nat → Nat} {cnt : Nat → Option Nat} {len : Nat → Nat} {fx : Nat → Option (Nat × Option Nat × Nat)} {S : St} {a : Act} {w : World} (h : Rel w0 E N S.e S.h a w) {v : View} (hv : v.ok0 = true) (hvo : ∀ n m, v.of m = some n → ρ m = E.ρ n ∧ cnt m = E.cnt n ∧ len m = E.len n) (hvn : ∀ m, 1000 ≤ m → v.of m = none → cnt m = none ∧ len m = 0)
    (hfix : ∀ j q, fx j = some q → j < 1000 → ρ j = q.1 ∧ cnt j = q.2.1 ∧ len j = q.2.2) {T : St} (hs : T.SubV S v) (hsc : T.inScope = true) : Rel { w0 with fx := fx } { E with ρ := ρ, cnt := cnt, len := len } N T.e T.h a w := by
  let F : Emb := { E with ρ := ρ, cnt := cnt, len := len }
  show Rel { w0 with fx := fx } F N T.e T.h a w
  have hvo : ∀ n m, v.of m = some n → F.ρ m = E.ρ n ∧ F.cnt m = E.cnt n ∧ F.len m = E.len n := hvo
  have hvn : ∀ m, 1000 ≤ m → v.of m = none → F.cnt m = none ∧ F.len m = 0 := hvn
  have hN : Names v.to E F := fun n m hm => hvo n m (View.ok_of0 hv hm)
  have hT : Stays true E F := fun _ _ _ h => h
  have hF : Stays false E F := fun _ _ _ h => h
  have hnil : ∀ q ∈ v.nils, F.cnt q.2.2.2 = none ∧ F.len q.2.2.2 = 0 := fun q hq => by
    exact hvn _ (View.nil_of0 hv hq).2 (View.nil_of0 hv hq).1
  have hat : ∀ m c, T.h m = some c → c.live = true → (F.cnt m).isSome = true → ∃ n c0, v.of m = some n ∧ S.h n = some c0 ∧ c0.live = true ∧ E.cnt n = F.cnt m ∧ E.ρ n = F.ρ m := fun m c hc hl hk => by
    rcases atV_true0 hv (hs.2 m c hc) with ⟨n, c0, c1, h1, h2, h3, h4⟩ | ⟨h1, hbig, s, h2⟩
    · refine ⟨n, c0, h1, h2, ?_, (hvo _ _ h1).2.1.symm, (hvo _ _ h1).1.symm⟩
      rw [← (ren_agg h3).2.2.1]
      cases c1 <;> first | rfl | (rw [h4, nilsOf_undef] at hl; cases hl) | (rw [h4, nilsOf_tup] at hl; cases hl)
    · rw [(hvn _ hbig h1).1] at hk; cases hk
  refine { rheap := ?_, inj := ?_, imm := h.imm, imle := h.imle, pers := h.pers, new := h.new, imm0 := h.imm0, below := h.below, size := h.size, defers := h.defers, shp := (inScope_spec hsc).2, fixed := hfix, gone := fun n k hk => absurd rfl (atV_tup (hs.2 n _ hk) _), newn := ?_, renv := ?_, senv := (inScope_spec hsc).1 }
  rotate_left 2
  · intro m c hm hl hnm hk
    obtain ⟨n, c0, a1, a2, a3, a4, a5⟩ := hat m c hm hl hk
    rw [← a5]
    exact h.newn n c0 a2 a3 (View.ok_cls0 hv a1 hnm) (by rw [a4]; exact hk)
  rotate_left 1
  · intro m c hc hl
    rcases atV_true0 hv (hs.2 m c hc) with ⟨n, c0, c1, h1, h2, h3, h4⟩ | ⟨h1, hbig, s, h2⟩
    · have hl1 : c1.live = true := by
        cases c1 <;> first | rfl | (rw [h4, nilsOf_undef] at hl; cases hl) | (rw [h4, nilsOf_tup] at hl; cases hl)
      have hl0 : c0.live = true := by rw [← (ren_agg h3).2.2.1]; exact hl1
      obtain ⟨g1, g2⟩ := h.rheap n c0 h2 hl0
      obtain ⟨hρ, hcnt, hlen⟩ := hvo _ _ h1
      rcases g2 with ⟨k1, s, rfl⟩ | ⟨xs, T', k1, k2, k3, k4, k5⟩
      · have hr : RepR F c1 [] := by
          simp only [AV.ren, Option.some.injEq] at h3
          subst h3
          exact ⟨[], [], rfl, rfl, fun _ h => by cases h⟩
        have hc1 : c1 = .row s [] := by simp only [AV.ren, Option.some.injEq] at h3; exact h3.symm
        rw [h4, hc1, nilsOf_row]
        refine ⟨fun k hk => ?_, .inl ⟨by rw [hcnt, k1], s, rfl⟩⟩
        rw [hlen]; exact g1 k hk
      · have hr := k3.ren hN hT (.inr hF) h3
        have hc' : c.rowSz = c0.rowSz := by
          rw [h4]
          have hr2 := (nilsOf_rep true m v.nils hnil hr).2.1
          cases c0 <;> simp only [AV.ren, Option.some.injEq, Option.bind_eq_some_iff] at h3 <;> first
            | (subst h3; rw [nilsOf_row])
            | (rw [rowSz_none (by rw [hr2]; first | (obtain ⟨_, _, e⟩ := h3; subst e; rfl) | (subst h3; rfl))]; rfl)
        obtain ⟨r1, r2, r3⟩ := nilsOf_rep true m v.nils hnil hr
        rw [← h4] at r1 r2
        refine ⟨fun k hk => ?_, .inr ⟨xs, T', by rw [hcnt, k1], by rw [hρ]; exact k2, r1, fun f j hj => by
          rw [hρ]
          refine k4 f j fun hfn => ?_
          have := hj (View.ok_fro0 hv h1 hfn)
          rw [hc'] at this; exact this, by rw [hρ]; exact k5⟩⟩
        rw [hlen]
        exact g1 k (by rw [← (ren_agg h3).2.2.2, ← r2]; exact hk)
    · subst h2
      refine ⟨fun k hk => ?_, .inl ⟨(hvn _ hbig h1).1, s, rfl⟩⟩
      simp only [AV.rowLen, List.length_nil, Option.some.injEq] at hk
      subst hk; exact (hvn _ hbig h1).2.symm
  · intro m m' c c' hm hm' l1 l2 k1 k2 e
    obtain ⟨n, c0, a1, a2, a3, a4, a5⟩ := hat m c hm l1 k1
    obtain ⟨n', c0', b1, b2, b3, b4, b5⟩ := hat m' c' hm' l2 k2
    have := h.inj n n' c0 c0' a2 b2 a3 b3 (by rw [a4]; exact k1) (by rw [b4]; exact k2) (by rw [a5, b5, e])
    subst this
    exact View.of_inj0 hv a1 b1
  · intro s u hu
    have := hs.1 s u hu
    unfold St.atV at this
    split at this
    · rename_i u1 hu1
      simp at this; subst this
      simp only [St.at0, Option.bind_eq_some_iff] at hu1
      obtain ⟨u0, h1, h2⟩ := hu1
      obtain ⟨x, hx, hr⟩ := h.renv s u0 h1
      exact ⟨x, hx, nilsOf_rep1 false s v.nils hnil (hr.ren hN hT (.inr hF) h2)⟩
    · cases this


/-! ### The function that puts off -/

/-- The closure that was put off is called. -/
def recK {β : Type} (ce : Entry) (S : St) (caps : List AV) (rec : AV) (k : St → Option β) : Option β :=
  callG.callB S.h none ce (caps ++ [rec]) (reachN S.h 40 (AV.namess (asIs ce.modes (caps ++ [rec]))) []) (fun v δ => k ⟨S.env, δ ++ S.heap⟩) (fun _ _ => none)

theorem recK_sound {β : Type} (hc : CxOk cx G) (hG : G w0) {E : Emb} {S : St} {a : Act} {w : World} (h : Rel w0 E N S.e S.h a w) {g : Nat} {ce : Entry} (hce : CallOkD cx.P G g ce) {caps : List AV} {rec : AV} {cv : List Value} {y : Value}
    (hlen : caps.length = cv.length) (hcv : ∀ (i : Nat) (v : AV) (x : Value), caps[i]? = some v → cv[i]? = some x → Rep E v x) (hry : Rep E rec y) {u : FrameMode} (hu : recU u y) {k : St → Option β} {r : β} (hk : recK ce S caps rec k = some r) :
    CallsD cx.P g cv.toArray u w fun en u' w' => ∃ v, en = .returned v ∧ settle u' = .returning ∧ ∃ T, k T = some r ∧ T.e = S.e ∧ RelF w0 N T.fs a w' := by
  have hargs : (caps ++ [rec]).length = (cv ++ [y]).length := by simp [hlen]
  have hrep : ∀ (i : Nat) (v : AV) (x : Value), (caps ++ [rec])[i]? = some v → (cv ++ [y])[i]? = some x → Rep E v x := by
    intro i v x hv hx
    rcases Nat.lt_or_ge i caps.length with hi | hi
    · rw [List.getElem?_append_left hi] at hv
      rw [List.getElem?_append_left (by omega)] at hx
      exact hcv i v x hv hx
    · rw [List.getElem?_append_right hi] at hv
      rw [List.getElem?_append_right (by omega), ← hlen] at hx
      cases hj : i - caps.length with
      | zero => rw [hj] at hv hx; simp at hv hx; subst hv; subst hx; exact hry
      | succ j => rw [hj] at hv; simp at hv
  unfold recK at hk
  rw [callB_def] at hk
  split at hk
  rotate_left
  · cases hk
  rename_i hc0
  simp only [Bool.and_eq_true] at hc0
  have hnb := Nat.eq_of_beq_eq_true hc0.1
  have hsm := Nat.le_of_ble_eq_true hc0.2.2.1
  have hfr : ∀ n, n ∈ reachN S.h 40 (AV.namess (asIs ce.modes (caps ++ [rec]))) [] → froN n = false := fun n hn => by have := List.all_eq_true.1 hc0.2.2.2 n hn; simpa using this
  have hd := hc0.2.1
  clear hc0
  generalize reachN S.h 40 (AV.namess (asIs ce.modes (caps ++ [rec]))) [] = ns at *
  rw [argsK_eq] at hk
  cases ha : argsK S.h (fun n => placeN n ns) ce.modes (caps ++ [rec]) some with
  | none => rw [ha] at hk; cases hk
  | some args' =>
    rw [ha] at hk
    simp only [Option.bind_some] at hk
    rw [lentK_eq] at hk
    cases hb : lentK S.h (fun n => placeN n ns) ns some with
    | none => rw [hb] at hk; cases hk
    | some bs =>
      rw [hb] at hk
      simp only [Option.bind_some] at hk
      split at hk
      rotate_left
      · cases hk
      rename_i x hx
      cases hF : ce.F x with
      | none => rw [hF] at hk; cases hk
      | some q =>
        rw [hF] at hk
        simp only [Option.bind_some] at hk
        split at hk
        rotate_left
        · cases hk
        rename_i vs bs' hvs hout
        split at hk
        rotate_left
        · cases hk
        rename_i hfin
        simp only [Bool.and_eq_true] at hfin
        rw [hce.1 q] at hk
        simp only [cond_false] at hk
        obtain ⟨hlen', hlent⟩ := lentK_spec hb
        have hlive : ∀ n, n ∈ ns → ∃ c, S.h n = some c ∧ c.live = true := fun n hn => by
          obtain ⟨j, hj, e⟩ := List.getElem_of_mem hn
          obtain ⟨c, c', h1, h2, _⟩ := hlent j n (by rw [List.getElem?_eq_getElem hj, e])
          exact ⟨c, h1, h2⟩
        have hbegin := call_begin h.toMem hd hsm hfr hb
        rw [hnb] at hbegin
        have hGc : G (iniOf (calEmb E ns w) ce.nb w) := hc.keep w0 E S.h w _ _ _ hG h.toMem fun g hg => by
          rw [← hnb] at hg
          obtain ⟨n, h1, h2, h3⟩ := (call_lent hd g).1 hg
          obtain ⟨c, hc1, hl1⟩ := hlive n h1
          exact ⟨n, c, hc1, hl1, h2, h3, hfr n h1⟩
        obtain ⟨g1, g2⟩ := args_sound h.toMem hlive hfr (ok := fun n => (hpOf bs n).isSome) (fun j hj => by
          have : j < bs.length := by omega
          simp [hpOf, List.getElem?_eq_getElem this]) ha hargs hrep
        have hbl : ∀ c ∈ bs, c.live = true := fun c' hc' => by
          obtain ⟨j, hj, e⟩ := List.getElem_of_mem hc'
          obtain ⟨c, c'', h1, h2, h3, h4⟩ := hlent j _ (List.getElem?_eq_getElem (by omega))
          rw [List.getElem?_eq_getElem hj] at h4
          simp at h4
          rw [← e, h4, (ren_agg h3).2.2.1]; exact h2
        refine (hce.2 w _ x q args' bs cv.toArray u y hGc hbegin (by omega) hbl hx hF (by simpa using g1) g2 hu).mono fun en u' w' ⟨v, h1, h2, h3⟩ => ?_
        obtain ⟨E', k1, k2, k3⟩ := call_end h hd hfr hb hnb h3 hvs hout hfin.1 hfin.2
        refine ⟨v, h1, h2, ⟨S.env, (bs' ++ lostN ns) ++ S.heap⟩, hk, rfl, E', ?_⟩
        have hh : (⟨S.env, (bs' ++ lostN ns) ++ S.heap⟩ : St).h = updH S.h (bs' ++ lostN ns) := by
          funext n
          simp only [St.h, updH]
          rw [lk_append]
          cases lk n (bs' ++ lostN ns) <;> rfl
        show Rel w0 E' N S.e (⟨S.env, (bs' ++ lostN ns) ++ S.heap⟩ : St).h a w'
        rw [hh]; exact k1

def dropE (n : Nat) (S : St) : St := ⟨S.env.filter (fun p => !(Nat.beq n p.1)), S.heap⟩

theorem lk_drop {n m : Nat} {v : AV} : ∀ {l : List (Nat × AV)}, lk m (l.filter (fun p => !(Nat.beq n p.1))) = some v → m ≠ n ∧ lk m l = some v
  | [], h => by cases h
  | (j, u) :: l, h => by
    simp only [List.filter_cons] at h
    cases hb : Nat.beq n j
    · rw [hb] at h
      simp only [Bool.not_false, if_true, lk] at h ⊢
      cases hm : Nat.beq m j
      · rw [hm] at h; exact lk_drop h
      · rw [hm] at h
        have := Nat.eq_of_beq_eq_true hm
        subst this
        exact ⟨fun e => (by subst e; simp at hb), h⟩
    · rw [hb] at h
      simp only [Bool.not_true, Bool.false_eq_true, if_false] at h
      obtain ⟨h1, h2⟩ := lk_drop h
      have := Nat.eq_of_beq_eq_true hb
      subst this
      refine ⟨h1, ?_⟩
      simp only [lk, beq_no h1, cond_false]
      exact h2

theorem Rel.pop {E : Emb} {S : St} {a : Act} {w : World} {y : Value} (hsz : a.tmps.size = N) (h : Rel w0 E (N + 1) S.e S.h { a with tmps := a.tmps.push y } w) : Rel w0 E N (dropE N S).e (dropE N S).h a w := by
  refine { h.toMem with size := hsz, defers := h.defers, renv := fun s u hs => ?_, senv := fun s u hs => ?_ }
  · obtain ⟨h1, h2⟩ := lk_drop hs
    obtain ⟨x, g1, g2⟩ := h.renv s u h2
    refine ⟨x, ?_, g2⟩
    simp only [Array.getElem?_push, hsz, if_neg h1] at g1
    exact g1
  · exact h.senv s u (lk_drop hs).2

def capsLow : List AV → Bool
  | [] => true
  | .ptr n _ :: l => Nat.blt n 1000 && capsLow l
  | _ => false

theorem capsLow_keep {F E : Emb} (hk : ∀ n, n < 1000 → E.ρ n = F.ρ n) : ∀ {l : List AV} {xs : List Value}, capsLow l = true → RepCs F l xs → RepCs E l xs
  | [], xs, _, h => h
  | v :: l, xs, hl, h => by
    simp only [RepCs] at h ⊢
    obtain ⟨a, b, e, h1, h2⟩ := h
    cases v <;> simp only [capsLow, Bool.false_eq_true] at hl
    rename_i n p
    simp only [Bool.and_eq_true] at hl
    have hn : n < 1000 := by have := hl.1; simp [Nat.blt] at this; omega
    refine ⟨a, b, e, ?_, capsLow_keep hk hl.2 h2⟩
    simp only [RepC] at h1 ⊢
    rw [hk n hn]; exact h1

def renEq (o : Option (List AV)) (l : List AV) : Bool :=
  match o with
  | some m => capsEq m l
  | none => false

/-- A function that puts a closure off: what is ahead of it, the closure, what is behind it. -/
def deferK {β : Type} (cx : Cx) (A : Code) (mk : Oper) (t g : Nat) (mid : Lay) (vm : View) (caps : List AV) (B : Code) (ce ce2 : Entry) (res : List ResultVar) (decR : St → Option β) (S : St) : Option β :=
  codeK cx A S fun e S => match e with
  | .normal => opK cx mk S.e S.h fun v δ => match v with
    | .fn g' caps0 => if Nat.beq g g' && (capsOK caps && renEq (AV.rens vm.to caps0) caps) then
        match mid.decV vm (S.put (some t) v δ) with
        | some x => codeK cx B (mid.enc x) fun e S => match e with
          | .normal => recK ce S caps .nili fun S => resultsK cx S res fun l => decR (S.res l)
          | .ret => recK ce S caps .nili fun S => resultsK cx S res fun l => decR (S.res l)
          | .panic => match S.e cx.N with
            | some rec => if rec.plain then recK ce2 S caps rec fun S => resultsK cx (dropE cx.N S) res fun l => decR (S.res l) else none
            | none => none
          | .exit _ => none
        | none => none
      else none
    | _ => none
  | _ => none

theorem fun_soundD (hc : CxOk cx G) {f : Nat} {fn : Func} (hfn : cx.P.funcs[f]? = some fn) {A B : Code} {id : Nat} {mk df : Oper} (hbody : fn.body = some (.seq A (.seq (.region id #[mk, df] false) B))) (hN : fn.ntmps = cx.N) (hcall : ∀ args w, (callFunc f args).run cx.P w = .ok (.enter f args) w)
    {t g : Nat} (hmk : mk.dst = some t) (htN : t < cx.N) (hgm : mk.guard = none) (hgd : df.guard = none) (hdd : df.dst = none)
    (hdf : ∀ (ρ : Operand → Value) (w : World) (cv : Array Value), ρ (.tmp t) = .func (.func g) #[] cv → (execOp ρ df).run cx.P w = .ok (.defer ⟨.fn (.func g) cv, #[]⟩) w)
    (hinv : ∀ args w, (callFunc g args).run cx.P w = .ok (.enter g args) w)
    {ce ce2 : Entry} (hce : CallOkD cx.P G g ce) (hce2 : CallOkD cx.P G g ce2) (e : Entry) (mid : Lay) (vm : View) (caps : List AV) (hmid : (mid.ok && (vm.ok0 && (capsLow caps && vm.names.all fun q => Nat.ble e.nb q.1 || Nat.beq q.1 q.2))) = true)
    (hq : e.quiet = true → e.nb = 0 ∧ ∀ r, e.out r = []) (hnb : e.nb ≤ 1000) (encS : e.α → St)
    (hdec : ∀ args bs x, bs.length = e.nb → e.dec args bs = some x → args.length ≤ cx.N ∧ ∃ v : View, v.ok = true ∧ (encS x).SubV (start2 args bs) v ∧ (encS x).inScope = true)
    (decR : St → Option e.ρ)
    (hr : ∀ (S : St) (l : List AV) r, decR (S.res l) = some r → ∃ v : View, v.ok = true ∧ (outS e r).SubV (S.res l) v ∧ (outS e r).inScope = true)
    (hres : ∀ r, (e.enc r).length = fn.results.size) (hpl : ∀ r, ∀ v ∈ e.enc r, v.plain = true) (hpan : ∀ r, e.pan r = false)
    (hlA : ∀ w0, G w0 → ∀ b ∈ loopsOf A, ∀ le, cx.loops (firstReg b) = some le → LoopOk cx w0 b le)
    (hlB : ∀ w0, G w0 → ∀ b ∈ loopsOf B, ∀ le, cx.loops (firstReg b) = some le → LoopOk cx w0 b le)
    (link : ∀ x, deferK cx A mk t g mid vm caps B ce ce2 fn.results.toList decR (encS x) = e.F x) : CallOk cx.P G f e := by
  refine ⟨hq, fun w E x r args bs vals hG hM hbl hlive hx hF hreps hnam => .inl ⟨hcall vals w, ?_⟩⟩
  refine calls_of_wp_defers hfn hbody ?_
  simp only [Bool.and_eq_true] at hmid
  obtain ⟨hmok, hvok, hcl, hvn⟩ := hmid
  have hsz := hreps.length
  obtain ⟨hlen, v0, hv0, hsub, hsc⟩ := hdec args bs x hbl hx
  have hrel : Rel (iniOf E e.nb w) E cx.N (start2 args bs).e (start2 args bs).h { tmps := vals ++ Array.replicate (fn.ntmps - vals.size) undef, defers := [] } w := by
    have hh : (start2 args bs).h = hpOf bs := funext fun n => lk_range
    rw [hh]
    refine { hM with size := ?_, defers := rfl, renv := ?_, senv := ?_ }
    · simp only [Array.size_append, Array.size_replicate, hN]
      simp at hsz; omega
    · intro s v hs
      have hs' : args[s]? = some v := by rw [← hs]; exact lk_range.symm
      obtain ⟨y, hy, hp, hr⟩ := hreps.get hs'
      have hlt : s < vals.size := by
        rcases Nat.lt_or_ge s vals.size with h | h
        · exact h
        · simp [Array.getElem?_eq_none h] at hy
      refine ⟨y, ?_, (Rep.one hp).2 hr⟩
      rw [Array.getElem?_append_left hlt]
      simpa using hy
    · intro s v hs
      have hs' : args[s]? = some v := by rw [← hs]; exact lk_range.symm
      exact AV.nameds_get hnam hs'
  have hstart : RelF (iniOf E e.nb w) cx.N (encS x).fs { tmps := vals ++ Array.replicate (fn.ntmps - vals.size) undef, defers := [] } w := ⟨_, hrel.view hv0 hsub hsc⟩
  have hFx := (link x).trans hF
  unfold deferK at hFx
  refine wp_seq (codeK_sound hc hG A (hlA _ hG) (encS x) _ r _ w hFx hstart _ fun ex S1 z a1 w1 h1 h2 => ?_)
  cases ex with
  | exit i => cases h1
  | ret => cases h1
  | panic => cases h1
  | normal =>
  obtain ⟨rfl, E1, h2⟩ := h2
  simp only at h1
  rw [opK_eq] at h1
  cases hf : opF cx mk S1.e S1.h with
  | none => rw [hf] at h1; cases h1
  | some p =>
  obtain ⟨v, δ⟩ := p
  rw [hf] at h1
  simp only [Option.bind_some] at h1
  split at h1
  rotate_left
  · cases h1
  rename_i g' caps0
  split at h1
  rotate_left
  · cases h1
  rename_i hchk
  simp only [Bool.and_eq_true] at hchk
  obtain ⟨hgg, hcok, hcren⟩ := hchk
  have hgg := Nat.eq_of_beq_eq_true hgg
  subst hgg
  have hcren : AV.rens vm.to caps0 = some caps := by
    unfold renEq at hcren
    split at hcren
    · rename_i m hm
      rw [hm, capsEq_eq hcren]
    · cases hcren
  split at h1
  rotate_left
  · cases h1
  rename_i x2 hx2
  refine wp_seq (wp_region ?_)
  have hrange : List.range (#[mk, df] : Array Oper).size = [0, 1] := rfl
  rw [hrange, wpOps_cons]
  unfold wpOp
  have h0 : (#[mk, df] : Array Oper)[0]? = some mk := rfl
  have h01 : (#[mk, df] : Array Oper)[1]? = some df := rfl
  rw [h0]
  simp only
  rw [if_pos (by simp [Region.wanted, hgm])]
  refine .inl (opF_good hc hG h2 hf _ _ fun E2 y w2 k1 k2 k3 => ?_)
  have ky := ((Rep.one (v := .fn g caps0) rfl).1 k2).cells1 rfl
  simp only [RepC] at ky
  obtain ⟨vs, ey, hvs⟩ := ky
  simp at ey
  have k4 := k1.put (dst := some t) (by simpa [dstOK] using htN) k2 k3
  have hdef1 : a1.defers = [] := h2.defers
  rw [hmk, wpOps_cons]
  unfold wpOp
  rw [h01]
  simp only
  rw [if_pos (by simp [Region.wanted, hgd])]
  have hev : (a1.put (some t) y).eval (.tmp t) = .func (.func g) #[] vs.toArray := by
    have hlt : t < a1.tmps.size := by rw [h2.size]; exact htN
    simp [Act.eval, Act.put, Array.getD_eq_getD_getElem?, hlt, ey]
  refine .inl ?_
  unfold Oper.wp
  rw [hdf _ _ _ hev, Oper.upon_defer, hdd]
  simp only [wpOps]
  -- the names of what the closure holds
  let ρ' : Nat → Nat := fun m => match vm.of m with | some n => E2.ρ n | none => if m < 1000 then E2.ρ m else 0
  let cnt' : Nat → Option Nat := fun m => match vm.of m with | some n => E2.cnt n | none => if m < 1000 then E2.cnt m else none
  let len' : Nat → Nat := fun m => match vm.of m with | some n => E2.len n | none => if m < 1000 then E2.len m else 0
  let fx' : Nat → Option (Nat × Option Nat × Nat) := fun j => if j < 1000 then some (ρ' j, cnt' j, len' j) else none
  let dd : Deferred := ⟨.fn (.func g) vs.toArray, #[]⟩
  have hS2 : Rel (iniOf E e.nb w) E2 cx.N (S1.put (some t) (.fn g caps0) δ).e (S1.put (some t) (.fn g caps0) δ).h (a1.put (some t) y) w2 := by
    have hp := put_fs S1 (some t) (.fn g caps0) δ
    have he : (S1.put (some t) (.fn g caps0) δ).e = upd S1.e (some t) (.fn g caps0) := congrArg FS.e hp
    have hh : (S1.put (some t) (.fn g caps0) δ).h = updH S1.h δ := congrArg FS.h hp
    rw [he, hh]; exact k4
  have hvo : ∀ n m, vm.of m = some n → ρ' m = E2.ρ n ∧ cnt' m = E2.cnt n ∧ len' m = E2.len n := fun n m hm => by simp [ρ', cnt', len', hm]
  have k5 := hS2.viewG (ρ := ρ') (cnt := cnt') (len := len') (fx := fx') hvok hvo
    (fun m hb hm => by have : ¬ m < 1000 := by omega
                       simp [cnt', len', hm, this])
    (fun j q hj hl => by simp only [fx', if_pos hl, Option.some.injEq] at hj; subst hj; exact ⟨rfl, rfl, rfl⟩)
    (T := mid.enc x2) (Lay.decV_sub hx2) (Lay.inScope hmok x2)
  have k6 : Rel { iniOf E e.nb w with fx := fx', D := [dd] } { E2 with ρ := ρ', cnt := cnt', len := len' } cx.N (mid.enc x2).e (mid.enc x2).h ({ a1.put (some t) y with defers := dd :: (a1.put (some t) y).defers }.put none undef) w2 := by
    refine { k5.toMem.withD [dd] with size := k5.size, defers := ?_, renv := k5.renv, senv := k5.senv }
    show dd :: a1.defers = [dd]
    rw [hdef1]
  have hcF : RepCs { E2 with ρ := ρ', cnt := cnt', len := len' } caps vs := RepCs.ren (E := E2) (F := { E2 with ρ := ρ', cnt := cnt', len := len' }) (σ := vm.to) (fun n m hm => hvo n m (View.ok_of0 hvok hm)) (fun _ _ _ h => h) (.inr fun _ _ _ h => h) hcren hvs
  have hG' : G { iniOf E e.nb w with fx := fx', D := [dd] } := hc.defs _ _ _ hG
  have hmem : ∀ w' E' hp, Mem { iniOf E e.nb w with fx := fx', D := [dd] } E' hp w' → Mem (iniOf E e.nb w) E' hp w' := fun w' E' hp h =>
    { rheap := h.rheap, inj := h.inj, imm := h.imm, imle := h.imle, pers := h.pers, new := h.new, imm0 := h.imm0, below := h.below, shp := h.shp, gone := h.gone, newn := h.newn,
      fixed := fun j q hj hl => by
        have h3 := h.fixed j (ρ' j, cnt' j, len' j) (by simp [fx', hl]) hl
        have h4 := k1.fixed j q hj hl
        have hjn : j < e.nb := by
          simp only [iniOf] at hj
          split at hj
          · assumption
          · cases hj
        have h5 : ρ' j = E2.ρ j ∧ cnt' j = E2.cnt j ∧ len' j = E2.len j := by
          cases ho : vm.of j with
          | none => simp [ρ', cnt', len', ho, hl]
          | some n =>
            have := List.all_eq_true.1 hvn _ (of_mem ho)
            simp only [Bool.or_eq_true] at this
            rcases this with h | h
            · have := Nat.le_of_ble_eq_true h; omega
            · have := Nat.eq_of_beq_eq_true h
              subst this
              simp [ρ', cnt', len', ho]
        exact ⟨h3.1.trans (h5.1.trans h4.1), h3.2.1.trans (h5.2.1.trans h4.2.1), h3.2.2.trans (h5.2.2.trans h4.2.2)⟩ }
  have held : ∀ {N' : Nat} {E3 : Emb} {S3 : St} {a3 : Act} {w3 : World}, Rel { iniOf E e.nb w with fx := fx', D := [dd] } E3 N' S3.e S3.h a3 w3 → caps.length = vs.length ∧ ∀ (i : Nat) (v : AV) (x : Value), caps[i]? = some v → vs[i]? = some x → Rep E3 v x := fun {N' E3 S3 a3 w3} h =>
    caps_rep hcok (capsLow_keep (fun n hn => (h.fixed n (ρ' n, cnt' n, len' n) (by simp [fx', hn]) hn).1) hcl hcF)
  have hiv : ∀ w, (invoke (.fn (.func g) vs.toArray) #[]).run cx.P w = .ok (.enter g vs.toArray) w := fun w => by simpa [invoke] using hinv vs.toArray w
  refine codeK_sound hc hG' B (hlB _ hG') (mid.enc x2) _ r _ w2 h1 ⟨_, k6⟩ _ fun ex S3 z a3 w3 m1 m2 => ?_
  have fin : ∀ (h2 : RelF { iniOf E e.nb w with fx := fx', D := [dd] } cx.N S3.fs a3 w3) (m1 : (recK ce S3 caps .nili fun S => resultsK cx S fn.results.toList fun l => decR (S.res l)) = some r),
      Leaves cx.P fn a3.tmps (fun en w' => ∃ v, en = endOf (e.pan r) v ∧ CallPost e E r w v w') a3.defers .returning w3 := by
    intro h2 m1
    obtain ⟨E3, h2⟩ := h2
    have hdef : a3.defers = [dd] := h2.defers
    rw [hdef]
    obtain ⟨q1, q2⟩ := held h2
    refine leaves_cons (by simp) (hiv w3) ((recK_sound hc hG' h2 hce q1 q2 (rec := .nili) (y := .nilIface) ?_ (.inl ⟨rfl, rfl⟩) m1).mono ?_)
    · exact (Rep.one rfl).2 ⟨by simp [RepC, Value.cells], by simp [AV.isAgg], by simp [Value.cells]⟩
    · rintro en u' w' ⟨v, rfl, hset, T, hk, _, hrel⟩
      show Leaves cx.P fn a3.tmps _ [] (settle u') w'
      rw [hset]
      obtain ⟨v2, g1, g2⟩ := ret_post e (hmem w') hnb hr hres hpl hrel hk
      exact ⟨v2, g1, v2, by rw [hpan]; rfl, g2⟩
  cases ex with
  | exit i => cases m1
  | normal => obtain ⟨rfl, m2⟩ := m2; exact fin m2 m1
  | ret => obtain ⟨rfl, m2⟩ := m2; exact fin m2 m1
  | panic =>
    obtain ⟨y', rfl, E3, m2⟩ := m2
    simp only at m1
    split at m1
    rotate_left
    · cases m1
    rename_i rec hrec
    split at m1
    rotate_left
    · cases m1
    have hsz3 : a3.tmps.size = cx.N := by have := m2.size; simp at this; exact this
    obtain ⟨y2, hy2, hry⟩ := m2.renv cx.N rec hrec
    have hy2 : y2 = y' := by simp [← hsz3] at hy2; exact hy2.symm
    subst hy2
    have hdef : a3.defers = [dd] := m2.defers
    show Leaves cx.P fn a3.tmps _ a3.defers (.panicking [{ v := y2, recovered := false }]) w3
    rw [hdef]
    obtain ⟨q1, q2⟩ := held m2
    refine leaves_cons (by simp) (hiv w3) ((recK_sound hc hG' m2 hce2 q1 q2 hry (.inr rfl) m1).mono ?_)
    rintro en u' w' ⟨v, rfl, hset, T, hk, _, E4, hrel⟩
    show Leaves cx.P fn a3.tmps _ [] (settle u') w'
    rw [hset]
    obtain ⟨v2, g1, g2⟩ := ret_post (S := dropE cx.N T) e (hmem w') hnb hr hres hpl ⟨E4, Rel.pop hsz3 hrel⟩ hk
    exact ⟨v2, g1, v2, by rw [hpan]; rfl, g2⟩

/-! ### Contracts made of layouts -/

/-- A closure's: na: how many it has captured; d: where the recovered value goes. -/
def mkR (na d nb : Nat) (modes : List Bool) (inn out : Lay) (F : inn.T → Option out.T) : Entry :=
  { α := inn.T, ρ := out.T, nb := nb, quiet := false, modes := modes,
    dec := fun args bs => cond (Nat.beq args.length (na + 1)) (inn.dec ⟨(d, args.getD na .undef) :: (List.range na).zip args, (List.range bs.length).zip bs⟩) none,
    F := F, enc := fun r => resL 0 (out.enc r), out := fun r => (out.enc r).heap }

theorem start3_eq (args bs : List AV) (d : Nat) (rec : AV) : (⟨(d, (args ++ [rec]).getD args.length .undef) :: (List.range args.length).zip (args ++ [rec]), (List.range bs.length).zip bs⟩ : St) = start3 args bs d rec := by
  have h1 : (args ++ [rec]).getD args.length .undef = rec := by simp
  have h2 : (List.range args.length).zip (args ++ [rec]) = (List.range args.length).zip args := by
    have := List.zip_append (l₁ := List.range args.length) (l₂ := args) (r₁ := []) (r₂ := [rec]) (by simp)
    simpa using this
  rw [h1, h2]; rfl

theorem fun_okR (hc : CxOk cx G) {f : Nat} {fn : Func} (hfn : cx.P.funcs[f]? = some fn) {id : Nat} {o : Oper} {C : Code} (hbody : fn.body = some (.seq (.region id #[o] false) C)) (hN : fn.ntmps = cx.N)
    (hrec : ∀ ρ w, (execOp ρ o).run cx.P w = .ok .recover w) (hgd : o.guard = none) {d : Nat} (hd : o.dst = some d) (hdN : Nat.blt d cx.N = true)
    (na nb : Nat) (modes : List Bool) (inn out : Lay) (F : inn.T → Option out.T) (hnum : (Nat.ble na cx.N && Nat.ble nb 1000 && Nat.beq 0 fn.results.size) = true) (hin : inn.ok = true) (hout : outOk 0 out = true)
    (hl : ∀ w0, G w0 → ∀ b ∈ loopsOf C, ∀ le, cx.loops (firstReg b) = some le → LoopOk cx w0 b le)
    (link : ∀ x, codeK cx C (inn.enc x) (finK cx fn.results.toList out.dec fun _ => none) = F x) : CallOkD cx.P G f (mkR na d nb modes inn out F) := by
  simp only [Bool.and_eq_true] at hnum
  refine fun_soundR hc hfn hbody hN hrec hgd hd (by simp [Nat.blt] at hdN; omega) (mkR na d nb modes inn out F) (Nat.le_of_ble_eq_true hnum.1.2) inn.enc (fun args rec bs x hbs hx => ?_) out.dec (fun S l r hr => resL_out hout hr) (fun r => ?_) (fun r v hv => (resL_plain hout r v hv).1) (fun _ => rfl) hl link
  · have hx : cond (Nat.beq (args ++ [rec]).length (na + 1)) (inn.dec ⟨(d, (args ++ [rec]).getD na .undef) :: (List.range na).zip (args ++ [rec]), (List.range bs.length).zip bs⟩) none = some x := hx
    obtain ⟨h1, h2⟩ := cond_some hx
    have h1 := Nat.eq_of_beq_eq_true h1
    have h1 : args.length = na := by simpa using h1
    subst h1
    rw [start3_eq] at h2
    obtain ⟨v, hv, hs⟩ := Lay.dec_sub hin h2
    exact ⟨Nat.le_of_ble_eq_true hnum.1.1, v, hv, hs, Lay.inScope hin x⟩
  · show (resL 0 (out.enc r)).length = _
    exact Nat.eq_of_beq_eq_true hnum.2

theorem fun_okD (hc : CxOk cx G) {f : Nat} {fn : Func} (hfn : cx.P.funcs[f]? = some fn) {A B : Code} {id : Nat} {mk df : Oper} (hbody : fn.body = some (.seq A (.seq (.region id #[mk, df] false) B))) (hN : fn.ntmps = cx.N) (hcall : ∀ args w, (callFunc f args).run cx.P w = .ok (.enter f args) w)
    {t g : Nat} (hmk : mk.dst = some t) (htN : Nat.blt t cx.N = true) (hgm : mk.guard = none) (hgd : df.guard = none) (hdd : df.dst = none)
    (hdf : ∀ (ρ : Operand → Value) (w : World) (cv : Array Value), ρ (.tmp t) = .func (.func g) #[] cv → (execOp ρ df).run cx.P w = .ok (.defer ⟨.fn (.func g) cv, #[]⟩) w)
    (hinv : ∀ args w, (callFunc g args).run cx.P w = .ok (.enter g args) w)
    {ce ce2 : Entry} (hce : CallOkD cx.P G g ce) (hce2 : CallOkD cx.P G g ce2) (mid : Lay) (vm : View) (caps : List AV)
    (na nr nb : Nat) (modes : List Bool) (inn out : Lay) (F : inn.T → Option out.T) (hmid : (mid.ok && (vm.ok0 && (capsLow caps && vm.names.all fun q => Nat.ble nb q.1 || Nat.beq q.1 q.2))) = true)
    (hnum : (Nat.ble na cx.N && Nat.ble nb 1000 && Nat.beq nr fn.results.size) = true) (hin : inn.ok = true) (hout : outOk nr out = true)
    (hlA : ∀ w0, G w0 → ∀ b ∈ loopsOf A, ∀ le, cx.loops (firstReg b) = some le → LoopOk cx w0 b le)
    (hlB : ∀ w0, G w0 → ∀ b ∈ loopsOf B, ∀ le, cx.loops (firstReg b) = some le → LoopOk cx w0 b le)
    (link : ∀ x, deferK cx A mk t g mid vm caps B ce ce2 fn.results.toList out.dec (inn.enc x) = F x) : CallOk cx.P G f (mkB na nr nb modes inn out F) := by
  simp only [Bool.and_eq_true] at hnum
  refine fun_soundD hc hfn hbody hN hcall hmk (by simp [Nat.blt] at htN; omega) hgm hgd hdd hdf hinv hce hce2 (mkB na nr nb modes inn out F) mid vm caps hmid (fun h => by cases h) (Nat.le_of_ble_eq_true hnum.1.2) inn.enc (fun args bs x hbs hx => ?_) out.dec (fun S l r hr => resL_out hout hr) (fun r => ?_) (fun r v hv => (resL_plain hout r v hv).1) (fun _ => rfl) hlA hlB link
  · have hx : cond (Nat.beq args.length na) (inn.dec (start2 args bs)) none = some x := hx
    obtain ⟨h1, h2⟩ := cond_some hx
    have h1 := Nat.eq_of_beq_eq_true h1
    obtain ⟨v, hv, hs⟩ := Lay.dec_sub hin h2
    exact ⟨by rw [h1]; exact Nat.le_of_ble_eq_true hnum.1.1, v, hv, hs, Lay.inScope hin x⟩
  · show (resL nr (out.enc r)).length = _
    simp only [resL, List.length_map, List.length_range]
    exact Nat.eq_of_beq_eq_true hnum.2

/-! ### Pieces of a body; a contract of nothing -/

def headC : Code → Code
  | .seq a _ => a
  | c => c
def tailC : Code → Code
  | .seq _ b => b
  | c => c
def firstO : Code → Oper
  | .seq (.region _ ops _) _ => ops.getD 0 default
  | _ => default
def regO (n : Nat) : Code → Oper
  | .seq (.region _ ops _) _ => ops.getD n default
  | _ => default
def callOf : Op → Call
  | .defer c => c
  | _ => default

theorem callOk_none {P : Program} {f : Nat} {e : Entry} (hq : e.quiet = true → e.nb = 0 ∧ ∀ r, e.out r = []) (h : ∀ a, e.F a = none) : CallOk P G f e :=
  ⟨hq, fun w E x r args bs vals _ _ _ _ _ hF => by rw [h] at hF; cases hF⟩

/-- What the model does where a closure is put off. -/
theorem defer_run {P : Program} {o : Oper} {c : Call} {t g : Nat} (ho : o.op = .defer c) (hc : c.callee = .value (.tmp t)) (ha : c.args = #[]) (ρ : Operand → Value) (w : World) (cv : Array Value) (h : ρ (.tmp t) = .func (.func g) #[] cv) :
    (execOp ρ o).run P w = .ok (.defer ⟨.fn (.func g) cv, #[]⟩) w := by
  simp [execOp, ho, resolve, hc, ha, h, Deferred.ofValue]
end
end
end Go.Sy

namespace Go.Sy
open Go Go.RowKit

noncomputable def bitsAdd64E : Entry := mkE [.int .u64, .int .u64, .int .u64] [.int .u64, .int .u64] fun p => bitsAdd64 p.1 p.2.1 p.2.2
noncomputable def bitsSub64E : Entry := mkE [.int .u64, .int .u64, .int .u64] [.int .u64, .int .u64] fun p => bitsSub64 p.1 p.2.1 p.2.2

/-- What the model does at math/bits.Sub64. -/
def sub64Run : Array Value → Sem Value := fun args => do
  let (x, y, b) ← Extern.MathBitsCarry.three "Sub64" args
  pure (Extern.MathBitsCarry.pair ((x + Extern.MathBitsCarry.m64 - y - b) % Extern.MathBitsCarry.m64) (if x < y + b then 1 else 0))

theorem three_args {k1 k2 k3 : IntKind} {E : Emb} {args : List AV} {vals : Array Value} {p : Pat.Ts [.int k1, .int k2, .int k3]} (hd : Pat.decs [.int k1, .int k2, .int k3] args = some p) (h : Rep1s E args vals.toList) :
    vals = #[.int k1 p.1, .int k2 p.2.1, .int k3 p.2.2] := by
  have ha := Pat.decs_encs _ _ _ hd
  subst ha
  obtain ⟨x, _, e1, _, h1, y, _, e2, _, h2, z, _, e3, _, h3, e4⟩ := h
  have e4 : _ = [] := e4
  subst e4; subst e3; subst e2
  have h1 := Rep1.int.1 h1
  have h2 := Rep1.int.1 h2
  have h3 := Rep1.int.1 h3
  subst h1; subst h2; subst h3
  apply Array.ext'
  simpa using e1

theorem pair_rep {E : Emb} {k1 k2 : IntKind} {a b : Int} : Rep E (one (Pat.encs [.int k1, .int k2] (a, b))) (.tuple #[.int k1 a, .int k2 b]) := by
  refine ⟨_, rfl, _, _, rfl, rfl, Rep1.int.2 rfl, _, _, rfl, rfl, Rep1.int.2 rfl, rfl⟩

theorem ext_ok {P : Program} {G : Ini → Prop} {f : Nat} {fn : Func} {e : Array Value → Sem Value} (hf : P.funcs[f]? = some fn) (hname : (fn.name == "runtime.NumGoroutine") = false) (hb : fn.body.isNone = true) (hn : Extern.findNext fn = none) (he : Extern.find fn = some e)
    {ps rs : List Pat} {F : Pat.Ts ps → Option (Pat.Ts rs)} (h : ∀ (w : World) (E : Emb) (a : Pat.Ts ps) (r : Pat.Ts rs) (args : List AV) (vals : Array Value), Pat.decs ps args = some a → F a = some r → Rep1s E args vals.toList →
      ∃ v, (e vals).run P w = .ok v w ∧ Rep E (one (Pat.encs rs r)) v ∧ (one (Pat.encs rs r)).named (fun _ => false) = true) : CallOk P G f (mkE ps rs F) := by
  refine ⟨fun _ => ⟨rfl, fun _ => rfl⟩, fun w E a r args bs vals hG hM hbl hlive hd hF hr hnam => ?_⟩
  obtain ⟨v, h1, h2, h3⟩ := h w E a r args vals hd hF hr
  have hbs : bs = [] := List.length_eq_zero_iff.1 hbl
  subst hbs
  refine .inr ⟨rfl, v, w, ?_, E, hM, fun j hj => absurd hj (Nat.not_lt_zero j), h2, nameds_none h3⟩
  rw [run_callFunc_extern hf hname hb hn he, h1]
  rfl

theorem run_add64c {P : Program} (x y c : Int) (h : c.toNat ≤ 1) (w : World) : (add64Entry #[.int .u64 x, .int .u64 y, .int .u64 c]).run P w =
    .ok (.tuple #[.int .u64 (((x.toNat + y.toNat + c.toNat) % 18446744073709551616 : Nat) : Int), .int .u64 (((x.toNat + y.toNat + c.toNat) / 18446744073709551616 : Nat) : Int)]) w := by
  cases c with
  | ofNat n =>
    have : n = 0 ∨ n = 1 := by simp at h; omega
    rcases this with rfl | rfl <;> rfl
  | negSucc n => rfl

theorem run_sub64c {P : Program} (x y c : Int) (h : c.toNat ≤ 1) (w : World) : (sub64Run #[.int .u64 x, .int .u64 y, .int .u64 c]).run P w =
    .ok (.tuple #[.int .u64 (((x.toNat + 18446744073709551616 - y.toNat - c.toNat) % 18446744073709551616 : Nat) : Int), .int .u64 ((if x.toNat < y.toNat + c.toNat then 1 else 0 : Nat) : Int)]) w := by
  cases c with
  | ofNat n =>
    have : n = 0 ∨ n = 1 := by simp at h; omega
    rcases this with rfl | rfl <;> rfl
  | negSucc n => rfl

theorem bitsAdd64_ok {P : Program} {G : Ini → Prop} {f : Nat} {fn : Func} (hf : P.funcs[f]? = some fn) (hname : (fn.name == "runtime.NumGoroutine") = false) (hb : fn.body.isNone = true) (hn : Extern.findNext fn = none) (he : Extern.find fn = some add64Entry) : CallOk P G f bitsAdd64E := by
  refine ext_ok hf hname hb hn he fun w E a r args vals hd hF hr => ?_
  obtain ⟨x, y, c⟩ := a
  have hv := three_args hd hr
  subst hv
  simp only [bitsAdd64, hide_eq] at hF
  obtain ⟨h1, hF⟩ := cond_some hF
  have hF := Option.some.inj hF
  subst hF
  exact ⟨_, run_add64c x y c (by simpa using h1) w, pair_rep, rfl⟩

theorem bitsSub64_ok {P : Program} {G : Ini → Prop} {f : Nat} {fn : Func} (hf : P.funcs[f]? = some fn) (hname : (fn.name == "runtime.NumGoroutine") = false) (hb : fn.body.isNone = true) (hn : Extern.findNext fn = none) (he : Extern.find fn = some sub64Run) : CallOk P G f bitsSub64E := by
  refine ext_ok hf hname hb hn he fun w E a r args vals hd hF hr => ?_
  obtain ⟨x, y, c⟩ := a
  have hv := three_args hd hr
  subst hv
  simp only [bitsSub64, hide_eq] at hF
  obtain ⟨h1, hF⟩ := cond_some hF
  have hF := Option.some.inj hF
  subst hF
  exact ⟨_, run_sub64c x y c (by simpa using h1) w, pair_rep, rfl⟩

/-- With more laid variables than it needs. -/
theorem CallOk.up {P : Program} {l m : List (Nat × AV)} {f : Nat} {e : Entry} (h : CallOk P (Glob l) f e) (hs : ∀ x ∈ l, x ∈ m) : CallOk P (Glob m) f e :=
  ⟨h.1, fun w E a r args bs vals hG => h.2 w E a r args bs vals fun g v hg => hG g v (hs _ hg)⟩
end Go.Sy
