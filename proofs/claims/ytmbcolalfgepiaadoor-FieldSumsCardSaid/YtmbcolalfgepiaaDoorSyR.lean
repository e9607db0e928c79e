/- Control, loops, functions: what a call answers is what the symbolic reading says. -/
import Derived.Test.YtmbcolalfgepiaaDoorSyQ
set_option linter.unusedVariables false
set_option linter.unusedSimpArgs false
namespace Go.Sy
open Go Go.RowKit

def St.fs (S : St) : FS := ⟨S.e, S.h⟩

theorem put_fs (S : St) (d : Option Nat) (v : AV) (δ : Option (Nat × AV)) : (S.put d v δ).fs = S.fs.put d v δ := by
  refine FS.ext' ?_ ?_
  · funext n
    cases d <;> rfl
  · funext n
    cases δ with
    | none => rfl
    | some b => cases b; rfl

theorem lit_fs {S : St} {d : Nat} {b : Bool} (h : S.e d = some (.bool b)) : (S.lit d b).fs = S.fs := by
  refine FS.ext' ?_ rfl
  funext n
  simp only [St.fs, St.lit, St.e, lk]
  cases hn : Nat.beq n d
  · rfl
  · have := Nat.eq_of_beq_eq_true hn
    subst this
    exact h.symm

def Ex.to : Ex → Exit
  | .normal => .normal
  | .exit id => .exit id
  | .ret => .ret

section
variable {cx : Cx} {G : World → Prop} {w0 : World} {N : Nat} {all : Array Oper}

theorem opsK_run {β : Type} : ∀ (l : List Oper) (S : St) (k : St → Option β) (r : β), opsK cx all l S k = some r → ∃ S', k S' = some r ∧ runF cx all l S.fs = some S'.fs
  | [], S, k, r, h => ⟨S, h, rfl⟩
  | o :: l, S, k, r, h => by
    simp only [opsK] at h
    split at h
    · rename_i hd
      have run : ∀ T : St, T.fs = S.fs → guardOf all S.e o = some true → (opK cx o T.e T.h fun v δ => opsK cx all l (T.put o.dst v δ) k) = some r →
          ∃ S', k S' = some r ∧ runF cx all (o :: l) S.fs = some S'.fs := by
        intro T hT hg h
        rw [opK_eq] at h
        cases hf : opF cx o T.e T.h with
        | none => rw [hf] at h; cases h
        | some p =>
          rw [hf] at h
          simp only [Option.bind_some] at h
          obtain ⟨S', h1, h2⟩ := opsK_run l _ k r h
          refine ⟨S', h1, ?_⟩
          have hg' : guardOf all S.fs.e o = some true := hg
          rw [← hT] at hg' ⊢
          have hf' : opF cx o T.fs.e T.fs.h = some p := hf
          simp only [runF, stepF, hd, if_true, hg', hf', Option.map_some, Option.bind_some]
          rw [← put_fs]; exact h2
      have skip : ∀ T : St, T.fs = S.fs → guardOf all S.e o = some false → opsK cx all l (T.put o.dst .undef none) k = some r →
          ∃ S', k S' = some r ∧ runF cx all (o :: l) S.fs = some S'.fs := by
        intro T hT hg h
        obtain ⟨S', h1, h2⟩ := opsK_run l _ k r h
        refine ⟨S', h1, ?_⟩
        have hg' : guardOf all S.fs.e o = some false := hg
        rw [← hT] at hg' ⊢
        simp only [runF, stepF, hd, if_true, hg', Option.bind_some]
        rw [← put_fs]; exact h2
      split at h
      · rename_i hn
        exact run S rfl (by simp [guardOf, hn]) h
      · rename_i gd d want hgd hat
        split at h
        · rename_i b hb
          have hj : (all[gd.1]?).bind (·.dst) = some d := by
            unfold guardAt at hat
            rw [hgd] at hat
            simp only at hat
            split at hat
            · rename_i hd'
              simp at hat
              rw [← hat.1]; exact hd'
            · cases hat
          have hw : gd.2 = want := by
            unfold guardAt at hat
            rw [hgd] at hat
            simp only at hat
            split at hat
            · simp at hat; exact hat.2
            · cases hat
          have hgo : guardOf all S.e o = some (b == want) := by
            unfold guardOf
            rw [hgd]
            simp only
            rw [hj]
            simp only [Option.bind_some]
            rw [hb, hw]
          cases b with
          | true =>
            simp only [cond_true] at h
            cases want with
            | true => rw [if_pos rfl] at h; exact run _ (lit_fs hb) hgo h
            | false => rw [if_neg (by decide)] at h; exact skip _ (lit_fs hb) hgo h
          | false =>
            simp only [cond_false] at h
            cases want with
            | true => rw [if_pos rfl] at h; exact skip _ (lit_fs hb) hgo h
            | false => rw [if_neg (by decide)] at h; exact run _ (lit_fs hb) hgo h
        · cases h
      · cases h
    · cases h

/-- A loop keeps its contract. -/
def LoopOk (cx : Cx) (w0 : World) (body : Code) (le : LEntry) : Prop :=
  ∀ (S : St) (x : le.α) (r : le.ρ) (a : Act) (w : World), le.dec S = some x → le.F x = some r → RelF w0 cx.N S.fs a w →
    ∀ Q : Exit → Act → World → Prop, (∀ a' w', RelF w0 cx.N (le.enc x r).2.fs a' w' → Q (le.enc x r).1.to a' w') → (Code.loop body).wp cx.P Q a w

/-! ### What is forgotten -/

theorem lk_mem {n : Nat} {v : AV} : ∀ {l : List (Nat × AV)}, lk n l = some v → (n, v) ∈ l
  | [], h => by cases h
  | (m, u) :: l, h => by
    simp only [lk] at h
    cases hb : Nat.beq n m
    · rw [hb] at h; exact List.mem_cons_of_mem _ (lk_mem h)
    · rw [hb] at h
      have := Nat.eq_of_beq_eq_true hb
      simp at h; subst h; subst this
      exact List.mem_cons_self

theorem inScope_spec {S : St} (h : S.inScope = true) : (∀ n v, S.e n = some v → v.named (fun n => (S.h n).isSome) = true) ∧ (∀ n v, S.h n = some v → v.named (fun n => (S.h n).isSome) = true) := by
  unfold St.inScope at h
  simp only [Bool.and_eq_true, List.all_eq_true] at h
  exact ⟨fun n v hv => h.1 _ (lk_mem hv), fun n v hv => h.2 _ (lk_mem hv)⟩

/-- Less is known. -/
theorem Rel.sub {E : Emb} {env hp env' hp' : Nat → Option AV} {a : Act} {w : World} (h : Rel w0 E N env hp a w) (he : ∀ n v, env' n = some v → env n = some v) (hh : ∀ n v, hp' n = some v → hp n = some v)
    (h1 : ∀ n v, env' n = some v → v.named (fun n => (hp' n).isSome) = true) (h2 : ∀ n v, hp' n = some v → v.named (fun n => (hp' n).isSome) = true) : Rel w0 E N env' hp' a w :=
  have hs : ∀ n, (hp' n).isSome = true → (hp n).isSome = true := fun n hn => by
    obtain ⟨v, hv⟩ := Option.isSome_iff_exists.1 hn
    rw [hh n v hv]; rfl
  { h with renv := fun s v hv => h.renv s v (he s v hv), rheap := fun n c hc => h.rheap n c (hh n c hc), inj := fun n m hn hm => h.inj n m (hs n hn) (hs m hm), senv := h1, shp := h2 }

/-- S knows all that T knows. -/
def St.Sub (T S : St) : Prop := (∀ n v, T.e n = some v → S.e n = some v) ∧ (∀ n v, T.h n = some v → S.h n = some v)

theorem RelF.sub {S T : St} {a : Act} {w : World} (h : RelF w0 N S.fs a w) (hs : T.Sub S) (hc : T.inScope = true) : RelF w0 N T.fs a w := by
  obtain ⟨E, h⟩ := h
  exact ⟨E, h.sub hs.1 hs.2 (inScope_spec hc).1 (inScope_spec hc).2⟩

theorem lk_keep {l : List (Nat × AV)} {n : Nat} {v : AV} : ∀ (ks : List Nat), lk n (ks.filterMap fun n => (lk n l).map fun v => (n, v)) = some v → lk n l = some v
  | [], h => by cases h
  | m :: ks, h => by
    simp only [List.filterMap_cons] at h
    cases hm : lk m l with
    | none => rw [hm] at h; exact lk_keep ks h
    | some u =>
      rw [hm] at h
      simp only [Option.map_some, lk] at h
      cases hb : Nat.beq n m
      · rw [hb] at h; exact lk_keep ks h
      · rw [hb] at h
        have := Nat.eq_of_beq_eq_true hb
        subst this
        rw [hm]; exact h

theorem keep_sub (S : St) (ks hs : List Nat) : (S.keep ks hs).Sub S := ⟨fun n v h => lk_keep ks h, fun n v h => lk_keep hs h⟩

theorem trim_sound {S S' : St} {id : Nat} {a : Act} {w : World} (ht : trimOf cx id S = some S') (h : RelF w0 N S.fs a w) : RelF w0 N S'.fs a w := by
  unfold trimOf at ht
  split at ht
  · simp at ht; subst ht; exact h
  · split at ht
    · rename_i hc
      simp at ht; subst ht
      exact h.sub (keep_sub _ _ _) hc
    · cases ht

/-! ### Code -/

theorem codeK_sound (hc : CxOk cx G) (hG : G w0) : ∀ (c : Code), (∀ body ∈ loopsOf c, ∀ le, cx.loops (firstReg body) = some le → LoopOk cx w0 body le) →
    ∀ {β : Type} (S : St) (k : Ex → St → Option β) (r : β) (a : Act) (w : World), codeK cx c S k = some r → RelF w0 cx.N S.fs a w →
      ∀ Q : Exit → Act → World → Prop, (∀ e S' a' w', k e S' = some r → RelF w0 cx.N S'.fs a' w' → Q e.to a' w') → c.wp cx.P Q a w
  | .skip, _, β, S, k, r, a, w, h, hr, Q, hQ => wp_skip (hQ .normal S a w h hr)
  | .label _, _, β, S, k, r, a, w, h, hr, Q, hQ => wp_label (hQ .normal S a w h hr)
  | .region id ops draw, _, β, S, k, r, a, w, h, hr, Q, hQ => by
    simp only [codeK] at h
    split at h
    · rename_i hd
      obtain ⟨S', h1, h2⟩ := opsK_run _ _ _ _ h
      exact region_sound hc hG (fun hdraw => by subst hdraw; exact (show drawOK S.e ops = true by simpa using hd)) hr h2 fun a' w' hr' => hQ .normal S' a' w' h1 hr'
    · cases h
  | .seq x y, hl, β, S, k, r, a, w, h, hr, Q, hQ => by
    simp only [codeK] at h
    refine wp_seq (codeK_sound hc hG x (fun b hb => hl b (by simp [loopsOf, hb])) S _ r a w h hr _ fun e S' a' w' h1 h2 => ?_)
    cases e with
    | normal => exact codeK_sound hc hG y (fun b hb => hl b (by simp [loopsOf, hb])) S' k r a' w' h1 h2 Q hQ
    | exit id => exact hQ (.exit id) S' a' w' h1 h2
    | ret => exact hQ .ret S' a' w' h1 h2
  | .cond c x y, hl, β, S, k, r, a, w, h, hr, Q, hQ => by
    simp only [codeK] at h
    split at h
    · rename_i t ht
      obtain ⟨E, hr'⟩ := hr
      have he : a.eval c = .bool t := by
        have := (ev_sound hc hG hr' 0 c).1
        have ht' : ev cx S.fs.e 0 c = .bool t := ht
        rw [ht'] at this
        exact Rep1.bool.1 this
      refine wp_cond he ?_
      cases t with
      | true => exact codeK_sound hc hG x (fun b hb => hl b (by simp [loopsOf, hb])) S k r a w h ⟨E, hr'⟩ Q hQ
      | false => exact codeK_sound hc hG y (fun b hb => hl b (by simp [loopsOf, hb])) S k r a w h ⟨E, hr'⟩ Q hQ
    · cases h
  | .block id x, hl, β, S, k, r, a, w, h, hr, Q, hQ => by
    simp only [codeK] at h
    refine wp_block (codeK_sound hc hG x (fun b hb => hl b (by simpa [loopsOf] using hb)) S _ r a w h hr _ fun e S' a' w' h1 h2 => ?_)
    cases e with
    | normal => exact hQ .normal S' a' w' h1 h2
    | exit i =>
      simp only [Ex.to, Exit.inBlock]
      simp only at h1
      split at h1
      · rename_i hi; subst hi; rw [if_pos rfl]; exact hQ .normal S' a' w' h1 h2
      · rename_i hi; rw [if_neg hi]; exact hQ (.exit i) S' a' w' h1 h2
    | ret => exact hQ .ret S' a' w' h1 h2
  | .loop x, hl, β, S, k, r, a, w, h, hr, Q, hQ => by
    simp only [codeK] at h
    split at h
    · rename_i le hle
      split at h
      · rename_i y hy
        cases hF : le.F y with
        | none => rw [hF] at h; cases h
        | some q =>
          rw [hF] at h
          simp only [Option.bind_some] at h
          rw [le.elim_eq] at h
          exact hl x (by simp [loopsOf]) le hle S y q a w hy hF hr Q fun a' w' hr' => hQ _ _ a' w' h hr'
      · cases h
    · have ih := fun {γ : Type} => codeK_sound hc hG x (fun b hb => hl b (by simp [loopsOf, hb])) (β := γ)
      refine wp_loop_rounds 600 ?_
      revert h
      generalize 600 = n
      intro h
      have key : ∀ (n : Nat) (S : St) (a : Act) (w : World), loopK (codeK cx x) (trimOf cx (firstReg x)) n S k = some r → RelF w0 cx.N S.fs a w → Code.rounds cx.P x Q n a w := by
        intro n
        induction n with
        | zero => intro S a w h _; cases h
        | succ n ihn =>
          intro S a w h hr
          simp only [loopK] at h
          split at h
          · rename_i S' ht
            rw [rounds_succ]
            refine ih S' _ r a w h (trim_sound ht hr) _ fun e S'' a' w' h1 h2 => ?_
            cases e with
            | normal => exact ihn S'' a' w' h1 h2
            | exit id => exact hQ (.exit id) S'' a' w' h1 h2
            | ret => exact hQ .ret S'' a' w' h1 h2
          · cases h
      exact key n S a w h hr
  | .exit id, _, β, S, k, r, a, w, h, hr, Q, hQ => wp_exit (hQ (.exit id) S a w h hr)
  | .ret, _, β, S, k, r, a, w, h, hr, Q, hQ => wp_ret (hQ .ret S a w h hr)
  | .rangeFunc .., _, β, S, k, r, a, w, h, hr, Q, hQ => by simp [codeK] at h
  | .scope _, _, β, S, k, r, a, w, h, hr, Q, hQ => by simp [codeK] at h
  | .goto _, _, β, S, k, r, a, w, h, hr, Q, hQ => by simp [codeK] at h
  | .refuse _, _, β, S, k, r, a, w, h, hr, Q, hQ => by simp [codeK] at h

/-! ### Loops that are read round by round -/

def iter {α ρ : Type} (f : α → Option (Sum α ρ)) : Nat → α → Option ρ
  | 0, _ => none
  | n + 1, a => (f a).bind fun
    | .inl a' => iter f n a'
    | .inr r => some r

/-- A loop's contract out of one round. -/
theorem loop_sound (hc : CxOk cx G) (hG : G w0) (body : Code) (hl : ∀ b ∈ loopsOf body, ∀ le, cx.loops (firstReg b) = some le → LoopOk cx w0 b le)
    {C α ρ : Type} (dec : St → Option (C × α)) (encS : C → α → St) (f : C → α → Option (Sum α ρ)) (decN : C → St → Option α) (decX : C → Ex → St → Option ρ) (encX : C → ρ → Ex × St) (elim : ∀ {β : Type}, C → ρ → (Ex → St → Option β) → Option β) (elim_eq : ∀ (β : Type) c r (k : Ex → St → Option β), elim c r k = k (encX c r).1 (encX c r).2) (n : C → α → Nat)
    (hd : ∀ S c x, dec S = some (c, x) → (encS c x).Sub S) (hsc : ∀ c x, (encS c x).inScope = true)
    (hn : ∀ c S x, decN c S = some x → (encS c x).Sub S) (hx : ∀ c e S r, decX c e S = some r → (encX c r).1 = e ∧ (encX c r).2.Sub S) (hxs : ∀ c r, (encX c r).2.inScope = true)
    (link : ∀ c x, codeK cx body (encS c x) (fun e S => match e with | .normal => (decN c S).map .inl | e => (decX c e S).map .inr) = f c x) :
    LoopOk cx w0 body { α := C × α, ρ := ρ, dec := dec, F := fun p => iter (f p.1) (n p.1 p.2) p.2, enc := fun p r => encX p.1 r, elim := fun p r k => elim p.1 r k, elim_eq := fun β p r k => elim_eq β p.1 r k } := by
  intro S p r a w hdec hF hr Q hQ
  obtain ⟨c, x⟩ := p
  simp only at hF hQ
  refine wp_loop_rounds (n c x) ?_
  have hr' : RelF w0 cx.N (encS c x).fs a w := hr.sub (hd S c x hdec) (hsc c x)
  clear hr hdec
  generalize n c x = m at *
  induction m generalizing x a w with
  | zero => cases hF
  | succ m ih =>
    rw [rounds_succ]
    simp only [iter] at hF
    cases hf : f c x with
    | none => rw [hf] at hF; cases hF
    | some q =>
      rw [hf] at hF
      simp only [Option.bind_some] at hF
      have h := link c x
      rw [hf] at h
      refine codeK_sound hc hG body hl (encS c x) _ q a w h hr' _ fun e S' a' w' h1 h2 => ?_
      have fin : ∀ e', e' ≠ .normal → (decX c e' S').map Sum.inr = some q → Q e'.to a' w' := by
        intro e' hne h1
        cases hq : decX c e' S' with
        | none => rw [hq] at h1; cases h1
        | some r' =>
          rw [hq] at h1
          simp at h1; subst h1
          simp at hF; subst hF
          obtain ⟨g1, g2⟩ := hx c e' S' r' hq
          rw [← g1]
          exact hQ a' w' (h2.sub g2 (hxs c r'))
      cases e with
      | normal =>
        cases hq : decN c S' with
        | none => rw [hq] at h1; cases h1
        | some y =>
          rw [hq] at h1
          simp at h1; subst h1
          exact ih a' w' y (h2.sub (hn c S' y hq) (hsc c y)) hF
      | exit id => exact fin (.exit id) (by simp) h1
      | ret => exact fin .ret (by simp) h1
end
end Go.Sy
