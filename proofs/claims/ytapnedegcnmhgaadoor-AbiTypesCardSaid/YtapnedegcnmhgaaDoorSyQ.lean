/- Regions, continued: operations that are apart may change places. -/
import Derived.Test.YtapnedegcnmhgaaDoorSyP
set_option linter.unusedVariables false
set_option linter.unusedSimpArgs false
namespace Go.Sy
open Go Go.RowKit
noncomputable section

theorem opF_pure {cx : Cx} {o : Oper} {f hp hp' : Nat → Option AV} (h : kindOf cx o.op = 0) : opF cx o f hp = opF cx o f hp' := by
  unfold opF opK
  cases hop : o.op <;> rw [hop] at h <;> try rfl
  case makeFunc fn first caps => cases fn <;> rfl
  case convert s d x =>
    have hne : ∀ e, cx.P.underlying s ≠ some (.slice e) := fun e he => by simp [kindOf, he] at h
    simp only
    split
    · rfl
    · rfl
    · rename_i e hs _; exact absurd hs (hne e)
    · rfl
  case typeAssert x s t c => cases c <;> rfl
  case alloc => simp [kindOf] at h
  case box => simp [kindOf] at h
  case buildSlice => simp [kindOf] at h
  case makeSlice => simp [kindOf] at h
  case load => simp [kindOf] at h
  case store => simp [kindOf] at h
  case indexAddr => simp [kindOf] at h
  case slice => simp [kindOf] at h
  case call c =>
    obtain ⟨cal, args, ts⟩ := c
    cases cal with
    | value g =>
      cases g <;> simp only [kindOf] at h
      · cases h
      · cases h
      · cases h
      · split at h
        · split at h <;> cases h
        · cases h
    | invoke r m => simp [kindOf] at h
    | builtin b => cases b <;> first | rfl | (simp [kindOf] at h)

theorem p2_nil {u v : AV} {δ : List (Nat × AV)} (h : P2 u [] = some (v, δ)) : δ = [] := by simp [P2] at h; first | exact h.2 | exact h.2.symm
theorem bind_nil {α : Type} {x : Option α} {k : α → Option (AV × List (Nat × AV))} {v : AV} {δ : List (Nat × AV)} (hk : ∀ u, k u = some (v, δ) → δ = []) (h : x.bind k = some (v, δ)) : δ = [] := by
  cases x with
  | none => cases h
  | some u => exact hk u h
theorem ite_nil {c : Prop} [Decidable c] {x y : Option (AV × List (Nat × AV))} {v : AV} {δ : List (Nat × AV)} (hx : x = some (v, δ) → δ = []) (hy : y = some (v, δ) → δ = []) (h : (if c then x else y) = some (v, δ)) : δ = [] := by
  split at h
  · exact hx h
  · exact hy h
theorem cond_nil {c : Bool} {x y : Option (AV × List (Nat × AV))} {v : AV} {δ : List (Nat × AV)} (hx : x = some (v, δ) → δ = []) (hy : y = some (v, δ) → δ = []) (h : cond c x y = some (v, δ)) : δ = [] := by
  cases c
  · exact hy h
  · exact hx h
theorem cond_p2 {b : Bool} {u : AV} {γ : List (Nat × AV)} {r : AV × List (Nat × AV)} (h : cond b none (P2 u γ) = some r) : (u, γ) = r := by
  cases b
  · simpa [P2] using h
  · cases h
theorem no_nil {v : AV} {δ : List (Nat × AV)} (h : (none : Option (AV × List (Nat × AV))) = some (v, δ)) : δ = [] := by cases h
theorem bound_nil {cx : Cx} {env : Nat → Option AV} {x : Option Operand} {d m : Nat} {k : Nat → Option (AV × List (Nat × AV))} {v : AV} {δ : List (Nat × AV)} (hk : ∀ r, k r = some (v, δ) → δ = []) (h : boundK cx env x d m k = some (v, δ)) : δ = [] := by
  rw [boundK_eq] at h; exact bind_nil hk h

theorem opF_reads {cx : Cx} {o : Oper} {f hp : Nat → Option AV} {v : AV} {δ : List (Nat × AV)} (h : kindOf cx o.op ≠ 2) (hf : opF cx o f hp = some (v, δ)) : δ = [] := by
  unfold opF opK at hf
  cases hop : o.op with
  | move x => rw [hop] at hf; exact p2_nil hf
  | assign x => rw [hop] at hf; exact p2_nil hf
  | pick c x y =>
    rw [hop] at hf; simp only at hf
    split at hf
    · exact cond_nil p2_nil p2_nil hf
    · exact no_nil hf
  | alloc t => rw [hop] at h; simp [kindOf] at h
  | box t x => rw [hop] at h; simp [kindOf] at h
  | buildSlice t n ps => rw [hop] at h; simp [kindOf] at h
  | makeSlice t x y => rw [hop] at h; simp [kindOf] at h
  | store t x y => rw [hop] at h; simp [kindOf] at h
  | build t parts =>
    rw [hop] at hf; simp only at hf
    split at hf
    · refine ite_nil (fun h => ?_) no_nil hf
      rw [partsK_eq] at h; exact bind_nil (fun _ => p2_nil) h
    · exact no_nil hf
  | load t x =>
    rw [hop] at hf; simp only at hf
    split at hf
    · split at hf
      · rw [getB_eq] at hf; exact bind_nil (fun _ => ite_nil p2_nil no_nil) hf
      · exact no_nil hf
    · exact ite_nil p2_nil no_nil hf
    · exact cond_nil (ite_nil p2_nil no_nil) no_nil hf
    · exact no_nil hf
  | nilCheck x => rw [hop] at hf; simp only at hf; split at hf <;> first | exact p2_nil hf | exact cond_nil p2_nil no_nil hf | exact no_nil hf
  | binOp op t x y u => rw [hop] at hf; simp only at hf; rw [binK_eq] at hf; exact bind_nil (fun _ => p2_nil) hf
  | unOp op t x => rw [hop] at hf; simp only at hf; rw [unK_eq] at hf; exact bind_nil (fun _ => p2_nil) hf
  | convert s d x =>
    rw [hop] at hf; simp only at hf
    split at hf
    · exact p2_nil hf
    · split at hf <;> first | exact p2_nil hf | exact no_nil hf
    · split at hf
      · rw [listK0_eq] at hf
        refine bind_nil (fun q hq => ?_) hf
        split at hq <;> first | exact p2_nil hq | exact no_nil hq
      · exact no_nil hf
    · exact no_nil hf
  | makeInterface t x =>
    rw [hop] at hf; simp only at hf
    split at hf
    · exact no_nil hf
    · exact ite_nil p2_nil no_nil hf
    · exact no_nil hf
  | typeAssert x s t c =>
    rw [hop] at hf
    cases c
    · exact no_nil hf
    · simp only at hf
      split at hf
      · exact no_nil hf
      · split at hf
        · exact ite_nil (ite_nil p2_nil p2_nil) no_nil hf
        · exact ite_nil p2_nil no_nil hf
        · exact no_nil hf
      · exact no_nil hf
  | fieldAddr s x i =>
    rw [hop] at hf; simp only at hf
    split at hf
    · split at hf
      · exact ite_nil no_nil p2_nil hf
      · refine ite_nil no_nil (fun h => ?_) hf
        rw [getK_eq] at h; exact bind_nil (fun _ => p2_nil) h
      · refine cond_nil (fun h => ?_) no_nil hf
        refine ite_nil no_nil (fun h => ?_) h
        rw [getK_eq] at h; exact bind_nil (fun _ => p2_nil) h
      · exact no_nil hf
    · exact no_nil hf
  | field t x i =>
    rw [hop] at hf; simp only at hf
    split at hf
    · split at hf
      · rw [getK_eq] at hf; exact bind_nil (fun _ => ite_nil p2_nil no_nil) hf
      · exact no_nil hf
    · exact no_nil hf
  | indexAddr t x i =>
    rw [hop] at hf; simp only at hf
    split at hf
    · refine cond_nil (fun h => ?_) no_nil hf
      split at h
      · refine cond_nil (fun h => ?_) no_nil h
        split at h
        · split at h
          · exact p2_nil h
          · rw [getK_eq] at h; exact bind_nil (fun _ => p2_nil) h
          · exact no_nil h
        · exact no_nil h
      · split at h
        · split at h
          · exact ite_nil (cond_nil p2_nil no_nil) no_nil h
          · split at h
            · exact ite_nil (cond_nil p2_nil no_nil) no_nil h
            · exact no_nil h
          · exact ite_nil (cond_nil p2_nil no_nil) no_nil h
          · exact ite_nil (cond_nil p2_nil no_nil) no_nil h
          · exact ite_nil (cond_nil p2_nil no_nil) no_nil h
          · exact no_nil h
        · exact no_nil h
      · exact no_nil h
    · exact no_nil hf
  | index t x i =>
    rw [hop] at hf; simp only at hf
    split at hf
    · refine cond_nil (fun h => ?_) no_nil hf
      split at h
      · refine cond_nil (fun h => ?_) no_nil h
        split at h
        · rw [getK_eq] at h; exact bind_nil (fun _ => ite_nil p2_nil no_nil) h
        · exact no_nil h
      · split at h
        · exact cond_nil p2_nil no_nil h
        · exact no_nil h
      · exact no_nil h
    · exact no_nil hf
  | extract t i =>
    rw [hop] at hf; simp only at hf
    split at hf
    · split at hf <;> first | exact p2_nil hf | exact no_nil hf
    · exact no_nil hf
  | slice t x lo hi mx =>
    rw [hop] at hf
    cases mx with
    | some m => exact no_nil hf
    | none =>
      simp only at hf
      have two : ∀ {d m : Nat} {k : Nat → Nat → AV}, (boundK cx f hi d m fun h => boundK cx f lo 0 h fun l => P2 (k h l) []) = some (v, δ) → δ = [] := fun h => bound_nil (fun _ h => bound_nil (fun _ h => p2_nil h) h) h
      split at hf
      · split at hf
        · exact ite_nil two no_nil hf
        · exact no_nil hf
      · split at hf
        · exact ite_nil two no_nil hf
        · split at hf
          · refine ite_nil (fun h => ?_) no_nil hf
            split at h
            · exact p2_nil h
            · exact two h
          · exact no_nil hf
        · split at hf
          · exact ite_nil two no_nil hf
          · exact no_nil hf
        · exact ite_nil two no_nil hf
        · exact ite_nil two no_nil hf
        · exact no_nil hf
      · split at hf
        · exact two hf
        · exact no_nil hf
      · exact no_nil hf
  | call c =>
    rw [hop] at h hf
    simp only at hf
    obtain ⟨cal, args, ts⟩ := c
    cases cal with
    | value g =>
      simp only at hf
      have hg : ∃ q, g = .func q := by
        cases g <;> simp [kindOf] at h
        exact ⟨_, rfl⟩
      obtain ⟨q, rfl⟩ := hg
      simp only [ev, capsOK, if_true, List.append_nil] at hf
      rw [callK_def] at hf
      simp only [kindOf] at h
      split at hf
      · rename_i e he
        rw [he] at h
        simp only at h
        split at hf
        · rw [argsK_eq] at hf
          refine bind_nil (fun l hf => ?_) hf
          split at hf
          · exact bind_nil (fun r => ite_nil (cond_nil no_nil p2_nil) no_nil) hf
          · exact no_nil hf
        · rename_i hq
          rw [if_neg hq] at h
          exact absurd rfl h
      · exact no_nil hf
    | invoke r m => exact no_nil hf
    | builtin b =>
      cases b <;> simp only at hf <;> try exact no_nil hf
      case len =>
        split at hf
        · exact p2_nil hf
        · exact p2_nil hf
        · split at hf
          · exact ite_nil p2_nil no_nil hf
          · exact p2_nil hf
          · exact no_nil hf
        · exact p2_nil hf
        · exact p2_nil hf
        · exact p2_nil hf
        · exact p2_nil hf
        · split at hf <;> first | exact p2_nil hf | exact no_nil hf
        · exact no_nil hf
      case copy => simp [kindOf] at h
      case append => simp [kindOf] at h
      case min => split at hf <;> first | exact ite_nil p2_nil no_nil hf | exact no_nil hf
      case max => split at hf <;> first | exact ite_nil p2_nil no_nil hf | exact no_nil hf
  | makeFunc fn first caps => rw [hop] at hf; cases fn <;> first | exact no_nil hf | exact ite_nil p2_nil no_nil hf
  | _ => rw [hop] at hf; exact no_nil hf

section
variable {cx : Cx} {G : Ini → Prop} {w0 : Ini} {N : Nat} {a : Act} {w : World} {all : Array Oper} {gd : Option (Nat → Option AV)}

theorem memApart_spec {x y : Op} (h : memApart cx x y = true) : (kindOf cx x = 2 → kindOf cx y = 0) ∧ (kindOf cx y = 2 → kindOf cx x = 0) := by
  unfold memApart at h
  split at h <;> simp_all

theorem updH_ne {hp : Nat → Option AV} {b k : Nat} {c : AV} (h : k ≠ b) : updH hp [(b, c)] k = hp k := updH_other h
theorem updH_self' {hp : Nat → Option AV} {b : Nat} {c : AV} : updH hp [(b, c)] b = some c := updH_same

/-- What a load or a store looks at. -/
theorem opF_at {o : Oper} {f hp hp' : Nat → Option AV} {n b : Nat} {p : List Step} (ha : addrOf o.op = some n) (hf : f n = some (.ptr b p)) (hh : hp b = hp' b) : opF cx o f hp = opF cx o f hp' := by
  unfold opF opK
  cases hop : o.op <;> rw [hop] at ha <;> simp only [addrOf, reduceCtorEq] at ha
  case load t x =>
    cases x <;> simp only [addrOf, reduceCtorEq, Option.some.injEq] at ha
    subst ha
    simp only [ev, hf, Option.getD_some, AV.open, hh]
  case store t x y =>
    cases x <;> simp only [addrOf, reduceCtorEq, Option.some.injEq] at ha
    subst ha
    simp only [ev, hf, Option.getD_some, hh]

theorem opF_delta {o : Oper} {f hp : Nat → Option AV} {n b : Nat} {p : List Step} {v : AV} {δ : List (Nat × AV)} (ha : addrOf o.op = some n) (hf : f n = some (.ptr b p)) (h : opF cx o f hp = some (v, δ)) : δ = [] ∨ ∃ c, δ = [(b, c)] := by
  by_cases hk : kindOf cx o.op = 2
  · unfold opF opK at h
    cases hop : o.op <;> rw [hop] at ha hk h <;> simp only [addrOf, reduceCtorEq] at ha
    case load t x => simp [kindOf] at hk
    case store t x y =>
      cases x <;> simp only [addrOf, reduceCtorEq, Option.some.injEq] at ha
      subst ha
      rename_i n
      have e : ev cx f 0 (.tmp n) = .ptr b p := by simp [ev, hf]
      simp only [e] at h
      cases hc : hp b with
      | none => rw [hc] at h; cases h
      | some u =>
        rw [hc] at h
        simp only at h
        by_cases hfit : (fitsT cx.P t (ev cx f t y) && !froN b) = true
        · rw [if_pos hfit, setB_eq] at h
          cases hs : sett u p (ev cx f t y) with
          | none => rw [hs] at h; cases h
          | some c =>
            rw [hs] at h
            simp [P2] at h
            exact .inr ⟨c, h.2.symm⟩
        · rw [if_neg hfit] at h; cases h
  · exact .inl (opF_reads hk h)

theorem opF_new {o : Oper} {f hp : Nat → Option AV} {v : AV} {δ : List (Nat × AV)} (hn : newOp o.op = true) (h : opF cx o f hp = some (v, δ)) : ∃ d c, δ = [(d, c)] ∧ hp d = none := by
  unfold opF opK at h
  cases hop : o.op <;> rw [hop] at hn h <;> simp only [newOp, reduceCtorEq, Bool.false_eq_true] at hn
  case alloc t =>
    simp only at h
    split at h
    · rename_i d z _ _
      split at h
      · rename_i hc
        simp [P2] at h
        simp only [Bool.and_eq_true, Option.isNone_iff_eq_none] at hc
        exact ⟨_, z, h.2.symm, hc.1⟩
      · cases h
    · cases h
  case box t x =>
    simp only at h
    split at h
    · rename_i d _
      split at h
      · rename_i hc
        simp [P2] at h
        simp only [Bool.and_eq_true, Option.isNone_iff_eq_none] at hc
        exact ⟨_, _, h.2.symm, hc.1⟩
      · cases h
    · cases h
  case buildSlice t n ps =>
    simp only at h
    split at h
    · rename_i d e _ _
      split at h
      · rename_i hc
        have hd : hp (d + 1000) = none := by simpa using hc
        split at h
        · split at h
          · split at h
            · simp [P2] at h
              exact ⟨_, _, h.2.symm, hd⟩
            · split at h
              · split at h
                · split at h
                  · simp [P2] at h
                    exact ⟨_, _, h.2.symm, hd⟩
                  · cases h
                · cases h
              · cases h
          · cases h
        · cases h
      · cases h
    · cases h
  case makeSlice t x y =>
    simp only at h
    split at h
    · rename_i d e _ _
      split at h
      · rename_i hc
        have hd : hp (d + 1000) = none := by simpa using hc
        split at h
        · rename_i s b n c _ _ _ _
          cases h0 : decide (0 ≤ n)
          · rw [h0] at h; cases h
          · rw [h0] at h
            simp only [cond_true] at h
            cases h1 : decide (n ≤ c)
            · rw [h1] at h; cases h
            · rw [h1] at h
              simp only [cond_true] at h
              cases h2 : roomB b c.toNat
              · rw [h2] at h; cases h
              · rw [h2] at h
                simp only [cond_true] at h
                split at h
                · simp [P2] at h
                  exact ⟨_, _, h.2.symm, hd⟩
                · simp [P2] at h
                  exact ⟨_, _, h.2.symm, hd⟩
        · cases h
      · cases h
    · cases h

theorem opF_newD' {o : Oper} {f hp : Nat → Option AV} {v : AV} {δ : List (Nat × AV)} (hn : newOp o.op = true) (h : opF cx o f hp = some (v, δ)) : ∃ d c, o.dst = some d ∧ δ = [(d + 1000, c)] := by
  unfold opF opK at h
  cases hop : o.op <;> rw [hop] at hn h <;> simp only [newOp, reduceCtorEq, Bool.false_eq_true] at hn
  case alloc t =>
    simp only at h
    split at h
    · rename_i d z hdd _
      split at h
      · rename_i hc
        simp [P2] at h
        simp only [Bool.and_eq_true, Option.isNone_iff_eq_none] at hc
        exact ⟨d, z, hdd, h.2.symm⟩
      · cases h
    · cases h
  case box t x =>
    simp only at h
    split at h
    · rename_i d hdd
      split at h
      · rename_i hc
        simp [P2] at h
        simp only [Bool.and_eq_true, Option.isNone_iff_eq_none] at hc
        exact ⟨d, _, hdd, h.2.symm⟩
      · cases h
    · cases h
  case buildSlice t n ps =>
    simp only at h
    split at h
    · rename_i d e hdd _
      split at h
      · rename_i hc
        have hd : hp (d + 1000) = none := by simpa using hc
        split at h
        · split at h
          · split at h
            · simp [P2] at h
              exact ⟨d, _, hdd, h.2.symm⟩
            · split at h
              · split at h
                · split at h
                  · simp [P2] at h
                    exact ⟨d, _, hdd, h.2.symm⟩
                  · cases h
                · cases h
              · cases h
          · cases h
        · cases h
      · cases h
    · cases h
  case makeSlice t x y =>
    simp only at h
    split at h
    · rename_i d e hdd _
      split at h
      · rename_i hc
        have hd : hp (d + 1000) = none := by simpa using hc
        split at h
        · rename_i s b n c _ _ _ _
          cases h0 : decide (0 ≤ n)
          · rw [h0] at h; cases h
          · rw [h0] at h
            simp only [cond_true] at h
            cases h1 : decide (n ≤ c)
            · rw [h1] at h; cases h
            · rw [h1] at h
              simp only [cond_true] at h
              cases h2 : roomB b c.toNat
              · rw [h2] at h; cases h
              · rw [h2] at h
                simp only [cond_true] at h
                split at h
                · simp [P2] at h
                  exact ⟨d, _, hdd, h.2.symm⟩
                · simp [P2] at h
                  exact ⟨d, _, hdd, h.2.symm⟩
        · cases h
      · cases h
    · cases h

theorem opF_newD {o : Oper} {f hp : Nat → Option AV} {p : AV × List (Nat × AV)} {m : Nat} {c : AV} (hn : newOp o.op = true) (h : opF cx o f hp = some p) (hp2 : p.2 = [(m, c)]) : ∃ d, o.dst = some d ∧ m = d + 1000 := by
  obtain ⟨d, c', h1, h2⟩ := opF_newD' (v := p.1) (δ := p.2) hn h
  rw [hp2] at h2
  simp at h2
  exact ⟨d, h1, h2.1⟩

theorem listK0_mono {β : Type} {hp hp' : Nat → Option AV} (hh : ∀ n c, hp n = some c → hp' n = some c) {v : AV} {k : (s : Sh) → List s.T → Option β} {r : β} (h : listK0 hp v k = some r) : listK0 hp' v k = some r := by
  unfold listK0 at h ⊢
  cases v <;> simp only at h ⊢ <;> try exact h
  case own n s =>
    cases hc : hp n with
    | none => rw [hc] at h; cases h
    | some c => rw [hc] at h; rw [hh n c hc]; exact h
  case osl n s i len =>
    cases hc : hp n with
    | none => rw [hc] at h; cases h
    | some c => rw [hc] at h; rw [hh n c hc]; exact h
  case sl n p s i len cap =>
    cases hc : hp n with
    | none => rw [hc] at h; cases h
    | some c => rw [hc] at h; rw [hh n c hc]; exact h

theorem textsK_mono {hp hp' : Nat → Option AV} (hh : ∀ n c, hp n = some c → hp' n = some c) : ∀ {l : List AV} {r : List (List Int)}, textsK hp l some = some r → textsK hp' l some = some r
  | [], r, h => h
  | v :: l, r, h => by
    simp only [textsK] at h ⊢
    rw [listK0_eq] at h ⊢
    cases hq : listF0 hp v with
    | none => rw [hq] at h; cases h
    | some q =>
      rw [hq] at h
      have hq' : listF0 hp' v = some q := listK0_mono hh hq
      rw [hq']
      simp only [Option.bind_some] at h ⊢
      split at h
      · rw [textsK_eq] at h ⊢
        cases hr : textsK hp l some with
        | none => rw [hr] at h; cases h
        | some r' => rw [hr] at h; rw [textsK_mono hh hr]; exact h
      · cases h

theorem listF_mono {hp hp' : Nat → Option AV} (hh : ∀ n c, hp n = some c → hp' n = some c) {v : AV} {q : SL} (h : listF hp v = some q) : listF hp' v = some q := by
  unfold listF listK at h ⊢
  cases v <;> simp only at h ⊢ <;> try exact listK0_mono hh h
  case sl n p s i len cap =>
    cases p with
    | cons a p => cases s <;> simp only at h ⊢ <;> exact listK0_mono hh h
    | nil =>
      cases s <;> simp only at h ⊢ <;> try exact listK0_mono hh h
      case bytes =>
        cases hc : hp n with
        | none =>
          rw [hc] at h
          simp only at h
          unfold listK0 at h
          simp only [hc] at h
          cases h
        | some c =>
          rw [hc] at h; rw [hh n c hc]
          cases c <;> simp only at h ⊢ <;> try exact listK0_mono hh h
          case st l =>
            generalize (Nat.ble (i + len) l.length && AV.ones l) = b at h
            cases b
            · cases h
            · simp only [cond_true] at h ⊢
              rw [textsK_eq] at h ⊢
              cases hr : textsK hp ((l.drop i).take len) some with
              | none => rw [hr] at h; cases h
              | some r' => rw [hr] at h; rw [textsK_mono hh hr]; exact h

theorem immK_mono {hp hp' : Nat → Option AV} (hh : ∀ n c, hp n = some c → hp' n = some c) {v u : AV} (h : immK hp v some = some u) : immK hp' v some = some u := by
  have hL : (listK hp v fun s l => some (AV.isl false s l)) = some u → (listK hp' v fun s l => some (AV.isl false s l)) = some u := by
    intro h
    rw [listK_eq] at h ⊢
    cases hq : listF hp v with
    | none => rw [hq] at h; cases h
    | some q => rw [hq] at h; rw [listF_mono hh hq]; exact h
  unfold immK at h ⊢
  cases v <;> simp only at h ⊢ <;> try exact h
  case own => exact hL h
  case osl => exact hL h
  case sl => exact hL h
  case ptr n p =>
    cases hc : hp n with
    | none => rw [hc] at h; cases h
    | some c => rw [hc] at h; rw [hh n c hc]; exact h

theorem mask_mono {hp hp' : Nat → Option AV} {σ : Nat → Option Nat} (hh : ∀ n c, hp n = some c → hp' n = some c) : ∀ n c, maskN σ hp n = some c → maskN σ hp' n = some c := fun n c h => by
  unfold maskN at h ⊢
  split at h
  · cases h
  · rename_i hs
    try simp only [hs]
    exact hh n c h

theorem argsK_mono {hp hp' : Nat → Option AV} {σ : Nat → Option Nat} (hh : ∀ n c, hp n = some c → hp' n = some c) : ∀ {ms : List Bool} {l us : List AV}, argsK hp σ ms l some = some us → argsK hp' σ ms l some = some us
  | ms, [], us, h => by unfold argsK at h ⊢; exact h
  | true :: ms, v :: l, us, h => by
    simp only [argsK] at h ⊢
    split at h
    · rename_i hp0
      rw [if_pos hp0]
      simp only [Option.bind_eq_some_iff] at h ⊢
      obtain ⟨u, h1, h2⟩ := h
      refine ⟨u, h1, ?_⟩
      rw [argsK_eq] at h2 ⊢
      cases hl : argsK hp σ ms l some with
      | none => rw [hl] at h2; cases h2
      | some us' => rw [hl] at h2; rw [argsK_mono hh hl]; exact h2
    · cases h
  | false :: ms, v :: l, us, h => by
    simp only [argsK] at h ⊢
    rw [immK_eq] at h ⊢
    cases hv : immK (maskN σ hp) v some with
    | none => rw [hv] at h; cases h
    | some u =>
      rw [hv] at h
      have hv' : immK (maskN σ hp') v some = some u := immK_mono (mask_mono hh) hv
      rw [hv']
      simp only [Option.bind_some] at h ⊢
      rw [argsK_eq] at h ⊢
      cases hl : argsK hp σ (List.tail (false :: ms)) l some with
      | none => rw [hl] at h; cases h
      | some us' => rw [hl] at h; rw [argsK_mono hh hl]; exact h
  | [], v :: l, us, h => by
    simp only [argsK] at h ⊢
    rw [immK_eq] at h ⊢
    cases hv : immK (maskN σ hp) v some with
    | none => rw [hv] at h; cases h
    | some u =>
      rw [hv] at h
      have hv' : immK (maskN σ hp') v some = some u := immK_mono (mask_mono hh) hv
      rw [hv']
      simp only [Option.bind_some] at h ⊢
      rw [argsK_eq] at h ⊢
      cases hl : argsK hp σ (List.tail []) l some with
      | none => rw [hl] at h; cases h
      | some us' => rw [hl] at h; rw [argsK_mono hh hl]; exact h

theorem opF_mono {o : Oper} {f hp hp' : Nat → Option AV} {r : AV × List (Nat × AV)} (hk : kindOf cx o.op ≤ 1) (hh : ∀ n c, hp n = some c → hp' n = some c) (h : opF cx o f hp = some r) : opF cx o f hp' = some r := by
  by_cases h0 : kindOf cx o.op = 0
  · rw [← h]; exact opF_pure h0
  unfold opF opK at h ⊢
  cases hop : o.op <;> rw [hop] at hk h0 h <;> try (exfalso; simp [kindOf] at h0; done)
  case alloc => simp [kindOf] at hk
  case box => simp [kindOf] at hk
  case buildSlice => simp [kindOf] at hk
  case makeSlice => simp [kindOf] at hk
  case store => simp [kindOf] at hk
  case load t x =>
    try simp only at h ⊢
    split at h
    · rename_i n p hx
      split at h
      · rename_i c hc
        simp only [hx, hh n c hc]; exact h
      · cases h
    · rename_i fr v hx
      (try simp only [hx]); exact h
    · rename_i ok v hx
      (try simp only [hx]); exact h
    · cases h
  case convert s d x =>
    try simp only at h ⊢
    split at h
    · rename_i h1 h2 h3; (try simp only [h1, h2, h3]); exact h
    · rename_i h1 h2 h3; (try simp only [h1, h2, h3]); exact h
    · rename_i e h1 h2
      (try simp only [h1, h2])
      split at h
      · rename_i he
        (try simp only [he])
        exact listK0_mono hh h
      · cases h
    · cases h
  case indexAddr t x i =>
    try simp only at h ⊢
    split at h
    · rename_i k j hi
      try simp only [hi]
      revert h
      generalize decide (0 ≤ j) = b
      cases b
      · exact id
      · simp only [cond_true]
        split
        · exact id
        · rename_i e hu
          split
          · rename_i sz hs
            cases ev cx f 0 x <;> try exact id
            case own m s =>
              simp only
              intro h
              cases hc : hp m with
              | none => rw [hc] at h; cases h
              | some c => rw [hc] at h; rw [hh m c hc]; exact h
          · exact id
        · exact id
    · cases h
  case slice t x lo hi mx =>
    cases mx with
    | some m => exact h
    | none =>
      try simp only at h ⊢
      split at h
      · rename_i n e hu
        (try simp only [hu]); exact h
      · rename_i e hu
        try simp only [hu]
        revert h
        cases ev cx f 0 x <;> try exact id
        case own m s =>
          simp only
          intro h
          cases hc : hp m with
          | none => rw [hc] at h; cases h
          | some c => rw [hc] at h; rw [hh m c hc]; exact h
        case osl m s i len =>
          simp only
          intro h
          cases hc : hp m with
          | none => rw [hc] at h; cases h
          | some c => rw [hc] at h; rw [hh m c hc]; exact h
      · rename_i hu
        (try simp only [hu]); exact h
      · cases h
  case call c =>
    obtain ⟨cal, args, ts⟩ := c
    cases cal with
    | value g =>
      try simp only at h ⊢
      have hg : ∃ q, g = .func q := by
        cases g <;> simp [kindOf] at hk
        exact ⟨_, rfl⟩
      obtain ⟨q, rfl⟩ := hg
      try simp only [ev, capsOK, if_true, List.append_nil] at h ⊢
      rw [callK_def] at h ⊢
      simp only [kindOf] at hk
      split at h
      · rename_i e he
        rw [he] at hk
        simp only at hk
        split at h
        · rename_i hq
          try simp only [he]
          rw [if_pos hq]
          rw [argsK_eq] at h ⊢
          cases hl : argsK hp (fun _ => none) e.modes (args.toList.zipIdx.map fun (x, j) => ev cx f (ts.getD j 0) x) some with
          | none =>
            have hl' := hl
            simp only [ev] at hl'
            rw [hl'] at h; cases h
          | some us =>
            have hl' := hl
            simp only [ev] at hl'
            rw [hl'] at h
            have := argsK_mono hh hl
            simp only [ev] at this
            rw [this]
            exact h
        · rename_i hq
          rw [if_neg hq] at hk
          omega
      · cases h
    | invoke r m => cases h
    | builtin b =>
      cases b <;> try (exfalso; simp [kindOf] at h0 hk; done)
      case len =>
        try simp only at h ⊢
        split at h
        · rename_i h1 h2; (try simp only [h1, h2]); exact h
        · rename_i h1 h2; (try simp only [h1, h2]); exact h
        · rename_i m s e h1 h2
          try simp only [h1, h2]
          cases hc : hp m with
          | none => rw [hc] at h; cases h
          | some c => rw [hc] at h; rw [hh m c hc]; exact h
        · rename_i h1 h2; (try simp only [h1, h2]); exact h
        · rename_i h1 h2; (try simp only [h1, h2]); exact h
        · rename_i h1 h2; (try simp only [h1, h2]); exact h
        · rename_i h1 h2; (try simp only [h1, h2]); exact h
        · rename_i n e q1 q2 h2
          try simp only [h2]
          exact h
        · cases h

theorem loadFix_spec {ops : Array Oper} {f : Nat → Option AV} {o : Oper} {b : Nat} (h : loadFix ops f o.op = some b) : ∃ n p, addrOf o.op = some n ∧ wrote ops n = false ∧ f n = some (.ptr b p) ∧ kindOf cx o.op = 1 := by
  unfold loadFix at h
  split at h
  · rename_i t n hop
    split at h
    · cases h
    · rename_i hw
      split at h
      · rename_i b' p hf
        simp at h; subst h
        exact ⟨n, p, by rw [hop]; rfl, by simpa using hw, hf, by rw [hop]; rfl⟩
      · cases h
  · cases h

theorem lk_none_of {b : Nat} : ∀ {δ : List (Nat × AV)}, (∀ p ∈ δ, Nat.beq p.1 b = false) → lk b δ = none
  | [], _ => rfl
  | (n, c) :: δ, h => by
    have h1 := h (n, c) List.mem_cons_self
    have : Nat.beq b n = false := by
      cases hb : Nat.beq b n
      · rfl
      · have := Nat.eq_of_beq_eq_true hb
        subst this; simp at h1
    simp only [lk, this, cond_false]
    exact lk_none_of fun p hp => h p (List.mem_cons_of_mem _ hp)

theorem callC_lk {g f : Nat → Option AV} {o oj : Oper} {δ : List (Nat × AV)} {b : Nat} (hc : callC cx all (some g) o f δ = true) (h2 : isCall2 cx o.op = true) (hj : oj ∈ all.toList) (hb : loadFix all g oj.op = some b) : lk b δ = none := by
  simp only [callC, h2, Bool.not_true, Bool.false_or, Bool.and_eq_true, List.all_eq_true, Bool.not_eq_true'] at hc
  replace hc := hc.1
  refine lk_none_of fun p hp => ?_
  cases hq : Nat.beq p.1 b
  · rfl
  · have := hc p hp
    have h3 : loadsAt all g p.1 = true := by
      simp only [loadsAt, List.any_eq_true]
      exact ⟨oj, hj, by rw [hb]; exact hq⟩
    rw [this] at h3; cases h3

/-! ### A new name beside a call -/

theorem reachN_acc {hp : Nat → Option AV} : ∀ (k : Nat) (todo acc : List Nat) (n : Nat), n ∈ acc → n ∈ reachN hp k todo acc
  | 0, _, _, _, h => by simpa [reachN] using h
  | k + 1, [], _, _, h => by simpa [reachN] using h
  | k + 1, q :: todo, acc, n, h => by
    simp only [reachN]
    cases memN q acc
    · exact reachN_acc k _ _ n (List.mem_append_left _ h)
    · exact reachN_acc k _ _ n h

theorem reachN_new {hp : Nat → Option AV} {m : Nat} {c : AV} : ∀ (k : Nat) (todo acc : List Nat), m ∉ reachN hp k todo acc → reachN (updH hp [(m, c)]) k todo acc = reachN hp k todo acc
  | 0, _, _, _ => by simp [reachN]
  | k + 1, [], _, _ => by simp [reachN]
  | k + 1, q :: todo, acc, h => by
    simp only [reachN] at h ⊢
    cases hb : memN q acc
    · rw [hb] at h
      simp only [cond_false] at h ⊢
      have hq : q ≠ m := fun e => h (reachN_acc k _ _ m (e ▸ List.mem_append_right _ List.mem_cons_self))
      rw [updH_other hq]
      exact reachN_new k _ _ h
    · rw [hb] at h
      simp only [cond_true] at h ⊢
      exact reachN_new k _ _ h

theorem lentK_mono {hp hp' : Nat → Option AV} {σ : Nat → Option Nat} (hh : ∀ n c, hp n = some c → hp' n = some c) : ∀ {ns : List Nat} {bs : List AV}, lentK hp σ ns some = some bs → lentK hp' σ ns some = some bs
  | [], bs, h => h
  | n :: ns, bs, h => by
    simp only [lentK] at h ⊢
    cases hn : hp n with
    | none => rw [hn] at h; cases h
    | some c =>
      rw [hn] at h
      rw [hh n c hn]
      simp only at h ⊢
      split at h
      · rename_i hl
        rw [if_pos hl]
        simp only [Option.bind_eq_some_iff] at h ⊢
        obtain ⟨c', h1, h2⟩ := h
        refine ⟨c', h1, ?_⟩
        rw [lentK_eq] at h2 ⊢
        cases hq : lentK hp σ ns some with
        | none => rw [hq] at h2; cases h2
        | some l => rw [hq] at h2; rw [lentK_mono hh hq]; exact h2
      · cases h

theorem outK_new {hp : Nat → Option AV} {nb m : Nat} {c : AV} {τ : Nat → Option Nat} : ∀ {l r : List (Nat × AV)}, outK hp nb τ l = some r → (∀ c', (m, c') ∉ r) → outK (updH hp [(m, c)]) nb τ l = some r
  | [], r, h, _ => h
  | (j, u) :: l, r, h, hm => by
    simp only [outK, Option.bind_eq_some_iff] at h ⊢
    obtain ⟨n, h1, u', h2, h3⟩ := h
    refine ⟨n, h1, u', h2, ?_⟩
    split at h3
    · rename_i hc
      simp only [Option.bind_eq_some_iff] at h3
      obtain ⟨r', h4, h5⟩ := h3
      simp at h5; subst h5
      have hn : n ≠ m := fun e => hm u' (e ▸ List.mem_cons_self)
      rw [updH_other hn, if_pos hc, outK_new h4 (fun c' h => hm c' (List.mem_cons_of_mem _ h))]
      rfl
    · cases h3

theorem callK_new {hp : Nat → Option AV} {m : Nat} {c : AV} {d : Option Nat} {f : Nat} {args : List AV} {r : AV × List (Nat × AV)} (hm : hp m = none) (hr : lk m r.2 = none) (h : callK cx hp d f args P2 = some r) : callK cx (updH hp [(m, c)]) d f args P2 = some r := by
  have hh : ∀ n u, hp n = some u → updH hp [(m, c)] n = some u := fun n u hu => by
    have : n ≠ m := fun e => by subst e; rw [hm] at hu; cases hu
    rw [updH_other this]; exact hu
  rw [callK_def] at h ⊢
  split at h
  · rename_i e he
    split at h
    · rename_i hq
      try simp only [he]
      rw [if_pos hq]
      rw [argsK_eq] at h ⊢
      cases h1 : argsK hp (fun _ => none) e.modes args some with
      | none => rw [h1] at h; cases h
      | some us => rw [h1] at h; rw [argsK_mono hh h1]; exact h
    · rename_i hq
      try simp only [he]
      rw [if_neg hq]
      rw [callB_def] at h ⊢
      split at h
      · rename_i hc
        rw [argsK_eq] at h
        cases h1 : argsK hp (fun n => placeN n (reachN hp 40 (AV.namess (asIs e.modes args)) [])) e.modes args some with
        | none => rw [h1] at h; cases h
        | some us =>
          rw [h1] at h
          simp only [Option.bind_some] at h
          rw [lentK_eq] at h
          cases h2 : lentK hp (fun n => placeN n (reachN hp 40 (AV.namess (asIs e.modes args)) [])) (reachN hp 40 (AV.namess (asIs e.modes args)) []) some with
          | none => rw [h2] at h; cases h
          | some bs =>
            rw [h2] at h
            simp only [Option.bind_some] at h
            have hmn : m ∉ reachN hp 40 (AV.namess (asIs e.modes args)) [] := fun hin => by
              obtain ⟨j, hj, ej⟩ := List.getElem_of_mem hin
              obtain ⟨c0, _, g1, _⟩ := (lentK_spec h2).2 j m (by rw [List.getElem?_eq_getElem hj, ej])
              rw [hm] at g1; cases g1
            rw [reachN_new 40 _ _ hmn, if_pos hc, argsK_eq, argsK_mono hh h1]
            simp only [Option.bind_some]
            rw [lentK_eq, lentK_mono hh h2]
            simp only [Option.bind_some]
            split at h
            · rename_i x hx
              simp only [Option.bind_eq_some_iff] at h ⊢
              obtain ⟨q, h3, h4⟩ := h
              refine ⟨q, h3, ?_⟩
              split at h4
              · rename_i vs bs' hvs hout
                split at h4
                · rename_i hfin
                  have h4' := h4
                  replace h4 := cond_p2 h4
                  rw [← h4] at hr
                  have : ∀ c', (m, c') ∉ bs' := fun c' hin => by
                    simp only [Bool.and_eq_true] at hfin
                    have := lk_nodup hfin.1 hin
                    rw [lk_append, this] at hr; cases hr
                  simp only [hvs, outK_new hout this]
                  rw [if_pos hfin]
                  exact h4'
                · cases h4
              · cases h4
            · cases h
      · cases h
  · cases h

theorem opF_newH {o : Oper} {f hp hp' : Nat → Option AV} (hn : newOp o.op = true) (h : ∀ d, o.dst = some d → (hp (d + 1000)).isNone = (hp' (d + 1000)).isNone) : opF cx o f hp = opF cx o f hp' := by
  unfold opF opK
  cases hop : o.op <;> rw [hop] at hn <;> simp only [newOp, reduceCtorEq, Bool.false_eq_true] at hn
  case alloc t =>
    cases hd : o.dst with
    | none => rfl
    | some d => cases hz : zeroT cx.P t <;> simp only [hz, h d hd]
  case box t x =>
    cases hd : o.dst with
    | none => rfl
    | some d => simp only [h d hd]
  case buildSlice t n ps =>
    cases hd : o.dst with
    | none => rfl
    | some d => cases hz : cx.P.underlying t with
      | none => simp only [hz]
      | some ty => cases ty <;> simp only [hz, h d hd]
  case makeSlice t x y =>
    cases hd : o.dst with
    | none => rfl
    | some d => cases hz : cx.P.underlying t with
      | none => simp only [hz]
      | some ty => cases ty <;> simp only [hz, h d hd]

theorem call_new {o : Oper} {f hp : Nat → Option AV} {m : Nat} {c : AV} {r : AV × List (Nat × AV)} (hk : isCall2 cx o.op = true) (hm : hp m = none) (hr : lk m r.2 = none) (h : opF cx o f hp = some r) : opF cx o f (updH hp [(m, c)]) = some r := by
  unfold opF opK at h ⊢
  cases hop : o.op <;> rw [hop] at hk h <;> simp only [isCall2, reduceCtorEq, Bool.false_eq_true] at hk
  rename_i cl
  obtain ⟨cal, args, ts⟩ := cl
  cases cal with
  | value g =>
    simp only at h ⊢
    split at h
    · rename_i q caps hq
      try simp only [hq]
      split at h
      · rename_i hcp
        rw [if_pos hcp]
        exact callK_new hm hr h
      · cases h
    · cases h
  | invoke r m => simp [isCall2] at hk
  | builtin b => simp [isCall2] at hk

/-- Such a slice looks at no memory. -/
theorem opF_slice {o : Oper} {f g : Nat → Option AV} (hs : sliceP all g o.op = true) (hg : ∀ n, wrote all n = false → f n = g n) (hp hp' : Nat → Option AV) : opF cx o f hp = opF cx o f hp' ∧ ∀ v δ, opF cx o f hp = some (v, δ) → δ = [] := by
  unfold sliceP at hs
  split at hs
  case h_2 => cases hs
  rename_i t n lo hi hop
  simp only [Bool.and_eq_true, Bool.not_eq_true'] at hs
  obtain ⟨hw, hs⟩ := hs
  have hn : ∃ b p, f n = some (.ptr b p) := by
    rw [hg n hw]
    split at hs
    · rename_i b p e; exact ⟨b, p, e⟩
    · cases hs
  obtain ⟨b, p, hn⟩ := hn
  refine ⟨?_, fun v δ h => opF_reads (by rw [hop]; simp [kindOf]) h⟩
  unfold opF opK
  simp only [hop, ev, hn, Option.getD_some]

theorem set_norow {v u w : AV} {p : List Step} (hu : u.plain = true) (h : set v p u = some w) {s : Sh} {l : List s.T} : w ≠ .row s l := by
  intro e; subst e
  cases p with
  | nil =>
    simp only [set, setK] at h
    split at h
    · simp only [Option.some.injEq] at h; subst h; simp [AV.plain] at hu
    · cases h
  | cons a p =>
    cases a with
    | fld i off =>
      simp only [set, setK] at h
      generalize v.open = v at h
      cases v <;> dsimp only at h <;> (try cases h)
      split at h
      · split at h
        · rw [setK_eq] at h
          simp only [Option.bind_eq_some_iff] at h
          obtain ⟨q, _, h⟩ := h
          simp at h
        · cases h
      · cases h
    | idx i sz =>
      simp only [set, setK] at h
      generalize v.open = v at h
      cases v <;> dsimp only at h <;> (try cases h)
      case arr s' n l' =>
        split at h
        · cases hb : Nat.blt i n <;> rw [hb] at h
          · cases h
          · simp only [cond_true] at h
            rw [setK_eq] at h
            simp only [Option.bind_eq_some_iff] at h
            obtain ⟨q, _, h⟩ := h
            split at h <;> simp at h
        · cases h
      case u256 x =>
        split at h
        · cases hb : Nat.blt i 4 <;> rw [hb] at h
          · cases h
          · simp only [cond_true] at h
            split at h
            · rename_i w
              cases hb : inU64 w <;> rw [hb] at h <;> simp at h
            · cases h
        · cases h

theorem sett_len {c c' u : AV} {p : List Step} (hu : u.plain = true) (h : sett c p u = some c') :
    (∀ s l, c = .row s l → ∃ l', c' = .row s l' ∧ l'.length = l.length) ∧ (∀ s l, c' = .row s l → ∃ l', c = .row s l' ∧ l'.length = l.length) := by
  unfold sett setB at h
  split at h
  · rename_i s0 l0
    split at h
    · split at h
      · rename_i i sz q hsz
        cases hb : Nat.blt i l0.length <;> rw [hb] at h
        · cases h
        · simp only [cond_true] at h
          rw [setK_eq] at h
          simp only [Option.bind_eq_some_iff] at h
          obtain ⟨w, _, h⟩ := h
          split at h
          · rename_i t _
            simp only [Option.some.injEq] at h
            subst h
            refine ⟨fun s l e => ?_, fun s l e => ?_⟩
            · cases e; exact ⟨_, rfl, by simp⟩
            · cases e; exact ⟨_, rfl, by simp⟩
          · cases h
      · cases h
    · cases h
  · cases h
  · cases h
  · rename_i n1 _ _
    refine ⟨fun s l e => absurd e (n1 s l), fun s l e => ?_⟩
    exact absurd e (set_norow hu h)

theorem store_len {o : Oper} {f hp : Nat → Option AV} {t : TypeId} {x y : Operand} {r : AV × List (Nat × AV)} (hop : o.op = .store t x y) (h : opF cx o f hp = some r) :
    (∀ m s l, hp m = some (.row s l) → ∃ l', updH hp r.2 m = some (.row s l') ∧ l'.length = l.length) ∧ (∀ m s l, updH hp r.2 m = some (.row s l) → ∃ l', hp m = some (.row s l') ∧ l'.length = l.length) := by
  unfold opF opK at h
  simp only [hop] at h
  split at h
  · rename_i n p _
    cases hc : hp n with
    | none => rw [hc] at h; cases h
    | some u =>
      rw [hc] at h
      simp only at h
      by_cases hfit : (fitsT cx.P t (ev cx f t y) && !froN n) = true
      · rw [if_pos hfit, setB_eq] at h
        simp only [Option.bind_eq_some_iff] at h
        obtain ⟨c', hs, h⟩ := h
        simp only [P2, Option.some.injEq] at h
        subst h
        have hpl : (ev cx f t y).plain = true := by
          simp only [Bool.and_eq_true] at hfit
          have := hfit.1
          unfold fitsT at this
          split at this
          · simp only [Bool.and_eq_true] at this; exact this.1.2
          · cases this
        obtain ⟨q1, q2⟩ := sett_len hpl hs
        refine ⟨fun m s l hm => ?_, fun m s l hm => ?_⟩
        · by_cases e : m = n
          · subst e
            rw [hc] at hm; cases hm
            obtain ⟨l', e1, e2⟩ := q1 s l rfl
            exact ⟨l', by rw [updH_self', e1], e2⟩
          · exact ⟨l, by rw [updH_ne e]; exact hm, rfl⟩
        · by_cases e : m = n
          · subst e
            rw [updH_self'] at hm; cases hm
            obtain ⟨l', e1, e2⟩ := q2 s l rfl
            exact ⟨l', by rw [hc, e1], e2⟩
          · exact ⟨l, by rw [updH_ne e] at hm; exact hm, rfl⟩
      · rw [if_neg hfit] at h; cases h
  · cases h

theorem opF_sliceLen {o : Oper} {f hp hp' : Nat → Option AV} {t : TypeId} {x : Operand} {lo hi : Option Operand} (hop : o.op = .slice t x lo hi none) (hq : ∀ m s l, hp m = some (.row s l) → ∃ l', hp' m = some (.row s l') ∧ l'.length = l.length)
    {r : AV × List (Nat × AV)} (h : opF cx o f hp = some r) : opF cx o f hp' = some r := by
  unfold opF opK at h ⊢
  simp only [hop] at h ⊢
  cases hu : cx.P.underlying t with
  | none => rw [hu] at h; cases h
  | some T =>
    rw [hu] at h
    cases T <;> simp only at h ⊢ <;> try (first | exact h | cases h)
    rename_i e
    cases hx : ev cx f 0 x <;> rw [hx] at h <;> simp only at h ⊢ <;> try (first | exact h | cases h)
    · rename_i m s
      cases hm : hp m with
      | none => rw [hm] at h; cases h
      | some c =>
        rw [hm] at h
        cases c <;> simp only at h <;> try (cases h)
        rename_i s' l
        obtain ⟨l', e1, e2⟩ := hq m s' l hm
        rw [e1]
        simp only [e2]
        exact h
    · rename_i m s i len
      cases hm : hp m with
      | none => rw [hm] at h; cases h
      | some c =>
        rw [hm] at h
        cases c <;> simp only at h <;> try (cases h)
        rename_i s' l
        obtain ⟨l', e1, e2⟩ := hq m s' l hm
        rw [e1]
        simp only [e2]
        exact h

theorem sliceS_spec {x y : Op} (h : sliceS x y = true) : (∃ t a lo hi, x = .slice t a lo hi none) ∧ ∃ t a b, y = .store t a b := by
  unfold sliceS at h
  split at h
  · exact ⟨⟨_, _, _, _, rfl⟩, ⟨_, _, _, rfl⟩⟩
  · cases h

/-- Two operations whose doings in memory may change places. -/
theorem mem_comm {oi oj : Oper} {f g hp : Nat → Option AV} {pi pj : AV × List (Nat × AV)} (hi : oi ∈ all.toList) (hj : oj ∈ all.toList) (ci : callC cx all (some g) oi f pi.2 = true) (cj : callC cx all (some g) oj f pj.2 = true) (hm : memFree cx all g oi.op oj.op = true) (hg : ∀ n, wrote all n = false → f n = g n) (h1 : opF cx oi f hp = some pi) (h2 : opF cx oj f (updH hp pi.2) = some pj) :
    opF cx oj f hp = some pj ∧ opF cx oi f (updH hp pj.2) = some pi ∧ updH (updH hp pi.2) pj.2 = updH (updH hp pj.2) pi.2 := by
  simp only [memFree, Bool.or_eq_true, Bool.and_eq_true] at hm
  rcases hm with ((((((((hm | ⟨hn, hk⟩) | hm) | hm) | ⟨n1, n2⟩) | hs) | hs) | hs) | hs) | ⟨n1, n2⟩
  · obtain ⟨m1, m2⟩ := memApart_spec hm
    by_cases ki : kindOf cx oi.op = 2
    · have kj := m1 ki
      have hj : pj.2 = [] := opF_reads (by rw [kj]; decide) h2
      refine ⟨by rw [← h2]; exact opF_pure kj, by rw [hj]; exact h1, by rw [hj]; rfl⟩
    · have hi : pi.2 = [] := opF_reads ki h1
      rw [hi] at h2 ⊢
      refine ⟨h2, ?_, rfl⟩
      by_cases kj : kindOf cx oj.op = 2
      · rw [← h1]; exact opF_pure (m2 kj)
      · have hj : pj.2 = [] := opF_reads kj h2
        rw [hj]; exact h1
  · have hk := Nat.le_of_ble_eq_true hk
    have hi : pi.2 = [] := opF_reads (by omega) h1
    rw [hi] at h2 ⊢
    obtain ⟨d, c, e, hd⟩ := opF_new hn h2
    refine ⟨h2, opF_mono hk (fun n c' hc' => ?_) h1, rfl⟩
    rw [e]
    by_cases hnd : n = d
    · subst hnd; have hd' : hp n = none := hd; rw [hc'] at hd'; cases hd'
    · rw [updH_ne hnd]; exact hc'
  · unfold memDisj at hm
    split at hm
    · rename_i n m hx hy
      simp only [Bool.and_eq_true, Bool.not_eq_true'] at hm
      obtain ⟨⟨w1, w2⟩, hm⟩ := hm
      split at hm
      · rename_i b p b' p' e1 e2
        have f1 := (hg n w1).trans e1
        have f2 := (hg m w2).trans e2
        have hbb : b ≠ b' := by intro e; subst e; simp at hm
        have hi : updH hp pi.2 b' = hp b' := by
          rcases opF_delta hx f1 h1 with e | ⟨c, e⟩ <;> rw [e]
          · rfl
          · exact updH_ne (Ne.symm hbb)
        have h2' : opF cx oj f hp = some pj := by rw [← h2]; exact opF_at hy f2 hi.symm
        have hj : updH hp pj.2 b = hp b := by
          rcases opF_delta hy f2 h2' with e | ⟨c, e⟩ <;> rw [e]
          · rfl
          · exact updH_ne hbb
        refine ⟨h2', by rw [← h1]; exact opF_at hx f1 hj, ?_⟩
        rcases opF_delta hx f1 h1 with e | ⟨c, e⟩ <;> rcases opF_delta hy f2 h2' with e' | ⟨c', e'⟩ <;> rw [e, e'] <;> try rfl
        funext k
        by_cases k1 : k = b
        · subst k1; rw [updH_ne hbb, updH_self', updH_self']
        · by_cases k2 : k = b'
          · subst k2; rw [updH_self', updH_ne k1, updH_self']
          · rw [updH_ne k2, updH_ne k1, updH_ne k1, updH_ne k2]
      · cases hm
    · cases hm
  · simp only [memCall, Bool.or_eq_true, Bool.and_eq_true] at hm
    rcases hm with (⟨hc, hl⟩ | ⟨hc, hl⟩) | ⟨hc, hl⟩
    · obtain ⟨b, hb⟩ := Option.isSome_iff_exists.1 hl
      obtain ⟨n, p, a1, a2, a3, a4⟩ := loadFix_spec hb
      have fn := (hg n a2).trans a3
      have hno := callC_lk ci hc hj hb
      have hbb : updH hp pi.2 b = hp b := by simp [updH, hno]
      have h2' : opF cx oj f hp = some pj := by rw [← h2]; exact opF_at a1 fn hbb.symm
      have hj2 : pj.2 = [] := opF_reads (by rw [a4]; decide) h2'
      exact ⟨h2', by rw [hj2]; exact h1, by rw [hj2]; rfl⟩
    · obtain ⟨b, hb⟩ := Option.isSome_iff_exists.1 hl
      obtain ⟨n, p, a1, a2, a3, a4⟩ := loadFix_spec hb
      have fn := (hg n a2).trans a3
      have hi2 : pi.2 = [] := opF_reads (by rw [a4]; decide) h1
      rw [hi2] at h2 ⊢
      have hno := callC_lk cj hc hi hb
      have hbb : updH hp pj.2 b = hp b := by simp [updH, hno]
      exact ⟨h2, by rw [← h1]; exact opF_at a1 fn hbb, rfl⟩
    · obtain ⟨m, c, hm2, hmn⟩ := opF_new hl h2
      have hlk : lk m pi.2 = none := by
        cases hq : lk m pi.2 with
        | none => rfl
        | some u => simp [updH, hq] at hmn
      have hpm : hp m = none := by simpa [updH, hlk] using hmn
      have hm3 : ∃ d, oj.dst = some d ∧ m = d + 1000 := opF_newD hl h2 hm2
      obtain ⟨d, hd, rfl⟩ := hm3
      refine ⟨?_, ?_, ?_⟩
      · rw [← h2]
        refine opF_newH hl fun d' hd' => ?_
        rw [hd] at hd'; cases hd'
        rw [hpm, hmn]
      · rw [hm2]; exact call_new hc hpm hlk h1
      · rw [hm2]
        funext k
        by_cases e : k = d + 1000
        · subst e
          rw [updH_same]
          simp only [updH, hlk, lk, Nat.beq_refl, cond_true]
        · rw [updH_other e]
          simp only [updH]
          cases lk k pi.2 with
          | some u => rfl
          | none => simp only [lk, beq_no e, cond_false]

  · obtain ⟨m, c, e1, hm1⟩ := opF_new n1 h1
    obtain ⟨m', c', e2, hm2⟩ := opF_new n2 h2
    have hmm : m' ≠ m := fun e => by
      subst e
      rw [e1, updH_self'] at hm2; cases hm2
    obtain ⟨d, hd, rfl⟩ := opF_newD n1 h1 e1
    obtain ⟨d', hd', rfl⟩ := opF_newD n2 h2 e2
    have hm3 : hp (d' + 1000) = none := by
      rw [e1, updH_ne hmm] at hm2; exact hm2
    refine ⟨?_, ?_, ?_⟩
    · rw [← h2]
      refine opF_newH n2 fun q hq => ?_
      rw [hd'] at hq; cases hq
      rw [hm3, hm2]
    · rw [← h1]
      refine opF_newH n1 fun q hq => ?_
      rw [hd] at hq; cases hq
      rw [e2, updH_ne (Ne.symm hmm)]
    · rw [e1, e2]
      funext k
      by_cases k1 : k = d + 1000
      · subst k1; rw [updH_ne (Ne.symm hmm), updH_self', updH_self']
      · by_cases k2 : k = d' + 1000
        · subst k2; rw [updH_self', updH_ne k1, updH_self']
        · rw [updH_ne k2, updH_ne k1, updH_ne k1, updH_ne k2]

  · obtain ⟨e1, e2⟩ := opF_slice hs hg hp (updH hp pj.2)
    have hi : pi.2 = [] := e2 _ _ h1
    rw [hi] at h2 ⊢
    exact ⟨h2, by rw [← e1]; exact h1, rfl⟩
  · obtain ⟨e1, e2⟩ := opF_slice hs hg (updH hp pi.2) hp
    have hj : pj.2 = [] := e2 _ _ h2
    refine ⟨by rw [← e1]; exact h2, by rw [hj]; exact h1, by rw [hj]; rfl⟩
  · obtain ⟨⟨t, a, lo, hi, hx⟩, ⟨t', b, c, hy⟩⟩ := sliceS_spec hs
    have hi2 : pi.2 = [] := opF_reads (by rw [hx]; simp [kindOf]) h1
    rw [hi2] at h2 ⊢
    exact ⟨h2, opF_sliceLen hx (store_len hy h2).1 h1, rfl⟩
  · obtain ⟨⟨t, a, lo, hi, hx⟩, ⟨t', b, c, hy⟩⟩ := sliceS_spec hs
    have hj2 : pj.2 = [] := opF_reads (by rw [hx]; simp [kindOf]) h2
    exact ⟨opF_sliceLen hx (store_len hy h1).2 h2, by rw [hj2]; exact h1, by rw [hj2]; rfl⟩
  · obtain ⟨m, c, e1, hm1⟩ := opF_new n1 h1
    obtain ⟨d, hd, rfl⟩ := opF_newD n1 h1 e1
    obtain ⟨t, n, hop⟩ : ∃ t n, oj.op = .load t (.tmp n) := by
      unfold isLoad at n2
      split at n2
      · exact ⟨_, _, by assumption⟩
      · cases n2
    have hj2 : pj.2 = [] := opF_reads (by rw [hop]; simp [kindOf]) h2
    have key : opF cx oj f hp = opF cx oj f (updH hp pi.2) := by
      simp only [callC, Bool.and_eq_true] at cj
      have cj := cj.2
      unfold loadC at cj
      rw [hop] at cj
      simp only at cj
      cases hf : f n with
      | none => unfold opF opK; simp only [hop, ev, hf, Option.getD_none, AV.open]
      | some v =>
        rw [hf] at cj
        by_cases hv : ∃ b p, v = .ptr b p
        · obtain ⟨b, p, rfl⟩ := hv
          simp only [Bool.not_eq_true'] at cj
          have hb : b ≠ d + 1000 := fun e => by
            subst e
            have : madeIn all (d + 1000) = true := by
              unfold madeIn
              rw [List.any_eq_true]
              exact ⟨oi, hi, by simp [n1, hd]⟩
            rw [this] at cj; cases cj
          exact opF_at (by rw [hop]; rfl) hf (by rw [e1, updH_ne hb])
        · have hv2 : ∀ b p, v.open ≠ .ptr b p := by
            intro b p e
            cases v <;> simp only [AV.open, reduceCtorEq] at e
            case ptr => exact hv ⟨_, _, rfl⟩
            case el i t => cases i <;> simp [DSh.view, DV.av] at e
          unfold opF opK
          simp only [hop, ev, hf, Option.getD_some]
          cases ho : v.open <;> try rfl
          exact absurd ho (hv2 _ _)
    refine ⟨by rw [key]; exact h2, by rw [hj2]; exact h1, by rw [hj2]; rfl⟩

theorem stepF_comm {oi oj : Oper} {S S1 S2 : FS} {g : Nat → Option AV} (hgd : gd = some g) (hi : oi ∈ all.toList) (hj : oj ∈ all.toList) (hap : oi.apart all oj = true) (hm : memFree cx all g oi.op oj.op = true) (hg : ∀ n, wrote all n = false → S.e n = g n) (h1 : stepF cx gd all oi S = some S1) (h2 : stepF cx gd all oj S1 = some S2) :
    ∃ S1', stepF cx gd all oj S = some S1' ∧ stepF cx gd all oi S1' = some S2 := by
  obtain ⟨a1, a2, a3⟩ := Oper.apart_spec hap
  unfold stepF at h1 h2 ⊢
  split at h1
  · rename_i hdi
    split at h2
    · rename_i hdj
      rw [if_pos hdj]
      split at h1
      · rename_i hgi
        cases hfi : opF cx oi S.e S.h with
        | none => rw [hfi] at h1; cases h1
        | some pi =>
          rw [hfi] at h1
          simp at h1; obtain ⟨ci, h1⟩ := h1; subst h1
          simp only [FS.put] at h2
          rw [guardOf_upd (fun t ht => a1 t ht)] at h2
          split at h2
          · rename_i hgj
            rw [opF_upd (fun t ht => a1 t ht)] at h2
            simp only [callC_upd (gd := gd) (fun t ht => a1 t ht)] at h2
            cases hfj : opF cx oj S.e (updH S.h pi.2) with
            | none => rw [hfj] at h2; cases h2
            | some pj =>
              rw [hfj] at h2
              simp at h2; obtain ⟨cj, h2⟩ := h2; subst h2
              obtain ⟨g1, g2, g3⟩ := mem_comm hi hj (by rw [← hgd]; exact ci) (by rw [← hgd]; exact cj) hm hg hfi hfj
              refine ⟨S.put oj.dst pj.1 pj.2, by rw [g1]; simp [cj], ?_⟩
              rw [if_pos hdi]
              simp only [FS.put]
              rw [guardOf_upd (fun t ht => a3 t ht), hgi]
              simp only
              rw [opF_upd (fun t ht => a3 t ht), g2]
              simp only [Option.bind_some, callC_upd (gd := gd) (fun t ht => a3 t ht), ci, if_true]
              congr 1
              refine FS.ext' ?_ ?_
              · simp only [FS.put]; exact (upd_comm S.e pi.1 pj.1 (fun d hd => a2 d hd)).symm
              · simp only [FS.put]; exact g3.symm
          · rename_i hgj
            simp at h2; subst h2
            refine ⟨S.put oj.dst (.tup []) [], rfl, ?_⟩
            rw [if_pos hdi]
            simp only [FS.put]
            rw [guardOf_upd (fun t ht => a3 t ht), hgi]
            simp only
            rw [opF_upd (fun t ht => a3 t ht)]
            have : opF cx oi S.e (updH S.h []) = some pi := hfi
            rw [this]
            simp only [Option.bind_some, callC_upd (gd := gd) (fun t ht => a3 t ht), ci, if_true]
            congr 1
            refine FS.ext' ?_ rfl
            simp only [FS.put]; exact (upd_comm S.e pi.1 (.tup []) (fun d hd => a2 d hd)).symm
          · cases h2
      · rename_i hgi
        simp at h1; subst h1
        simp only [FS.put] at h2
        rw [guardOf_upd (fun t ht => a1 t ht)] at h2
        split at h2
        · rename_i hgj
          rw [opF_upd (fun t ht => a1 t ht)] at h2
          simp only [callC_upd (gd := gd) (fun t ht => a1 t ht)] at h2
          cases hfj : opF cx oj S.e (updH S.h []) with
          | none => rw [hfj] at h2; cases h2
          | some pj =>
            rw [hfj] at h2
            simp at h2; obtain ⟨cj, h2⟩ := h2; subst h2
            have hfj' : opF cx oj S.e S.h = some pj := hfj
            refine ⟨S.put oj.dst pj.1 pj.2, by rw [hfj']; simp [cj], ?_⟩
            rw [if_pos hdi]
            simp only [FS.put]
            rw [guardOf_upd (fun t ht => a3 t ht), hgi]
            simp only
            congr 1
            refine FS.ext' ?_ rfl
            simp only [FS.put]; exact (upd_comm S.e (.tup []) pj.1 (fun d hd => a2 d hd)).symm
        · rename_i hgj
          simp at h2; subst h2
          refine ⟨S.put oj.dst (.tup []) [], rfl, ?_⟩
          rw [if_pos hdi]
          simp only [FS.put]
          rw [guardOf_upd (fun t ht => a3 t ht), hgi]
          simp only
          congr 1
          refine FS.ext' ?_ rfl
          simp only [FS.put]; exact (upd_comm S.e (.tup []) (.tup []) (fun d hd => a2 d hd)).symm
        · cases h2
      · cases h1
    · cases h2
  · cases h1

/-! ### Whatever order is picked -/

def aOp (cx : Cx) (gd : Option (Nat → Option AV)) (ops : Array Oper) (i : Nat) (K : FS → Prop) (S : FS) : Prop :=
  match ops[i]? with
  | none => K S
  | some o => ∃ S', stepF cx gd ops o S = some S' ∧ K S'

def AAny (cx : Cx) (gd : Option (Nat → Option AV)) (ops : Array Oper) (Q : FS → Prop) : Nat → Array Bool → FS → Prop
  | 0, listed, S => Region.ready .any ops listed = [] ∧ Q S
  | fuel + 1, listed, S =>
    (Region.ready .any ops listed = [] → Q S) ∧ ∀ i ∈ Region.ready .any ops listed, aOp cx gd ops i (AAny cx gd ops Q fuel (listed.setIfInBounds i true)) S

theorem aOp_mono {i : Nat} {S : FS} {K K' : FS → Prop} (h : ∀ S, K S → K' S) (hh : aOp cx gd all i K S) : aOp cx gd all i K' S := by
  unfold aOp at *
  split
  · exact h _ (by simpa [*] using hh)
  · rename_i o ho
    rw [ho] at hh
    obtain ⟨S', h1, h2⟩ := hh
    exact ⟨S', h1, h _ h2⟩

theorem wpAny_of_AAny (hc : CxOk cx G) (hG : G w0) {Q : FS → Prop} {Q' : Exit → Act → World → Prop} (hQ : ∀ S a w, RelF w0 cx.N S a w → Q S → Q' .normal a w) :
    ∀ (fuel : Nat) (listed : Array Bool) (S : FS) (a : Act) (w : World), RelF w0 cx.N S a w → AAny cx gd all Q fuel listed S → wpAny cx.P .any all Q' fuel listed a w
  | 0, _, S, a, w, hr, h => ⟨h.1, hQ S a w hr h.2⟩
  | fuel + 1, listed, S, a, w, hr, h => ⟨fun h0 => hQ S a w hr (h.1 h0), fun i hi => by
      have h1 := h.2 i hi
      unfold aOp at h1
      cases ho : all[i]? with
      | none =>
        rw [ho] at h1
        unfold wpOp
        rw [ho]
        exact wpAny_of_AAny hc hG hQ fuel _ S a w hr h1
      | some o =>
        rw [ho] at h1
        obtain ⟨S', h2, h3⟩ := h1
        exact step_wpOp hc hG ho h2 hr fun a' w' hr' => wpAny_of_AAny hc hG hQ fuel _ S' a' w' hr' h3⟩

theorem stepF_keeps {j : Nat} {oj : Oper} {S S' : FS} {n : Nat} (hj : all[j]? = some oj) (h : stepF cx gd all oj S = some S') (hn : wrote all n = false) : S'.e n = S.e n := by
  have hd : ∀ d, oj.dst = some d → n ≠ d := fun d hd e => by
    subst e
    have : wrote all n = true := by
      simp only [wrote, List.any_eq_true]
      exact ⟨oj, by simpa using Array.mem_of_getElem? hj, by rw [hd]; simp⟩
    rw [this] at hn; cases hn
  have key : ∀ v δ, (S.put oj.dst v δ).e n = S.e n := fun v δ => by
    simp only [FS.put]
    cases ho : oj.dst with
    | none => rfl
    | some d =>
      simp only [upd]
      cases hb : Nat.beq n d
      · rfl
      · exact absurd (Nat.eq_of_beq_eq_true hb) (hd d ho)
  unfold stepF at h
  split at h
  · split at h
    · cases hf : opF cx oj S.e S.h with
      | none => rw [hf] at h; cases h
      | some p => rw [hf] at h; simp at h; rw [← h.2]; exact key _ _
    · simp at h; subst h; exact key _ _
    · cases h
  · cases h

/-- It waits, by way of others that have not come up yet. -/
inductive Waits (all : Array Oper) (listed : Array Bool) (i : Nat) : Nat → Prop
  | edge {j : Nat} {o : Oper} {e : Edge} : all[j]? = some o → e ∈ o.after → Region.binds .any e = true → e.on = i → Waits all listed i j
  | step {j : Nat} {o : Oper} {e : Edge} : all[j]? = some o → e ∈ o.after → Region.binds .any e = true → listed.getD e.on true = false → Waits all listed i e.on → Waits all listed i j

theorem waitsB_spec {listed : Array Bool} {i : Nat} : ∀ {n j : Nat}, waitsB all listed i n j = true → Waits all listed i j
  | 0, _, h => by cases h
  | n + 1, j, h => by
    simp only [waitsB] at h
    split at h
    · cases h
    · rename_i o ho
      simp only [List.any_eq_true, Bool.and_eq_true, Bool.or_eq_true, beq_iff_eq, Bool.not_eq_true'] at h
      obtain ⟨e, he, hb, h⟩ := h
      have he' : e ∈ o.after := Array.mem_toList_iff.1 he
      rcases h with h | ⟨h1, h2⟩
      · exact .edge ho he' hb h
      · exact .step ho he' hb h1 (waitsB_spec h2)

theorem Waits.mono {listed : Array Bool} {i j k : Nat} (hj : ¬ Waits all listed i j) (h : Waits all listed i k) : Waits all (listed.setIfInBounds j true) i k := by
  induction h with
  | edge h1 h2 h3 h4 => exact .edge h1 h2 h3 h4
  | @step q o e h1 h2 h3 h4 h5 ih =>
    refine .step h1 h2 h3 ?_ ih
    have hne : j ≠ e.on := fun he => hj (he ▸ h5)
    rw [getD_set_ne true hne]; exact h4

theorem AAny_first {Q : FS → Prop} {g : Nat → Option AV} (hgd : gd = some g) {i : Nat} {oi : Oper} (hi : all[i]? = some oi) :
    ∀ (fuel : Nat) (listed : Array Bool) (S S1 : FS),
      (∀ (j : Nat) oj, all[j]? = some oj → j ≠ i → listed.getD j true = false → ¬ Waits all listed i j → oi.apart all oj = true ∧ memFree cx all g oi.op oj.op = true) → (∀ n, wrote all n = false → S.e n = g n) →
      i ∈ Region.ready .any all listed → stepF cx gd all oi S = some S1 →
      AAny cx gd all Q fuel (listed.setIfInBounds i true) S1 → AAny cx gd all Q (fuel + 1) listed S := by
  intro fuel
  induction fuel with
  | zero =>
    intro listed S S1 _ _ hr hy H
    refine ⟨fun h => (by rw [h] at hr; cases hr), fun j hj => ?_⟩
    by_cases hji : j = i
    · subst hji; unfold aOp; rw [hi]; exact ⟨S1, hy, H⟩
    · have := ready_mono hj hji
      rw [H.1] at this
      cases this
  | succ fuel ih =>
    intro listed S S1 hfree hgE hr hy H
    refine ⟨fun h => (by rw [h] at hr; cases hr), fun j hj => ?_⟩
    by_cases hji : j = i
    · subst hji; unfold aOp; rw [hi]; exact ⟨S1, hy, H⟩
    · have h1 := H.2 j (ready_mono hj hji)
      obtain ⟨hjun, oj, hoj, hall⟩ := mem_ready.1 hj
      have hnot : ¬ Waits all listed i j := fun hw => by
        cases hw with
        | @edge _ o' e g1 he hb heq =>
          rw [hoj] at g1; cases g1
          have h1 := hall e he hb
          have h0 := (mem_ready.1 hr).1
          rw [heq] at h1
          rcases Nat.lt_or_ge i listed.size with h' | h'
          · simp [h'] at h0 h1; rw [h0] at h1; cases h1
          · simp [Array.getElem?_eq_none h'] at h1
        | @step _ o' e g1 he hb h0 _ =>
          rw [hoj] at g1; cases g1
          have h1 := hall e he hb
          rcases Nat.lt_or_ge e.on listed.size with h' | h'
          · simp [h'] at h0 h1; rw [h0] at h1; cases h1
          · simp [Array.getElem?_eq_none h'] at h1
      obtain ⟨hap, hmem⟩ := hfree j oj hoj hji hjun hnot
      unfold aOp at h1
      rw [hoj] at h1
      obtain ⟨S2, h2, h3⟩ := h1
      obtain ⟨S1', h4, h5⟩ := stepF_comm hgd (by simpa using Array.mem_of_getElem? hi) (by simpa using Array.mem_of_getElem? hoj) hap hmem hgE hy h2
      have hfree' : ∀ (k : Nat) ok, all[k]? = some ok → k ≠ i → (listed.setIfInBounds j true).getD k true = false →
          ¬ Waits all (listed.setIfInBounds j true) i k → oi.apart all ok = true ∧ memFree cx all g oi.op ok.op = true := fun k ok hk hki hun hno => by
        refine hfree k ok hk hki ?_ (fun hw => hno (hw.mono hnot))
        by_cases hjk : j = k
        · subst hjk; exact hjun
        · rw [getD_set_ne true hjk] at hun; exact hun
      unfold aOp
      rw [hoj]
      refine ⟨S1', h4, ih (listed.setIfInBounds j true) S1' S2 hfree' (fun n hn => (stepF_keeps hoj h4 hn).trans (hgE n hn)) (ready_mono hr (Ne.symm hji)) h5 ?_⟩
      rw [Array.setIfInBounds_comm _ _ hji]
      exact h3

theorem freeM_spec {listed : Array Bool} {k : Nat} {ok : Oper} (hk : all[k]? = some ok) {g : Nat → Option AV} (h : freeM cx g all listed k = true) :
    ∀ (j : Nat) oj, all[j]? = some oj → j ≠ k → listed.getD j true = false → ¬ Waits all listed k j → ok.apart all oj = true ∧ memFree cx all g ok.op oj.op = true := by
  intro j oj hj hjk hun hno
  unfold freeM at h
  rw [hk] at h
  simp only [List.all_eq_true, List.mem_range] at h
  have hlt : j < all.size := by
    rcases Nat.lt_or_ge j all.size with h' | h'
    · exact h'
    · simp [Array.getElem?_eq_none h'] at hj
  have := h j hlt
  rw [hj, hun] at this
  simp only [Bool.or_false, Bool.or_eq_true, beq_iff_eq, Bool.and_eq_true] at this
  rcases this with this | this | this
  · exact absurd this hjk
  · exact this
  · exact absurd (waitsB_spec this) hno

/-- The text's own order. -/
def runF (cx : Cx) (gd : Option (Nat → Option AV)) (all : Array Oper) : List Oper → FS → Option FS
  | [], S => some S
  | o :: rest, S => (stepF cx gd all o S).bind (runF cx gd all rest)

theorem AAny_lex {Q : FS → Prop} {g : Nat → Option AV} (hgd : gd = some g) : ∀ (l : List Oper) (k : Nat) (listed : Array Bool) (S S' : FS), (∀ j : Nat, l[j]? = all[k + j]?) → (∀ n, wrote all n = false → S.e n = g n) →
    lexM cx g all l.length k listed = true → runF cx gd all l S = some S' → Q S' → AAny cx gd all Q l.length listed S
  | [], _, _, S, S', _, _, hB, h, hQ => by
    simp [runF] at h; subst h
    exact ⟨by simpa [lexM] using hB, hQ⟩
  | o :: l, k, listed, S, S', hl, hgE, hB, h, hQ => by
    have h0 : all[k]? = some o := by simpa using (hl 0).symm
    simp only [List.length_cons, lexM, Bool.and_eq_true] at hB
    obtain ⟨⟨hr, hf⟩, hB'⟩ := hB
    simp only [runF] at h
    cases hs : stepF cx gd all o S with
    | none => rw [hs] at h; cases h
    | some S1 =>
      rw [hs] at h
      simp only [Option.bind_some] at h
      exact AAny_first hgd h0 l.length listed S S1 (freeM_spec h0 hf) hgE (by simpa using hr) hs
        (AAny_lex hgd l (k + 1) _ S1 S' (fun j => by have := hl (j + 1); simpa [Nat.add_assoc, Nat.add_comm 1 j] using this) (fun n hn => (stepF_keeps h0 hs hn).trans (hgE n hn)) hB' h hQ)

/-- **A region does what its text says.** -/
theorem region_sound (hc : CxOk cx G) (hG : G w0) {id : Nat} {draw : Bool} {S S' : FS} (hd : draw = true → drawOK cx S.e all = true) (hr : RelF w0 cx.N S a w) (h : runF cx (cond draw (some S.e) none) all all.toList S = some S')
    {Q : Exit → Act → World → Prop} (hQ : ∀ a' w', RelF w0 cx.N S' a' w' → Q .normal a' w') : (Code.region id all draw).wp cx.P Q a w := by
  cases draw with
  | true =>
    refine wp_region_any hc.mixed ?_
    have hr' : RelF w0 cx.N S a { w with drawn := w.drawn + 1 } := by obtain ⟨E, h⟩ := hr; exact ⟨E, h.drewn⟩
    refine wpAny_of_AAny (gd := some S.e) hc hG (Q := fun T => T = S') (fun T a' w' h1 h2 => hQ a' w' (by rw [← h2]; exact h1)) _ _ S a _ hr' ?_
    have := AAny_lex (gd := some S.e) rfl (Q := fun T => T = S') all.toList 0 (Array.replicate all.size false) S S' (by simp) (fun _ _ => rfl) (by simpa [drawOK] using hd rfl) h rfl
    simpa using this
  | false =>
    refine wp_region ?_
    have key : ∀ (l : List Oper) (k : Nat) (S : FS) (a : Act) (w : World), (∀ j : Nat, l[j]? = all[k + j]?) → RelF w0 cx.N S a w → runF cx none all l S = some S' → wpOps cx.P all Q (List.range' k l.length) a w := by
      intro l
      induction l with
      | nil =>
        intro k S a w _ hr h
        simp [runF] at h; subst h
        simpa [wpOps] using hQ a w hr
      | cons o l ih =>
        intro k S a w hl hr h
        have h0 : all[k]? = some o := by simpa using (hl 0).symm
        simp only [runF] at h
        cases hs : stepF cx none all o S with
        | none => rw [hs] at h; cases h
        | some S1 =>
          rw [hs] at h
          simp only [Option.bind_some] at h
          simp only [List.length_cons, List.range'_succ]
          rw [wpOps_cons]
          exact step_wpOp hc hG h0 hs hr fun a' w' hr' => ih (k + 1) S1 a' w' (fun j => by have := hl (j + 1); simpa [Nat.add_assoc, Nat.add_comm 1 j] using this) hr' h
    have := key all.toList 0 S a w (by simp) hr h
    simpa [List.range_eq_range'] using this
end
end
end Go.Sy
