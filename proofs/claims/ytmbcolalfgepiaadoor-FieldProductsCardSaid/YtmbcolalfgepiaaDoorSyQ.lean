/- Regions, continued: operations that are apart may change places. -/
import Derived.Test.YtmbcolalfgepiaaDoorSyP
set_option linter.unusedVariables false
set_option linter.unusedSimpArgs false
namespace Go.Sy
open Go Go.RowKit

theorem opF_pure {cx : Cx} {o : Oper} {f hp hp' : Nat → Option AV} (h : kindOf o.op = 0) : opF cx o f hp = opF cx o f hp' := by
  unfold opF opK
  cases hop : o.op <;> rw [hop] at h <;> try rfl
  case alloc => simp [kindOf] at h
  case box => simp [kindOf] at h
  case load => simp [kindOf] at h
  case store => simp [kindOf] at h
  case slice t x lo hi mx => cases mx <;> rfl
  case call c =>
    obtain ⟨cal, args, ts⟩ := c
    cases cal with
    | value g => simp [kindOf] at h
    | invoke r m => simp [kindOf] at h
    | builtin b => cases b <;> first | rfl | (simp [kindOf] at h)

theorem opF_reads {cx : Cx} {o : Oper} {f hp : Nat → Option AV} {v : AV} {δ : Option (Nat × AV)} (h : kindOf o.op ≠ 2) (hf : opF cx o f hp = some (v, δ)) : δ = none := by
  have hP : ∀ {x : Option AV}, (x.bind fun v => P2 v none) = some (v, δ) → δ = none := by
    intro x hx
    cases x with
    | none => cases hx
    | some u => simp [P2] at hx; exact hx.2.symm
  have hp2 : ∀ {u : AV}, P2 u none = some (v, δ) → δ = none := by
    intro u hu; simp [P2] at hu; exact hu.2.symm
  unfold opF opK at hf
  split at hf
  case h_1 => exact hp2 hf
  case h_2 => exact hp2 hf
  case h_3 =>
    split at hf
    · rename_i b _
      cases b <;> exact hp2 hf
    · cases hf
  case h_4 hop => rw [hop] at h; simp [kindOf] at h
  case h_5 hop => rw [hop] at h; simp [kindOf] at h
  case h_6 =>
    split at hf
    · split at hf
      · rw [partsK_eq] at hf; exact hP hf
      · cases hf
    · cases hf
  case h_7 =>
    split at hf
    · split at hf
      · rw [getK_eq] at hf
        cases hg : get _ _ with
        | none => rw [hg] at hf; cases hf
        | some u =>
          rw [hg] at hf; simp only [Option.bind_some] at hf
          split at hf
          · exact hp2 hf
          · cases hf
      · cases hf
    · split at hf
      · exact hp2 hf
      · cases hf
    · cases hf
  case h_8 hop => rw [hop] at h; simp [kindOf] at h
  case h_9 => split at hf <;> first | exact hp2 hf | cases hf
  case h_10 => rw [binK_eq] at hf; exact hP hf
  case h_11 => rw [unK_eq] at hf; exact hP hf
  case h_12 => split at hf <;> first | exact hp2 hf | cases hf
  case h_13 =>
    split at hf
    · split at hf
      · split at hf
        · cases hf
        · exact hp2 hf
      · split at hf
        · cases hf
        · rw [getK_eq] at hf
          cases hg : get _ _ with
          | none => rw [hg] at hf; cases hf
          | some u => rw [hg] at hf; exact hp2 hf
      · cases hf
    · cases hf
  case h_14 =>
    split at hf
    · split at hf
      · rw [getK_eq] at hf
        cases hg : get _ _ with
        | none => rw [hg] at hf; cases hf
        | some u =>
          rw [hg] at hf; simp only [Option.bind_some] at hf
          split at hf
          · exact hp2 hf
          · cases hf
      · cases hf
    · cases hf
  case h_15 =>
    split at hf
    · rename_i j _
      cases h0 : decide (0 ≤ j)
      · rw [h0] at hf; cases hf
      · rw [h0] at hf; simp only [cond_true] at hf
        split at hf
        · rename_i n e _
          cases hb : Nat.blt j.toNat n
          · rw [hb] at hf; cases hf
          · rw [hb] at hf; simp only [cond_true] at hf
            split at hf
            · split at hf
              · exact hp2 hf
              · rw [getK_eq] at hf
                cases hg : get _ _ with
                | none => rw [hg] at hf; cases hf
                | some u => rw [hg] at hf; exact hp2 hf
              · cases hf
            · cases hf
        · split at hf
          · split at hf
            · rename_i len _ _
              split at hf
              · rename_i len _ _ _
                generalize Nat.blt j.toNat _ = bb at hf
                cases bb
                · cases hf
                · exact hp2 hf
              · cases hf
            · split at hf
              · generalize Nat.blt j.toNat _ = bb at hf
                cases bb
                · cases hf
                · exact hp2 hf
              · cases hf
            · cases hf
          · cases hf
        · cases hf
    · cases hf
  case h_16 =>
    split at hf
    · rename_i j _
      cases h0 : decide (0 ≤ j)
      · rw [h0] at hf; cases hf
      · rw [h0] at hf; simp only [cond_true] at hf
        split at hf
        · rename_i n e _
          cases hb : Nat.blt j.toNat n
          · rw [hb] at hf; cases hf
          · rw [hb] at hf; simp only [cond_true] at hf
            split at hf
            · rw [getK_eq] at hf
              cases hg : get _ _ with
              | none => rw [hg] at hf; cases hf
              | some u =>
                rw [hg] at hf; simp only [Option.bind_some] at hf
                split at hf
                · exact hp2 hf
                · cases hf
            · cases hf
        · cases hf
    · cases hf
  case h_17 =>
    split at hf
    · split at hf <;> first | exact hp2 hf | cases hf
    · cases hf
  case h_18 =>
    have hB : ∀ {env : Nat → Option AV} {x : Option Operand} {d m : Nat} {k : Nat → Option (AV × Option (Nat × AV))}, (∀ r, k r = some (v, δ) → δ = none) → boundK cx env x d m k = some (v, δ) → δ = none := by
      intro env x d m k hk hb
      rw [boundK_eq] at hb
      cases hq : boundK cx env x d m some with
      | none => rw [hq] at hb; cases hb
      | some r => rw [hq] at hb; exact hk r hb
    split at hf
    · split at hf
      · split at hf
        · exact hB (fun r hr => hB (fun r' hr' => hp2 hr') hr) hf
        · cases hf
      · cases hf
    · split at hf
      · split at hf
        · exact hB (fun r hr => hB (fun r' hr' => hp2 hr') hr) hf
        · cases hf
      · split at hf
        · exact hB (fun r hr => hB (fun r' hr' => hp2 hr') hr) hf
        · cases hf
      · cases hf
    · cases hf
  case h_19 c hop =>
    obtain ⟨cal, args, ts⟩ := c
    split at hf
    · split at hf
      · unfold callK at hf
        split at hf
        · rw [immsK_eq] at hf
          cases hq : immsK hp _ some with
          | none => rw [hq] at hf; cases hf
          | some l =>
            rw [hq] at hf; simp only [Option.bind_some] at hf
            split at hf
            · rename_i e _ _ x _
              cases hF : e.F x with
              | none => rw [hF] at hf; cases hf
              | some r => rw [hF] at hf; exact hp2 hf
            · cases hf
        · cases hf
      · cases hf
    · split at hf
      · exact hp2 hf
      · exact hp2 hf
      · split at hf <;> first | exact hp2 hf | cases hf
      · cases hf
    · rename_i hcal
      simp only at hcal
      subst hcal
      rw [hop] at h
      simp [kindOf] at h
    · split at hf
      · split at hf <;> first | exact hp2 hf | cases hf
      · cases hf
    · cases hf
  case h_20 => cases hf

section
variable {cx : Cx} {G : World → Prop} {w0 : World} {N : Nat} {a : Act} {w : World} {all : Array Oper}

theorem memApart_spec {x y : Op} (h : memApart x y = true) : (kindOf x = 2 → kindOf y = 0) ∧ (kindOf y = 2 → kindOf x = 0) := by
  unfold memApart at h
  split at h <;> simp_all

theorem updH_ne {hp : Nat → Option AV} {b k : Nat} {c : AV} (h : k ≠ b) : updH hp (some (b, c)) k = hp k := by
  simp only [updH]
  cases hb : Nat.beq k b
  · rfl
  · exact absurd (Nat.eq_of_beq_eq_true hb) h
theorem updH_self {hp : Nat → Option AV} {b : Nat} {c : AV} : updH hp (some (b, c)) b = some c := by simp [updH]

/-- What a load or a store looks at. -/
theorem opF_at {o : Oper} {f hp hp' : Nat → Option AV} {n b : Nat} {p : List Step} (ha : addrOf o.op = some n) (hf : f n = some (.ptr b p)) (hh : hp b = hp' b) : opF cx o f hp = opF cx o f hp' := by
  unfold opF opK
  cases hop : o.op <;> rw [hop] at ha <;> simp only [addrOf, reduceCtorEq] at ha
  case load t x =>
    cases x <;> simp only [addrOf, reduceCtorEq, Option.some.injEq] at ha
    subst ha
    simp only [ev, hf, Option.getD_some, hh]
  case store t x y =>
    cases x <;> simp only [addrOf, reduceCtorEq, Option.some.injEq] at ha
    subst ha
    simp only [ev, hf, Option.getD_some, hh]

theorem opF_delta {o : Oper} {f hp : Nat → Option AV} {n b : Nat} {p : List Step} {v : AV} {δ : Option (Nat × AV)} (ha : addrOf o.op = some n) (hf : f n = some (.ptr b p)) (h : opF cx o f hp = some (v, δ)) : δ = none ∨ ∃ c, δ = some (b, c) := by
  by_cases hk : kindOf o.op = 2
  · unfold opF opK at h
    cases hop : o.op <;> rw [hop] at ha hk h <;> simp only [addrOf, reduceCtorEq] at ha
    case load t x => simp [kindOf] at hk
    case store t x y =>
      cases x <;> simp only [addrOf, reduceCtorEq, Option.some.injEq] at ha
      subst ha
      rename_i n
      have e : ev cx f 0 (.tmp n) = .ptr b p := by simp [ev, hf]
      simp only [e] at h
      cases hc : hp b with
      | none => rw [hc] at h; cases h
      | some u =>
        rw [hc] at h
        simp only at h
        by_cases hfit : fitsT cx.P t (ev cx f t y) = true
        · rw [if_pos hfit, setK_eq] at h
          cases hs : set u p (ev cx f t y) with
          | none => rw [hs] at h; cases h
          | some c =>
            rw [hs] at h
            simp [P2] at h
            exact .inr ⟨c, h.2.symm⟩
        · rw [if_neg hfit] at h; cases h
  · exact .inl (opF_reads hk h)

theorem opF_new {o : Oper} {f hp : Nat → Option AV} {v : AV} {δ : Option (Nat × AV)} (hn : newOp o.op = true) (h : opF cx o f hp = some (v, δ)) : ∃ d c, δ = some (d, c) ∧ hp d = none := by
  unfold opF opK at h
  cases hop : o.op <;> rw [hop] at hn h <;> simp only [newOp, reduceCtorEq, Bool.false_eq_true] at hn
  case alloc t =>
    simp only at h
    split at h
    · rename_i d z _ _
      split at h
      · rename_i hc
        simp [P2] at h
        simp only [Bool.and_eq_true, Option.isNone_iff_eq_none] at hc
        exact ⟨d, z, h.2.symm, hc.1⟩
      · cases h
    · cases h
  case box t x =>
    simp only at h
    split at h
    · rename_i d _
      split at h
      · rename_i hc
        simp [P2] at h
        simp only [Bool.and_eq_true, Option.isNone_iff_eq_none] at hc
        exact ⟨d, _, h.2.symm, hc.1⟩
      · cases h
    · cases h

theorem immK_mono {hp hp' : Nat → Option AV} (hh : ∀ n c, hp n = some c → hp' n = some c) {v u : AV} (h : immK hp v some = some u) : immK hp' v some = some u := by
  unfold immK at h ⊢
  cases v <;> simp only at h ⊢ <;> try exact h
  case ptr n p =>
    cases hc : hp n with
    | none => rw [hc] at h; cases h
    | some c => rw [hc] at h; rw [hh n c hc]; exact h
  case sl n p s i len cap =>
    cases hc : hp n with
    | none => rw [hc] at h; cases h
    | some c => rw [hc] at h; rw [hh n c hc]; exact h

theorem immsK_mono {hp hp' : Nat → Option AV} (hh : ∀ n c, hp n = some c → hp' n = some c) : ∀ {l us : List AV}, immsK hp l some = some us → immsK hp' l some = some us
  | [], us, h => h
  | v :: l, us, h => by
    simp only [immsK] at h ⊢
    rw [immK_eq] at h ⊢
    cases hv : immK hp v some with
    | none => rw [hv] at h; cases h
    | some u =>
      rw [hv] at h
      rw [immK_mono hh hv]
      simp only [Option.bind_some] at h ⊢
      rw [immsK_eq] at h ⊢
      cases hl : immsK hp l some with
      | none => rw [hl] at h; cases h
      | some us' =>
        rw [hl] at h
        rw [immsK_mono hh hl]
        exact h

theorem opF_mono {o : Oper} {f hp hp' : Nat → Option AV} {r : AV × Option (Nat × AV)} (hk : kindOf o.op ≤ 1) (hh : ∀ n c, hp n = some c → hp' n = some c) (h : opF cx o f hp = some r) : opF cx o f hp' = some r := by
  by_cases h0 : kindOf o.op = 0
  · rw [← h]; exact opF_pure h0
  unfold opF opK at h ⊢
  cases hop : o.op <;> rw [hop] at hk h0 h <;> try (exfalso; simp [kindOf] at h0; done)
  case alloc => simp [kindOf] at hk
  case box => simp [kindOf] at hk
  case store => simp [kindOf] at hk
  case load t x =>
    simp only at h
    split at h
    · rename_i n p hx
      split at h
      · rename_i c hc
        simp only [hx, hh n c hc]; exact h
      · cases h
    · rename_i v hx
      simp only [hx]; exact h
    · cases h
  case call c =>
    obtain ⟨cal, args, ts⟩ := c
    cases cal with
    | value q =>
      simp only at h
      split at h
      · rename_i q' hq
        simp only [hq]
        unfold callK at h ⊢
        split at h
        · rename_i e he
          try simp only [he]
          rw [immsK_eq] at h ⊢
          cases hl : immsK hp (args.toList.zipIdx.map fun (x, j) => ev cx f (ts.getD j 0) x) some with
          | none => rw [hl] at h; cases h
          | some us =>
            rw [hl] at h
            rw [immsK_mono hh hl]
            exact h
        · cases h
      · cases h
    | invoke r m => cases h
    | builtin b => exfalso; cases b <;> simp [kindOf] at h0 hk

/-- Two operations whose doings in memory may change places. -/
theorem mem_comm {oi oj : Oper} {f g hp : Nat → Option AV} {pi pj : AV × Option (Nat × AV)} (hm : memFree all g oi.op oj.op = true) (hg : ∀ n, wrote all n = false → f n = g n) (h1 : opF cx oi f hp = some pi) (h2 : opF cx oj f (updH hp pi.2) = some pj) :
    opF cx oj f hp = some pj ∧ opF cx oi f (updH hp pj.2) = some pi ∧ updH (updH hp pi.2) pj.2 = updH (updH hp pj.2) pi.2 := by
  simp only [memFree, Bool.or_eq_true, Bool.and_eq_true] at hm
  rcases hm with (hm | ⟨hn, hk⟩) | hm
  · obtain ⟨m1, m2⟩ := memApart_spec hm
    by_cases ki : kindOf oi.op = 2
    · have kj := m1 ki
      have hj : pj.2 = none := opF_reads (by rw [kj]; decide) h2
      refine ⟨by rw [← h2]; exact opF_pure kj, by rw [hj]; exact h1, by rw [hj]; rfl⟩
    · have hi : pi.2 = none := opF_reads ki h1
      rw [hi] at h2 ⊢
      refine ⟨h2, ?_, rfl⟩
      by_cases kj : kindOf oj.op = 2
      · rw [← h1]; exact opF_pure (m2 kj)
      · have hj : pj.2 = none := opF_reads kj h2
        rw [hj]; exact h1
  · have hk := Nat.le_of_ble_eq_true hk
    have hi : pi.2 = none := opF_reads (by omega) h1
    rw [hi] at h2 ⊢
    obtain ⟨d, c, e, hd⟩ := opF_new hn h2
    refine ⟨h2, opF_mono hk (fun n c' hc' => ?_) h1, rfl⟩
    rw [e]
    by_cases hnd : n = d
    · subst hnd; have hd' : hp n = none := hd; rw [hc'] at hd'; cases hd'
    · rw [updH_ne hnd]; exact hc'
  · unfold memDisj at hm
    split at hm
    · rename_i n m hx hy
      simp only [Bool.and_eq_true, Bool.not_eq_true'] at hm
      obtain ⟨⟨w1, w2⟩, hm⟩ := hm
      split at hm
      · rename_i b p b' p' e1 e2
        have f1 := (hg n w1).trans e1
        have f2 := (hg m w2).trans e2
        have hbb : b ≠ b' := by intro e; subst e; simp at hm
        have hi : updH hp pi.2 b' = hp b' := by
          rcases opF_delta hx f1 h1 with e | ⟨c, e⟩ <;> rw [e]
          · rfl
          · exact updH_ne (Ne.symm hbb)
        have h2' : opF cx oj f hp = some pj := by rw [← h2]; exact opF_at hy f2 hi.symm
        have hj : updH hp pj.2 b = hp b := by
          rcases opF_delta hy f2 h2' with e | ⟨c, e⟩ <;> rw [e]
          · rfl
          · exact updH_ne hbb
        refine ⟨h2', by rw [← h1]; exact opF_at hx f1 hj, ?_⟩
        rcases opF_delta hx f1 h1 with e | ⟨c, e⟩ <;> rcases opF_delta hy f2 h2' with e' | ⟨c', e'⟩ <;> rw [e, e'] <;> try rfl
        funext k
        by_cases k1 : k = b
        · subst k1; rw [updH_ne hbb, updH_self, updH_self]
        · by_cases k2 : k = b'
          · subst k2; rw [updH_self, updH_ne k1, updH_self]
          · rw [updH_ne k2, updH_ne k1, updH_ne k1, updH_ne k2]
      · cases hm
    · cases hm

theorem stepF_comm {oi oj : Oper} {S S1 S2 : FS} {g : Nat → Option AV} (hap : oi.apart all oj = true) (hm : memFree all g oi.op oj.op = true) (hg : ∀ n, wrote all n = false → S.e n = g n) (h1 : stepF cx all oi S = some S1) (h2 : stepF cx all oj S1 = some S2) :
    ∃ S1', stepF cx all oj S = some S1' ∧ stepF cx all oi S1' = some S2 := by
  obtain ⟨a1, a2, a3⟩ := Oper.apart_spec hap
  unfold stepF at h1 h2 ⊢
  split at h1
  · rename_i hdi
    split at h2
    · rename_i hdj
      rw [if_pos hdj]
      split at h1
      · rename_i hgi
        cases hfi : opF cx oi S.e S.h with
        | none => rw [hfi] at h1; cases h1
        | some pi =>
          rw [hfi] at h1
          simp at h1; subst h1
          simp only [FS.put] at h2
          rw [guardOf_upd (fun t ht => a1 t ht)] at h2
          split at h2
          · rename_i hgj
            rw [opF_upd (fun t ht => a1 t ht)] at h2
            cases hfj : opF cx oj S.e (updH S.h pi.2) with
            | none => rw [hfj] at h2; cases h2
            | some pj =>
              rw [hfj] at h2
              simp at h2; subst h2
              obtain ⟨g1, g2, g3⟩ := mem_comm hm hg hfi hfj
              refine ⟨S.put oj.dst pj.1 pj.2, by rw [g1]; rfl, ?_⟩
              rw [if_pos hdi]
              simp only [FS.put]
              rw [guardOf_upd (fun t ht => a3 t ht), hgi]
              simp only
              rw [opF_upd (fun t ht => a3 t ht), g2]
              simp only [Option.map_some]
              congr 1
              refine FS.ext' ?_ ?_
              · simp only [FS.put]; exact (upd_comm S.e pi.1 pj.1 (fun d hd => a2 d hd)).symm
              · simp only [FS.put]; exact g3.symm
          · rename_i hgj
            simp at h2; subst h2
            refine ⟨S.put oj.dst .undef none, rfl, ?_⟩
            rw [if_pos hdi]
            simp only [FS.put]
            rw [guardOf_upd (fun t ht => a3 t ht), hgi]
            simp only
            rw [opF_upd (fun t ht => a3 t ht)]
            have : opF cx oi S.e (updH S.h none) = some pi := hfi
            rw [this]
            simp only [Option.map_some]
            congr 1
            refine FS.ext' ?_ rfl
            simp only [FS.put]; exact (upd_comm S.e pi.1 .undef (fun d hd => a2 d hd)).symm
          · cases h2
      · rename_i hgi
        simp at h1; subst h1
        simp only [FS.put] at h2
        rw [guardOf_upd (fun t ht => a1 t ht)] at h2
        split at h2
        · rename_i hgj
          rw [opF_upd (fun t ht => a1 t ht)] at h2
          cases hfj : opF cx oj S.e (updH S.h none) with
          | none => rw [hfj] at h2; cases h2
          | some pj =>
            rw [hfj] at h2
            simp at h2; subst h2
            have hfj' : opF cx oj S.e S.h = some pj := hfj
            refine ⟨S.put oj.dst pj.1 pj.2, by rw [hfj']; rfl, ?_⟩
            rw [if_pos hdi]
            simp only [FS.put]
            rw [guardOf_upd (fun t ht => a3 t ht), hgi]
            simp only
            congr 1
            refine FS.ext' ?_ rfl
            simp only [FS.put]; exact (upd_comm S.e .undef pj.1 (fun d hd => a2 d hd)).symm
        · rename_i hgj
          simp at h2; subst h2
          refine ⟨S.put oj.dst .undef none, rfl, ?_⟩
          rw [if_pos hdi]
          simp only [FS.put]
          rw [guardOf_upd (fun t ht => a3 t ht), hgi]
          simp only
          congr 1
          refine FS.ext' ?_ rfl
          simp only [FS.put]; exact (upd_comm S.e .undef .undef (fun d hd => a2 d hd)).symm
        · cases h2
      · cases h1
    · cases h2
  · cases h1

/-! ### Whatever order is picked -/

def aOp (cx : Cx) (ops : Array Oper) (i : Nat) (K : FS → Prop) (S : FS) : Prop :=
  match ops[i]? with
  | none => K S
  | some o => ∃ S', stepF cx ops o S = some S' ∧ K S'

def AAny (cx : Cx) (ops : Array Oper) (Q : FS → Prop) : Nat → Array Bool → FS → Prop
  | 0, listed, S => Region.ready .any ops listed = [] ∧ Q S
  | fuel + 1, listed, S =>
    (Region.ready .any ops listed = [] → Q S) ∧ ∀ i ∈ Region.ready .any ops listed, aOp cx ops i (AAny cx ops Q fuel (listed.setIfInBounds i true)) S

theorem aOp_mono {i : Nat} {S : FS} {K K' : FS → Prop} (h : ∀ S, K S → K' S) (hh : aOp cx all i K S) : aOp cx all i K' S := by
  unfold aOp at *
  split
  · exact h _ (by simpa [*] using hh)
  · rename_i o ho
    rw [ho] at hh
    obtain ⟨S', h1, h2⟩ := hh
    exact ⟨S', h1, h _ h2⟩

theorem wpAny_of_AAny (hc : CxOk cx G) (hG : G w0) {Q : FS → Prop} {Q' : Exit → Act → World → Prop} (hQ : ∀ S a w, RelF w0 cx.N S a w → Q S → Q' .normal a w) :
    ∀ (fuel : Nat) (listed : Array Bool) (S : FS) (a : Act) (w : World), RelF w0 cx.N S a w → AAny cx all Q fuel listed S → wpAny cx.P .any all Q' fuel listed a w
  | 0, _, S, a, w, hr, h => ⟨h.1, hQ S a w hr h.2⟩
  | fuel + 1, listed, S, a, w, hr, h => ⟨fun h0 => hQ S a w hr (h.1 h0), fun i hi => by
      have h1 := h.2 i hi
      unfold aOp at h1
      cases ho : all[i]? with
      | none =>
        rw [ho] at h1
        unfold wpOp
        rw [ho]
        exact wpAny_of_AAny hc hG hQ fuel _ S a w hr h1
      | some o =>
        rw [ho] at h1
        obtain ⟨S', h2, h3⟩ := h1
        exact step_wpOp hc hG ho h2 hr fun a' w' hr' => wpAny_of_AAny hc hG hQ fuel _ S' a' w' hr' h3⟩

theorem stepF_keeps {j : Nat} {oj : Oper} {S S' : FS} {n : Nat} (hj : all[j]? = some oj) (h : stepF cx all oj S = some S') (hn : wrote all n = false) : S'.e n = S.e n := by
  have hd : ∀ d, oj.dst = some d → n ≠ d := fun d hd e => by
    subst e
    have : wrote all n = true := by
      simp only [wrote, List.any_eq_true]
      exact ⟨oj, by simpa using Array.mem_of_getElem? hj, by rw [hd]; simp⟩
    rw [this] at hn; cases hn
  have key : ∀ v δ, (S.put oj.dst v δ).e n = S.e n := fun v δ => by
    simp only [FS.put]
    cases ho : oj.dst with
    | none => rfl
    | some d =>
      simp only [upd]
      cases hb : Nat.beq n d
      · rfl
      · exact absurd (Nat.eq_of_beq_eq_true hb) (hd d ho)
  unfold stepF at h
  split at h
  · split at h
    · cases hf : opF cx oj S.e S.h with
      | none => rw [hf] at h; cases h
      | some p => rw [hf] at h; simp at h; subst h; exact key _ _
    · simp at h; subst h; exact key _ _
    · cases h
  · cases h

theorem AAny_first {Q : FS → Prop} {g : Nat → Option AV} {i : Nat} {oi : Oper} (hi : all[i]? = some oi) :
    ∀ (fuel : Nat) (listed : Array Bool) (S S1 : FS),
      (∀ (j : Nat) oj, all[j]? = some oj → j ≠ i → listed.getD j true = false → (∀ e ∈ oj.after, Region.binds .any e = true → e.on ≠ i) → oi.apart all oj = true ∧ memFree all g oi.op oj.op = true) → (∀ n, wrote all n = false → S.e n = g n) →
      i ∈ Region.ready .any all listed → stepF cx all oi S = some S1 →
      AAny cx all Q fuel (listed.setIfInBounds i true) S1 → AAny cx all Q (fuel + 1) listed S := by
  intro fuel
  induction fuel with
  | zero =>
    intro listed S S1 _ _ hr hy H
    refine ⟨fun h => (by rw [h] at hr; cases hr), fun j hj => ?_⟩
    by_cases hji : j = i
    · subst hji; unfold aOp; rw [hi]; exact ⟨S1, hy, H⟩
    · have := ready_mono hj hji
      rw [H.1] at this
      cases this
  | succ fuel ih =>
    intro listed S S1 hfree hgE hr hy H
    refine ⟨fun h => (by rw [h] at hr; cases hr), fun j hj => ?_⟩
    by_cases hji : j = i
    · subst hji; unfold aOp; rw [hi]; exact ⟨S1, hy, H⟩
    · have h1 := H.2 j (ready_mono hj hji)
      obtain ⟨hjun, oj, hoj, hall⟩ := mem_ready.1 hj
      have hnot : ∀ e ∈ oj.after, Region.binds .any e = true → e.on ≠ i := fun e he hb heq => by
        have h1 := hall e he hb
        have h0 := (mem_ready.1 hr).1
        rw [heq] at h1
        rcases Nat.lt_or_ge i listed.size with h' | h'
        · simp [h'] at h0 h1; rw [h0] at h1; cases h1
        · simp [Array.getElem?_eq_none h'] at h1
      obtain ⟨hap, hmem⟩ := hfree j oj hoj hji hjun hnot
      unfold aOp at h1
      rw [hoj] at h1
      obtain ⟨S2, h2, h3⟩ := h1
      obtain ⟨S1', h4, h5⟩ := stepF_comm hap hmem hgE hy h2
      have hfree' : ∀ (k : Nat) ok, all[k]? = some ok → k ≠ i → (listed.setIfInBounds j true).getD k true = false →
          (∀ e ∈ ok.after, Region.binds .any e = true → e.on ≠ i) → oi.apart all ok = true ∧ memFree all g oi.op ok.op = true := fun k ok hk hki hun hno => by
        refine hfree k ok hk hki ?_ hno
        by_cases hjk : j = k
        · subst hjk; exact hjun
        · rw [getD_set_ne true hjk] at hun; exact hun
      unfold aOp
      rw [hoj]
      refine ⟨S1', h4, ih (listed.setIfInBounds j true) S1' S2 hfree' (fun n hn => (stepF_keeps hoj h4 hn).trans (hgE n hn)) (ready_mono hr (Ne.symm hji)) h5 ?_⟩
      rw [Array.setIfInBounds_comm _ _ hji]
      exact h3

theorem freeM_spec {listed : Array Bool} {k : Nat} {ok : Oper} (hk : all[k]? = some ok) {g : Nat → Option AV} (h : freeM g all listed k = true) :
    ∀ (j : Nat) oj, all[j]? = some oj → j ≠ k → listed.getD j true = false → (∀ e ∈ oj.after, Region.binds .any e = true → e.on ≠ k) → ok.apart all oj = true ∧ memFree all g ok.op oj.op = true := by
  intro j oj hj hjk hun hno
  unfold freeM at h
  rw [hk] at h
  simp only [List.all_eq_true, List.mem_range] at h
  have hlt : j < all.size := by
    rcases Nat.lt_or_ge j all.size with h' | h'
    · exact h'
    · simp [Array.getElem?_eq_none h'] at hj
  have := h j hlt
  rw [hj, hun] at this
  simp only [Bool.or_false, Bool.or_eq_true, beq_iff_eq, Bool.and_eq_true] at this
  rcases this with this | this | this
  · exact absurd this hjk
  · rw [Array.any_eq_true] at this
    obtain ⟨e, he, hb⟩ := this
    simp only [Bool.and_eq_true, beq_iff_eq] at hb
    exact absurd hb.2 (hno _ (Array.getElem_mem he) hb.1)
  · exact this

/-- The text's own order. -/
def runF (cx : Cx) (all : Array Oper) : List Oper → FS → Option FS
  | [], S => some S
  | o :: rest, S => (stepF cx all o S).bind (runF cx all rest)

theorem AAny_lex {Q : FS → Prop} {g : Nat → Option AV} : ∀ (l : List Oper) (k : Nat) (listed : Array Bool) (S S' : FS), (∀ j : Nat, l[j]? = all[k + j]?) → (∀ n, wrote all n = false → S.e n = g n) →
    lexM g all l.length k listed = true → runF cx all l S = some S' → Q S' → AAny cx all Q l.length listed S
  | [], _, _, S, S', _, _, hB, h, hQ => by
    simp [runF] at h; subst h
    exact ⟨by simpa [lexM] using hB, hQ⟩
  | o :: l, k, listed, S, S', hl, hgE, hB, h, hQ => by
    have h0 : all[k]? = some o := by simpa using (hl 0).symm
    simp only [List.length_cons, lexM, Bool.and_eq_true] at hB
    obtain ⟨⟨hr, hf⟩, hB'⟩ := hB
    simp only [runF] at h
    cases hs : stepF cx all o S with
    | none => rw [hs] at h; cases h
    | some S1 =>
      rw [hs] at h
      simp only [Option.bind_some] at h
      exact AAny_first h0 l.length listed S S1 (freeM_spec h0 hf) hgE (by simpa using hr) hs
        (AAny_lex l (k + 1) _ S1 S' (fun j => by have := hl (j + 1); simpa [Nat.add_assoc, Nat.add_comm 1 j] using this) (fun n hn => (stepF_keeps h0 hs hn).trans (hgE n hn)) hB' h hQ)

/-- **A region does what its text says.** -/
theorem region_sound (hc : CxOk cx G) (hG : G w0) {id : Nat} {draw : Bool} {S S' : FS} (hd : draw = true → drawOK S.e all = true) (hr : RelF w0 cx.N S a w) (h : runF cx all all.toList S = some S')
    {Q : Exit → Act → World → Prop} (hQ : ∀ a' w', RelF w0 cx.N S' a' w' → Q .normal a' w') : (Code.region id all draw).wp cx.P Q a w := by
  cases draw with
  | true =>
    refine wp_region_any hc.mixed ?_
    have hr' : RelF w0 cx.N S a { w with drawn := w.drawn + 1 } := by obtain ⟨E, h⟩ := hr; exact ⟨E, h.drew⟩
    refine wpAny_of_AAny hc hG (Q := fun T => T = S') (fun T a' w' h1 h2 => hQ a' w' (by rw [← h2]; exact h1)) _ _ S a _ hr' ?_
    have := AAny_lex (Q := fun T => T = S') all.toList 0 (Array.replicate all.size false) S S' (by simp) (fun _ _ => rfl) (by simpa [drawOK] using hd rfl) h rfl
    simpa using this
  | false =>
    refine wp_region ?_
    have key : ∀ (l : List Oper) (k : Nat) (S : FS) (a : Act) (w : World), (∀ j : Nat, l[j]? = all[k + j]?) → RelF w0 cx.N S a w → runF cx all l S = some S' → wpOps cx.P all Q (List.range' k l.length) a w := by
      intro l
      induction l with
      | nil =>
        intro k S a w _ hr h
        simp [runF] at h; subst h
        simpa [wpOps] using hQ a w hr
      | cons o l ih =>
        intro k S a w hl hr h
        have h0 : all[k]? = some o := by simpa using (hl 0).symm
        simp only [runF] at h
        cases hs : stepF cx all o S with
        | none => rw [hs] at h; cases h
        | some S1 =>
          rw [hs] at h
          simp only [Option.bind_some] at h
          simp only [List.length_cons, List.range'_succ]
          rw [wpOps_cons]
          exact step_wpOp hc hG h0 hs hr fun a' w' hr' => ih (k + 1) S1 a' w' (fun j => by have := hl (j + 1); simpa [Nat.add_assoc, Nat.add_comm 1 j] using this) hr' h
    have := key all.toList 0 S a w (by simp) hr h
    simpa [List.range_eq_range'] using this
end
end Go.Sy
