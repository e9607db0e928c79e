/- Regions, continued: operations that are apart may change places. -/
import Derived.Test.YtmbcolalfgepiaaDoorSyP
set_option linter.unusedVariables false
set_option linter.unusedSimpArgs false
namespace Go.Sy
open Go Go.RowKit

theorem opF_pure {cx : Cx} {o : Oper} {f hp hp' : Nat → Option AV} (h : kindOf o.op = 0) : opF cx o f hp = opF cx o f hp' := by
  unfold opF opK
  cases hop : o.op <;> rw [hop] at h <;> try rfl
  case alloc => simp [kindOf] at h
  case box => simp [kindOf] at h
  case load => simp [kindOf] at h
  case store => simp [kindOf] at h
  case slice t x lo hi mx => cases mx <;> rfl
  case call c =>
    obtain ⟨cal, args, ts⟩ := c
    cases cal with
    | value g => simp [kindOf] at h
    | invoke r m => simp [kindOf] at h
    | builtin b => cases b <;> first | rfl | (simp [kindOf] at h)

theorem opF_reads {cx : Cx} {o : Oper} {f hp : Nat → Option AV} {v : AV} {δ : Option (Nat × AV)} (h : kindOf o.op ≠ 2) (hf : opF cx o f hp = some (v, δ)) : δ = none := by
  have hP : ∀ {x : Option AV}, (x.bind fun v => P2 v none) = some (v, δ) → δ = none := by
    intro x hx
    cases x with
    | none => cases hx
    | some u => simp [P2] at hx; exact hx.2.symm
  have hp2 : ∀ {u : AV}, P2 u none = some (v, δ) → δ = none := by
    intro u hu; simp [P2] at hu; exact hu.2.symm
  unfold opF opK at hf
  split at hf
  case h_1 => exact hp2 hf
  case h_2 => exact hp2 hf
  case h_3 =>
    split at hf
    · rename_i b _
      cases b <;> exact hp2 hf
    · cases hf
  case h_4 hop => rw [hop] at h; simp [kindOf] at h
  case h_5 hop => rw [hop] at h; simp [kindOf] at h
  case h_6 =>
    split at hf
    · split at hf
      · rw [partsK_eq] at hf; exact hP hf
      · cases hf
    · cases hf
  case h_7 =>
    split at hf
    · split at hf
      · rw [getK_eq] at hf
        cases hg : get _ _ with
        | none => rw [hg] at hf; cases hf
        | some u =>
          rw [hg] at hf; simp only [Option.bind_some] at hf
          split at hf
          · exact hp2 hf
          · cases hf
      · cases hf
    · split at hf
      · exact hp2 hf
      · cases hf
    · cases hf
  case h_8 hop => rw [hop] at h; simp [kindOf] at h
  case h_9 => split at hf <;> first | exact hp2 hf | cases hf
  case h_10 => rw [binK_eq] at hf; exact hP hf
  case h_11 => rw [unK_eq] at hf; exact hP hf
  case h_12 => split at hf <;> first | exact hp2 hf | cases hf
  case h_13 =>
    split at hf
    · split at hf
      · split at hf
        · cases hf
        · exact hp2 hf
      · split at hf
        · cases hf
        · rw [getK_eq] at hf
          cases hg : get _ _ with
          | none => rw [hg] at hf; cases hf
          | some u => rw [hg] at hf; exact hp2 hf
      · cases hf
    · cases hf
  case h_14 =>
    split at hf
    · split at hf
      · rw [getK_eq] at hf
        cases hg : get _ _ with
        | none => rw [hg] at hf; cases hf
        | some u =>
          rw [hg] at hf; simp only [Option.bind_some] at hf
          split at hf
          · exact hp2 hf
          · cases hf
      · cases hf
    · cases hf
  case h_15 =>
    split at hf
    · rename_i j _
      cases h0 : decide (0 ≤ j)
      · rw [h0] at hf; cases hf
      · rw [h0] at hf; simp only [cond_true] at hf
        split at hf
        · rename_i n e _
          cases hb : Nat.blt j.toNat n
          · rw [hb] at hf; cases hf
          · rw [hb] at hf; simp only [cond_true] at hf
            split at hf
            · split at hf
              · exact hp2 hf
              · rw [getK_eq] at hf
                cases hg : get _ _ with
                | none => rw [hg] at hf; cases hf
                | some u => rw [hg] at hf; exact hp2 hf
              · cases hf
            · cases hf
        · split at hf
          · split at hf
            · rename_i len _ _
              split at hf
              · rename_i len _ _ _
                generalize Nat.blt j.toNat _ = bb at hf
                cases bb
                · cases hf
                · exact hp2 hf
              · cases hf
            · split at hf
              · generalize Nat.blt j.toNat _ = bb at hf
                cases bb
                · cases hf
                · exact hp2 hf
              · cases hf
            · cases hf
          · cases hf
        · cases hf
    · cases hf
  case h_16 =>
    split at hf
    · rename_i j _
      cases h0 : decide (0 ≤ j)
      · rw [h0] at hf; cases hf
      · rw [h0] at hf; simp only [cond_true] at hf
        split at hf
        · rename_i n e _
          cases hb : Nat.blt j.toNat n
          · rw [hb] at hf; cases hf
          · rw [hb] at hf; simp only [cond_true] at hf
            split at hf
            · rw [getK_eq] at hf
              cases hg : get _ _ with
              | none => rw [hg] at hf; cases hf
              | some u =>
                rw [hg] at hf; simp only [Option.bind_some] at hf
                split at hf
                · exact hp2 hf
                · cases hf
            · cases hf
        · cases hf
    · cases hf
  case h_17 =>
    split at hf
    · split at hf <;> first | exact hp2 hf | cases hf
    · cases hf
  case h_18 =>
    have hB : ∀ {env : Nat → Option AV} {x : Option Operand} {d m : Nat} {k : Nat → Option (AV × Option (Nat × AV))}, (∀ r, k r = some (v, δ) → δ = none) → boundK cx env x d m k = some (v, δ) → δ = none := by
      intro env x d m k hk hb
      rw [boundK_eq] at hb
      cases hq : boundK cx env x d m some with
      | none => rw [hq] at hb; cases hb
      | some r => rw [hq] at hb; exact hk r hb
    split at hf
    · split at hf
      · split at hf
        · exact hB (fun r hr => hB (fun r' hr' => hp2 hr') hr) hf
        · cases hf
      · cases hf
    · split at hf
      · split at hf
        · exact hB (fun r hr => hB (fun r' hr' => hp2 hr') hr) hf
        · cases hf
      · split at hf
        · exact hB (fun r hr => hB (fun r' hr' => hp2 hr') hr) hf
        · cases hf
      · cases hf
    · cases hf
  case h_19 c hop =>
    obtain ⟨cal, args, ts⟩ := c
    split at hf
    · split at hf
      · unfold callK at hf
        split at hf
        · rw [immsK_eq] at hf
          cases hq : immsK hp _ some with
          | none => rw [hq] at hf; cases hf
          | some l =>
            rw [hq] at hf; simp only [Option.bind_some] at hf
            split at hf
            · rename_i e _ _ x _
              cases hF : e.F x with
              | none => rw [hF] at hf; cases hf
              | some r => rw [hF] at hf; exact hp2 hf
            · cases hf
        · cases hf
      · cases hf
    · split at hf
      · exact hp2 hf
      · exact hp2 hf
      · split at hf <;> first | exact hp2 hf | cases hf
      · cases hf
    · rename_i hcal
      simp only at hcal
      subst hcal
      rw [hop] at h
      simp [kindOf] at h
    · split at hf
      · split at hf <;> first | exact hp2 hf | cases hf
      · cases hf
    · cases hf
  case h_20 => cases hf

section
variable {cx : Cx} {G : World → Prop} {w0 : World} {N : Nat} {a : Act} {w : World} {all : Array Oper}

theorem memApart_spec {x y : Op} (h : memApart x y = true) : (kindOf x = 2 → kindOf y = 0) ∧ (kindOf y = 2 → kindOf x = 0) := by
  unfold memApart at h
  split at h <;> simp_all

theorem stepF_comm {oi oj : Oper} {S S1 S2 : FS} (hap : oi.apart all oj = true) (hm : memApart oi.op oj.op = true) (h1 : stepF cx all oi S = some S1) (h2 : stepF cx all oj S1 = some S2) :
    ∃ S1', stepF cx all oj S = some S1' ∧ stepF cx all oi S1' = some S2 := by
  obtain ⟨a1, a2, a3⟩ := Oper.apart_spec hap
  obtain ⟨m1, m2⟩ := memApart_spec hm
  unfold stepF at h1 h2 ⊢
  split at h1
  · rename_i hdi
    split at h2
    · rename_i hdj
      rw [if_pos hdj]
      -- what 'oi' does
      have key : ∃ vi δi, S1 = S.put oi.dst vi δi ∧ (δi ≠ none → kindOf oj.op = 0) ∧
          (∀ T : FS, (∀ u, T.e = upd S.e oj.dst u → (T.h = S.h ∨ kindOf oi.op = 0) → (match guardOf all T.e oi with | some true => (opF cx oi T.e T.h).map fun p => T.put oi.dst p.1 p.2 | some false => some (T.put oi.dst .undef none) | none => none) = some (T.put oi.dst vi δi))) := by
        split at h1
        · rename_i hg
          cases hf : opF cx oi S.e S.h with
          | none => rw [hf] at h1; cases h1
          | some p =>
            rw [hf] at h1
            simp at h1; subst h1
            refine ⟨p.1, p.2, rfl, fun hne => m1 ?_, fun T u hT hh => ?_⟩
            · cases hk : decide (kindOf oi.op = 2)
              · exact absurd (opF_reads (by simpa using hk) (v := p.1) (δ := p.2) hf) hne
              · simpa using hk
            · rw [hT, guardOf_upd (fun t ht => a3 t ht), hg]
              simp only
              rw [opF_upd (fun t ht => a3 t ht)]
              have : opF cx oi S.e T.h = some p := by
                rcases hh with hh | hh
                · rw [hh]; exact hf
                · rw [opF_pure (hp' := S.h) hh]; exact hf
              rw [this]; rfl
        · rename_i hg
          simp at h1; subst h1
          refine ⟨.undef, none, rfl, fun hne => absurd rfl hne, fun T u hT hh => ?_⟩
          rw [hT, guardOf_upd (fun t ht => a3 t ht), hg]
        · cases h1
      obtain ⟨vi, δi, rfl, hδi, hback⟩ := key
      simp only [FS.put] at h2
      rw [guardOf_upd (fun t ht => a1 t ht)] at h2
      have fin : ∀ vj δj, S2 = (FS.mk (upd S.e oi.dst vi) (updH S.h δi)).put oj.dst vj δj → (δj ≠ none → kindOf oi.op = 0) → δi = none ∨ δj = none →
          ∃ S1', some (S.put oj.dst vj δj) = some S1' ∧ (if dstOK cx.N oi.dst = true then (match guardOf all S1'.e oi with | some true => (opF cx oi S1'.e S1'.h).map fun p => S1'.put oi.dst p.1 p.2 | some false => some (S1'.put oi.dst .undef none) | none => none) else none) = some S2 := by
        intro vj δj e hk hor
        refine ⟨_, rfl, ?_⟩
        rw [if_pos hdi, hback (S.put oj.dst vj δj) vj rfl ?_]
        · rw [e]
          congr 1
          refine FS.ext' ?_ ?_
          · simp only [FS.put]
            exact (upd_comm S.e vi vj (fun d hd => a2 d hd)).symm
          · simp only [FS.put]
            rcases hor with rfl | rfl <;> rfl
        · by_cases hn : δj = none
          · subst hn; exact .inl rfl
          · exact .inr (hk hn)
      split at h2
      · rename_i hg
        rw [opF_upd (fun t ht => a1 t ht)] at h2
        have hsame : opF cx oj S.e (updH S.h δi) = opF cx oj S.e S.h := by
          by_cases hn : δi = none
          · subst hn; rfl
          · exact opF_pure (hδi hn)
        rw [hsame] at h2
        cases hf : opF cx oj S.e S.h with
        | none => rw [hf] at h2; cases h2
        | some p =>
          rw [hf] at h2
          simp at h2
          have hpj : p.2 ≠ none → kindOf oi.op = 0 := fun hne => m2 (by
            cases hk : decide (kindOf oj.op = 2)
            · exact absurd (opF_reads (by simpa using hk) (v := p.1) (δ := p.2) hf) hne
            · simpa using hk)
          simp only [Option.map_some]
          refine fin p.1 p.2 h2.symm hpj ?_
          by_cases hn : δi = none
          · exact .inl hn
          · right
            by_cases hj : p.2 = none
            · exact hj
            · exact absurd (opF_reads (by rw [hδi hn]; decide) (v := p.1) (δ := p.2) hf) hj
      · rename_i hg
        simp at h2
        exact fin .undef none h2.symm (fun h => absurd rfl h) (.inr rfl)
      · cases h2
    · cases h2
  · cases h1

/-! ### Whatever order is picked -/

def aOp (cx : Cx) (ops : Array Oper) (i : Nat) (K : FS → Prop) (S : FS) : Prop :=
  match ops[i]? with
  | none => K S
  | some o => ∃ S', stepF cx ops o S = some S' ∧ K S'

def AAny (cx : Cx) (ops : Array Oper) (Q : FS → Prop) : Nat → Array Bool → FS → Prop
  | 0, listed, S => Region.ready .any ops listed = [] ∧ Q S
  | fuel + 1, listed, S =>
    (Region.ready .any ops listed = [] → Q S) ∧ ∀ i ∈ Region.ready .any ops listed, aOp cx ops i (AAny cx ops Q fuel (listed.setIfInBounds i true)) S

theorem aOp_mono {i : Nat} {S : FS} {K K' : FS → Prop} (h : ∀ S, K S → K' S) (hh : aOp cx all i K S) : aOp cx all i K' S := by
  unfold aOp at *
  split
  · exact h _ (by simpa [*] using hh)
  · rename_i o ho
    rw [ho] at hh
    obtain ⟨S', h1, h2⟩ := hh
    exact ⟨S', h1, h _ h2⟩

theorem wpAny_of_AAny (hc : CxOk cx G) (hG : G w0) {Q : FS → Prop} {Q' : Exit → Act → World → Prop} (hQ : ∀ S a w, RelF w0 cx.N S a w → Q S → Q' .normal a w) :
    ∀ (fuel : Nat) (listed : Array Bool) (S : FS) (a : Act) (w : World), RelF w0 cx.N S a w → AAny cx all Q fuel listed S → wpAny cx.P .any all Q' fuel listed a w
  | 0, _, S, a, w, hr, h => ⟨h.1, hQ S a w hr h.2⟩
  | fuel + 1, listed, S, a, w, hr, h => ⟨fun h0 => hQ S a w hr (h.1 h0), fun i hi => by
      have h1 := h.2 i hi
      unfold aOp at h1
      cases ho : all[i]? with
      | none =>
        rw [ho] at h1
        unfold wpOp
        rw [ho]
        exact wpAny_of_AAny hc hG hQ fuel _ S a w hr h1
      | some o =>
        rw [ho] at h1
        obtain ⟨S', h2, h3⟩ := h1
        exact step_wpOp hc hG ho h2 hr fun a' w' hr' => wpAny_of_AAny hc hG hQ fuel _ S' a' w' hr' h3⟩

theorem AAny_first {Q : FS → Prop} {i : Nat} {oi : Oper} (hi : all[i]? = some oi) :
    ∀ (fuel : Nat) (listed : Array Bool) (S S1 : FS),
      (∀ (j : Nat) oj, all[j]? = some oj → j ≠ i → listed.getD j true = false → (∀ e ∈ oj.after, Region.binds .any e = true → e.on ≠ i) → oi.apart all oj = true ∧ memApart oi.op oj.op = true) →
      i ∈ Region.ready .any all listed → stepF cx all oi S = some S1 →
      AAny cx all Q fuel (listed.setIfInBounds i true) S1 → AAny cx all Q (fuel + 1) listed S := by
  intro fuel
  induction fuel with
  | zero =>
    intro listed S S1 _ hr hy H
    refine ⟨fun h => (by rw [h] at hr; cases hr), fun j hj => ?_⟩
    by_cases hji : j = i
    · subst hji; unfold aOp; rw [hi]; exact ⟨S1, hy, H⟩
    · have := ready_mono hj hji
      rw [H.1] at this
      cases this
  | succ fuel ih =>
    intro listed S S1 hfree hr hy H
    refine ⟨fun h => (by rw [h] at hr; cases hr), fun j hj => ?_⟩
    by_cases hji : j = i
    · subst hji; unfold aOp; rw [hi]; exact ⟨S1, hy, H⟩
    · have h1 := H.2 j (ready_mono hj hji)
      obtain ⟨hjun, oj, hoj, hall⟩ := mem_ready.1 hj
      have hnot : ∀ e ∈ oj.after, Region.binds .any e = true → e.on ≠ i := fun e he hb heq => by
        have h1 := hall e he hb
        have h0 := (mem_ready.1 hr).1
        rw [heq] at h1
        rcases Nat.lt_or_ge i listed.size with h' | h'
        · simp [h'] at h0 h1; rw [h0] at h1; cases h1
        · simp [Array.getElem?_eq_none h'] at h1
      obtain ⟨hap, hmem⟩ := hfree j oj hoj hji hjun hnot
      unfold aOp at h1
      rw [hoj] at h1
      obtain ⟨S2, h2, h3⟩ := h1
      obtain ⟨S1', h4, h5⟩ := stepF_comm hap hmem hy h2
      have hfree' : ∀ (k : Nat) ok, all[k]? = some ok → k ≠ i → (listed.setIfInBounds j true).getD k true = false →
          (∀ e ∈ ok.after, Region.binds .any e = true → e.on ≠ i) → oi.apart all ok = true ∧ memApart oi.op ok.op = true := fun k ok hk hki hun hno => by
        refine hfree k ok hk hki ?_ hno
        by_cases hjk : j = k
        · subst hjk; exact hjun
        · rw [getD_set_ne true hjk] at hun; exact hun
      unfold aOp
      rw [hoj]
      refine ⟨S1', h4, ih (listed.setIfInBounds j true) S1' S2 hfree' (ready_mono hr (Ne.symm hji)) h5 ?_⟩
      rw [Array.setIfInBounds_comm _ _ hji]
      exact h3

theorem freeM_spec {listed : Array Bool} {k : Nat} {ok : Oper} (hk : all[k]? = some ok) (h : freeM all listed k = true) :
    ∀ (j : Nat) oj, all[j]? = some oj → j ≠ k → listed.getD j true = false → (∀ e ∈ oj.after, Region.binds .any e = true → e.on ≠ k) → ok.apart all oj = true ∧ memApart ok.op oj.op = true := by
  intro j oj hj hjk hun hno
  unfold freeM at h
  rw [hk] at h
  simp only [List.all_eq_true, List.mem_range] at h
  have hlt : j < all.size := by
    rcases Nat.lt_or_ge j all.size with h' | h'
    · exact h'
    · simp [Array.getElem?_eq_none h'] at hj
  have := h j hlt
  rw [hj, hun] at this
  simp only [Bool.or_false, Bool.or_eq_true, beq_iff_eq, Bool.and_eq_true] at this
  rcases this with this | this | this
  · exact absurd this hjk
  · rw [Array.any_eq_true] at this
    obtain ⟨e, he, hb⟩ := this
    simp only [Bool.and_eq_true, beq_iff_eq] at hb
    exact absurd hb.2 (hno _ (Array.getElem_mem he) hb.1)
  · exact this

/-- The text's own order. -/
def runF (cx : Cx) (all : Array Oper) : List Oper → FS → Option FS
  | [], S => some S
  | o :: rest, S => (stepF cx all o S).bind (runF cx all rest)

theorem AAny_lex {Q : FS → Prop} : ∀ (l : List Oper) (k : Nat) (listed : Array Bool) (S S' : FS), (∀ j : Nat, l[j]? = all[k + j]?) →
    lexM all l.length k listed = true → runF cx all l S = some S' → Q S' → AAny cx all Q l.length listed S
  | [], _, _, S, S', _, hB, h, hQ => by
    simp [runF] at h; subst h
    exact ⟨by simpa [lexM] using hB, hQ⟩
  | o :: l, k, listed, S, S', hl, hB, h, hQ => by
    have h0 : all[k]? = some o := by simpa using (hl 0).symm
    simp only [List.length_cons, lexM, Bool.and_eq_true] at hB
    obtain ⟨⟨hr, hf⟩, hB'⟩ := hB
    simp only [runF] at h
    cases hs : stepF cx all o S with
    | none => rw [hs] at h; cases h
    | some S1 =>
      rw [hs] at h
      simp only [Option.bind_some] at h
      exact AAny_first h0 l.length listed S S1 (freeM_spec h0 hf) (by simpa using hr) hs
        (AAny_lex l (k + 1) _ S1 S' (fun j => by have := hl (j + 1); simpa [Nat.add_assoc, Nat.add_comm 1 j] using this) hB' h hQ)

/-- **A region does what its text says.** -/
theorem region_sound (hc : CxOk cx G) (hG : G w0) {id : Nat} {draw : Bool} {S S' : FS} (hd : draw = true → drawOK all = true) (hr : RelF w0 cx.N S a w) (h : runF cx all all.toList S = some S')
    {Q : Exit → Act → World → Prop} (hQ : ∀ a' w', RelF w0 cx.N S' a' w' → Q .normal a' w') : (Code.region id all draw).wp cx.P Q a w := by
  cases draw with
  | true =>
    refine wp_region_any hc.mixed ?_
    have hr' : RelF w0 cx.N S a { w with drawn := w.drawn + 1 } := by obtain ⟨E, h⟩ := hr; exact ⟨E, h.drew⟩
    refine wpAny_of_AAny hc hG (Q := fun T => T = S') (fun T a' w' h1 h2 => hQ a' w' (by rw [← h2]; exact h1)) _ _ S a _ hr' ?_
    have := AAny_lex (Q := fun T => T = S') all.toList 0 (Array.replicate all.size false) S S' (by simp) (by simpa [drawOK] using hd rfl) h rfl
    simpa using this
  | false =>
    refine wp_region ?_
    have key : ∀ (l : List Oper) (k : Nat) (S : FS) (a : Act) (w : World), (∀ j : Nat, l[j]? = all[k + j]?) → RelF w0 cx.N S a w → runF cx all l S = some S' → wpOps cx.P all Q (List.range' k l.length) a w := by
      intro l
      induction l with
      | nil =>
        intro k S a w _ hr h
        simp [runF] at h; subst h
        simpa [wpOps] using hQ a w hr
      | cons o l ih =>
        intro k S a w hl hr h
        have h0 : all[k]? = some o := by simpa using (hl 0).symm
        simp only [runF] at h
        cases hs : stepF cx all o S with
        | none => rw [hs] at h; cases h
        | some S1 =>
          rw [hs] at h
          simp only [Option.bind_some] at h
          simp only [List.length_cons, List.range'_succ]
          rw [wpOps_cons]
          exact step_wpOp hc hG h0 hs hr fun a' w' hr' => ih (k + 1) S1 a' w' (fun j => by have := hl (j + 1); simpa [Nat.add_assoc, Nat.add_comm 1 j] using this) hr' h
    have := key all.toList 0 S a w (by simp) hr h
    simpa [List.range_eq_range'] using this
end
end Go.Sy
