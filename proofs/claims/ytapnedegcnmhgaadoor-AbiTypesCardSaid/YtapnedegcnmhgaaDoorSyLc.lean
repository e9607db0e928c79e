/- Calls: what is lent, what comes back. -/
import Derived.Test.YtapnedegcnmhgaaDoorSyLb
set_option linter.unusedVariables false
set_option linter.unusedSimpArgs false
namespace Go.Sy
open Go Go.RowKit
noncomputable section

section
variable {cx : Cx} {G : Ini → Prop} {w0 : Ini} {E : Emb} {N : Nat} {env hp : Nat → Option AV} {a : Act} {w : World} {o : Oper}

def isLent (E : Emb) (ns : List Nat) (g : Nat) : Prop := ∃ n, n ∈ ns ∧ (E.cnt n).isSome = true ∧ E.ρ n = g

open Classical in
/-- The callee's view when the call begins. -/
noncomputable def calEmb (E : Emb) (ns : List Nat) (w : World) : Emb where
  ρ j := match ns[j]? with | some n => E.ρ n | none => 0
  cnt j := match ns[j]? with | some n => E.cnt n | none => none
  len j := match ns[j]? with | some n => E.len n | none => 0
  im f g j := match f with
    | true => E.im true g j
    | false => if isLent E ns g then none else cellOf w g j

theorem lentK_spec {σ : Nat → Option Nat} : ∀ {ns : List Nat} {bs : List AV}, lentK hp σ ns some = some bs →
    bs.length = ns.length ∧ ∀ (j n : Nat), ns[j]? = some n → ∃ c c', hp n = some c ∧ c.live = true ∧ c.ren σ = some c' ∧ bs[j]? = some c'
  | [], bs, h => by simp [lentK] at h; subst h; exact ⟨rfl, fun j n hn => by simp at hn⟩
  | n :: ns, bs, h => by
    simp only [lentK] at h
    split at h
    · rename_i c hc
      split at h
      · rename_i hl
        simp only [Option.bind_eq_some_iff] at h
        obtain ⟨c', h1, h2⟩ := h
        rw [lentK_eq] at h2
        cases hq : lentK hp σ ns some with
        | none => rw [hq] at h2; cases h2
        | some l =>
          rw [hq] at h2
          simp at h2; subst h2
          obtain ⟨g1, g2⟩ := lentK_spec hq
          refine ⟨by simp [g1], fun j m hm => ?_⟩
          cases j with
          | zero => simp at hm; subst hm; exact ⟨c, c', hc, hl, h1, rfl⟩
          | succ j => simpa using g2 j m (by simpa using hm)
      · cases h
    · cases h

theorem lent_own (h : Mem w0 E hp w) {ns : List Nat} (hlive : ∀ n, n ∈ ns → ∃ c, hp n = some c ∧ c.live = true) (hfr : ∀ n, n ∈ ns → froN n = false) {g : Nat} (hg : isLent E ns g) (f : Bool) (j : Nat) : E.im f g j = none := by
  obtain ⟨n, h1, h2, rfl⟩ := hg
  obtain ⟨c, hc, hl⟩ := hlive n h1
  obtain ⟨_, ⟨k, _⟩ | ⟨xs, T, k1, k2, k3, k4, _⟩⟩ := h.rheap n c hc hl
  · rw [k] at h2; cases h2
  · exact k4 f j fun h => by rw [hfr n h1] at h; cases h

theorem call_stays (h : Mem w0 E hp w) {ns : List Nat} (hlive : ∀ n, n ∈ ns → ∃ c, hp n = some c ∧ c.live = true) (hfr : ∀ n, n ∈ ns → froN n = false) : Stays true E (calEmb E ns w) ∧ Stays false E (calEmb E ns w) ∧ ImmLe E (calEmb E ns w) := by
  have key : ∀ f g j v, E.im f g j = some v → (calEmb E ns w).im false g j = some v := fun f g j v hv => by
    simp only [calEmb]
    rw [if_neg (fun hg => by rw [lent_own h hlive hfr hg] at hv; cases hv)]
    exact h.cell hv
  exact ⟨fun g j v hv => hv, fun g j v hv => key _ g j v hv, key, fun g j v hv => hv⟩

theorem call_opens (h : Mem w0 E hp w) {ns : List Nat} (hlive : ∀ n, n ∈ ns → ∃ c, hp n = some c ∧ c.live = true) (hfr : ∀ n, n ∈ ns → froN n = false) : Opens E (maskN (fun n => placeN n ns) hp) w (calEmb E ns w) where
  im := (call_stays h hlive hfr).2.2
  own := fun n c hc hl hk j v hv => by
    have hn : n ∉ ns ∧ hp n = some c := by
      simp only [maskN] at hc
      split at hc
      · cases hc
      · rename_i hp'
        exact ⟨fun hm => (by obtain ⟨j, hj⟩ := placeN_mem hm; rw [hp'] at hj; cases hj), hc⟩
    simp only [calEmb]
    rw [if_neg]
    · exact hv
    · rintro ⟨m, h1, h2, h3⟩
      obtain ⟨c', hc', hl'⟩ := hlive m h1
      have := h.inj m n c' c hc' hn.2 hl' hl h2 hk h3
      subst this
      exact hn.1 h1

theorem mask_sub {σ : Nat → Option Nat} : ∀ n c, maskN σ hp n = some c → hp n = some c := fun n c hc => by
  simp only [maskN] at hc
  split at hc
  · cases hc
  · exact hc

theorem call_names {ns : List Nat} : Names (fun n => placeN n ns) E (calEmb E ns w) := fun n m hm => by
  have := placeN_some hm
  simp [calEmb, this]

theorem call_lent {ns : List Nat} (hd : nodupN ns = true) (g : Nat) : lentL (calEmb E ns w) ns.length g ↔ isLent E ns g := by
  constructor
  · rintro ⟨j, h1, h2, h3⟩
    simp only [calEmb, List.getElem?_eq_getElem h1] at h2 h3
    exact ⟨_, List.getElem_mem h1, h2, h3⟩
  · rintro ⟨n, h1, h2, h3⟩
    obtain ⟨j, hj, e⟩ := List.getElem_of_mem h1
    refine ⟨j, hj, ?_, ?_⟩
    · simp only [calEmb, List.getElem?_eq_getElem hj, e]; exact h2
    · simp only [calEmb, List.getElem?_eq_getElem hj, e]; exact h3

/-- The callee's memory when the call begins. -/
theorem call_begin (h : Mem w0 E hp w) {ns : List Nat} {bs : List AV} (hd : nodupN ns = true) (hsm : ns.length ≤ 1000) (hfr : ∀ n, n ∈ ns → froN n = false) (hb : lentK hp (fun n => placeN n ns) ns some = some bs) :
    Mem (iniOf (calEmb E ns w) ns.length w) (calEmb E ns w) (hpOf bs) w := by
  obtain ⟨hlen, hlent⟩ := lentK_spec hb
  have hlive : ∀ n, n ∈ ns → ∃ c, hp n = some c ∧ c.live = true := fun n hn => by
    obtain ⟨j, hj, e⟩ := List.getElem_of_mem hn
    obtain ⟨c, c', h1, h2, _⟩ := hlent j n (by rw [List.getElem?_eq_getElem hj, e])
    exact ⟨c, h1, h2⟩
  obtain ⟨sT, sF, sI⟩ := call_stays h hlive hfr
  have hat : ∀ (j : Nat) (c' : AV), bs[j]? = some c' → ∃ n c, ns[j]? = some n ∧ hp n = some c ∧ c.live = true ∧ c.ren (fun n => placeN n ns) = some c' := fun j c' hc' => by
    have hj : j < ns.length := by
      rcases Nat.lt_or_ge j bs.length with h' | h'
      · omega
      · simp [List.getElem?_eq_none h'] at hc'
    obtain ⟨c, c'', h1, h2, h3, h4⟩ := hlent j _ (List.getElem?_eq_getElem hj)
    rw [hc'] at h4; cases h4
    exact ⟨_, c, List.getElem?_eq_getElem hj, h1, h2, h3⟩
  refine { rheap := ?_, inj := ?_, imm := ?_, imle := ?_, pers := fun g j v hv => hv, new := fun g j v hv => .inl hv, imm0 := ?_, below := BelowL.refl _ _ _, shp := ?_, fixed := fun j q hj _ => (by simp only [iniOf] at hj; split at hj <;> simp at hj; subst hj; exact ⟨rfl, rfl, rfl⟩), gone := ?_, newn := fun j c' hc' hl' hj hk => ?_ }
  rotate_left 7
  · obtain ⟨n, c, hn, hc, hl, hr⟩ := hat j c' hc'
    have h1 := (newN_iff.1 hj).1
    have h2 : j < ns.length := by
      rcases Nat.lt_or_ge j ns.length with h' | h'
      · exact h'
      · simp [List.getElem?_eq_none h'] at hn
    omega
  · intro j c' hc' hl'
    obtain ⟨n, c, hn, hc, hl, hr⟩ := hat j c' hc'
    obtain ⟨g1, g2⟩ := h.rheap n c hc hl
    have hrow := (ren_agg hr).2.2.2
    have hin : n ∈ ns := List.mem_of_getElem? hn
    refine ⟨fun k hk => by simp only [calEmb, hn]; exact g1 k (by rw [← hrow]; exact hk), ?_⟩
    rcases g2 with ⟨k1, s, rfl⟩ | ⟨xs, T, k1, k2, k3, k4, k5⟩
    · simp only [AV.ren, Option.some.injEq] at hr
      exact .inl ⟨by simp only [calEmb, hn]; exact k1, s, hr.symm⟩
    · refine .inr ⟨xs, T, by simp only [calEmb, hn]; exact k1, by simp only [calEmb, hn]; exact k2, k3.ren call_names sT (.inr sF) hr, fun f j' _ => ?_, .inr ?_⟩
      · cases f with
        | true => simp only [calEmb, hn]; exact k4 true j' (fun h => absurd h (by simp [hfr n hin]))
        | false =>
          simp only [calEmb, hn]
          rw [if_pos ⟨n, hin, by simp [k1], rfl⟩]
      · refine (call_lent hd _).2 ⟨n, hin, by simp [k1], ?_⟩
        simp only [calEmb, hn]
  · intro j j' c c' h1 h2 l1 l2 k1 k2 e
    obtain ⟨n, u, hn, hu, hl, _⟩ := hat j c h1
    obtain ⟨n', u', hn', hu', hl', _⟩ := hat j' c' h2
    simp only [calEmb, hn, hn'] at k1 k2 e
    have := h.inj n n' u u' hu hu' hl hl' k1 k2 e
    subst this
    exact nodupN_inj hd j j' n hn hn'
  · intro f g j v hv
    cases f with
    | true => exact h.imm true g j v hv
    | false =>
      simp only [calEmb] at hv
      split at hv
      · cases hv
      · exact cellOf_of hv
  · intro g j v hv
    exact sI.1 true g j v hv
  · intro g c T fz hL hg j v hv
    simp only [calEmb]
    rw [if_neg (fun hh => hL ((call_lent hd g).2 hh))]
    have hg' : w.heap[g]? = some (.cells c T fz) := hg
    rw [cellOf_cells hg']
    exact hv
  · intro j c' hc'
    obtain ⟨n, c, hn, hc, hl, hr⟩ := hat j c' hc'
    refine ren_named (ok := fun _ => true) (fun n m hm _ => ?_) hr (named_true c)
    have := placeN_some hm
    have hm' : m < ns.length := by
      rcases Nat.lt_or_ge m ns.length with h' | h'
      · exact h'
      · simp [List.getElem?_eq_none h'] at this
    have : m < bs.length := by omega
    simp [hpOf, List.getElem?_eq_getElem this]
  · intro j k hc'
    obtain ⟨n, c, hn, hc, hl, hr⟩ := hat j _ hc'
    rw [← (ren_agg hr).2.2.1] at hl
    cases hl

/-- The callee's arguments. -/
theorem args_sound (h : Mem w0 E hp w) {ns : List Nat} (hlive : ∀ n, n ∈ ns → ∃ c, hp n = some c ∧ c.live = true) (hfr : ∀ n, n ∈ ns → froN n = false) {ok : Nat → Bool} (hok : ∀ j, j < ns.length → ok j = true) :
    ∀ {ms : List Bool} {l l' : List AV} {vs : List Value}, argsK hp (fun n => placeN n ns) ms l some = some l' → (l.length = vs.length) → (∀ (i : Nat) (v : AV) (x : Value), l[i]? = some v → vs[i]? = some x → Rep E v x) →
      Rep1s (calEmb E ns w) l' vs ∧ AV.nameds ok l' = true
  | ms, [], l', vs, hi, hlen, hr => by
    have : l' = [] := by unfold argsK at hi; simp at hi; exact hi
    subst this
    cases vs with
    | nil => exact ⟨rfl, rfl⟩
    | cons => simp at hlen
  | ms, v :: l, l', vs, hi, hlen, hr => by
    obtain ⟨sT, sF, sI⟩ := call_stays h hlive hfr
    cases vs with
    | nil => simp at hlen
    | cons x vs =>
      have hx : Rep E v x := hr 0 v x rfl rfl
      have rest : ∀ {ms' : List Bool} {l1 : List AV}, argsK hp (fun n => placeN n ns) ms' l some = some l1 → Rep1s (calEmb E ns w) l1 vs ∧ AV.nameds ok l1 = true :=
        fun hi' => args_sound h hlive hfr hok hi' (by simpa using hlen) (fun i u y hu hy => hr (i + 1) u y (by simpa using hu) (by simpa using hy))
      have himm : ∀ {ms' : List Bool}, (immK (maskN (fun n => placeN n ns) hp) v fun v' => argsK hp (fun n => placeN n ns) ms' l fun l' => some (v' :: l')) = some l' → Rep1s (calEmb E ns w) l' (x :: vs) ∧ AV.nameds ok l' = true := by
        intro ms' hi
        rw [immK_eq] at hi
        cases h1 : immK (maskN (fun n => placeN n ns) hp) v some with
        | none => rw [h1] at hi; cases hi
        | some v1 =>
          rw [h1] at hi
          simp only [Option.bind_some] at hi
          rw [argsK_eq] at hi
          cases h2 : argsK hp (fun n => placeN n ns) ms' l some with
          | none => rw [h2] at hi; cases hi
          | some l1 =>
            rw [h2] at hi
            simp at hi; subst hi
            obtain ⟨g1, g2, g3⟩ := immK_sound h mask_sub (call_opens h hlive hfr) h1 hx
            obtain ⟨g4, g5⟩ := rest h2
            exact ⟨⟨x, vs, rfl, g1, g2, g4⟩, by simp only [AV.nameds, Bool.and_eq_true]; exact ⟨g3 _, g5⟩⟩
      match ms, hi with
      | true :: ms, hi =>
        simp only [argsK] at hi
        split at hi
        · rename_i hpl
          simp only [Option.bind_eq_some_iff] at hi
          obtain ⟨v1, h1, hi⟩ := hi
          rw [argsK_eq] at hi
          cases h2 : argsK hp (fun n => placeN n ns) ms l some with
          | none => rw [h2] at hi; cases hi
          | some l1 =>
            rw [h2] at hi
            simp at hi; subst hi
            obtain ⟨g4, g5⟩ := rest h2
            have hx1 := (Rep.one hpl).1 hx
            refine ⟨⟨x, vs, rfl, by rw [(ren_agg h1).2.1]; exact hpl, hx1.ren call_names sT (.inr sF) h1, g4⟩, ?_⟩
            simp only [AV.nameds, Bool.and_eq_true]
            refine ⟨ren_named (ok := fun _ => true) (fun n m hm _ => hok m ?_) h1 (named_true v), g5⟩
            have := placeN_some hm
            rcases Nat.lt_or_ge m ns.length with h' | h'
            · exact h'
            · simp [List.getElem?_eq_none h'] at this
        · cases hi
      | false :: ms, hi => exact himm (by simpa only [argsK] using hi)
      | [], hi => exact himm (by simpa only [argsK] using hi)

theorem outK_spec {nb : Nat} {τ : Nat → Option Nat} : ∀ {out bs' : List (Nat × AV)}, outK hp nb τ out = some bs' →
    (∀ j c, (j, c) ∈ out → ∃ n c', τ j = some n ∧ c.ren τ = some c' ∧ c.live = true ∧ c.pers = true ∧ (j < nb ∨ hp n = none) ∧ (n, c') ∈ bs') ∧
    (∀ n c', (n, c') ∈ bs' → ∃ j c, (j, c) ∈ out ∧ τ j = some n ∧ c.ren τ = some c' ∧ c.live = true ∧ c.pers = true ∧ (j < nb ∨ hp n = none))
  | [], bs', h => by simp [outK] at h; subst h; exact ⟨fun _ _ h => (by cases h), fun _ _ h => (by cases h)⟩
  | (j, c) :: l, bs', h => by
    simp only [outK, Option.bind_eq_some_iff] at h
    obtain ⟨n, h1, c', h2, h3⟩ := h
    split at h3
    · rename_i hc
      simp only [Option.bind_eq_some_iff] at h3
      obtain ⟨r, h4, h5⟩ := h3
      simp at h5; subst h5
      simp only [Bool.and_eq_true, Bool.or_eq_true, Option.isNone_iff_eq_none] at hc
      obtain ⟨⟨⟨hl, hp'⟩, hj⟩, _⟩ := hc
      have hj' : j < nb ∨ hp n = none := hj.imp (fun h => by simpa using h) (fun h => h.1)
      obtain ⟨g1, g2⟩ := outK_spec h4
      refine ⟨fun j' u hu => ?_, fun n' u hu => ?_⟩
      · rcases List.mem_cons.1 hu with e | hu
        · cases e; exact ⟨n, c', h1, h2, hl, hp', hj', List.mem_cons_self⟩
        · obtain ⟨n', c'', k1, k2, k3, k4, k5, k6⟩ := g1 j' u hu
          exact ⟨n', c'', k1, k2, k3, k4, k5, List.mem_cons_of_mem _ k6⟩
      · rcases List.mem_cons.1 hu with e | hu
        · cases e; exact ⟨j, c, List.mem_cons_self, h1, h2, hl, hp', hj'⟩
        · obtain ⟨j', c'', k1, k2⟩ := g2 n' u hu
          exact ⟨j', c'', List.mem_cons_of_mem _ k1, k2⟩
    · cases h3

theorem outK_cls {nb : Nat} {τ : Nat → Option Nat} : ∀ {out bs' : List (Nat × AV)}, outK hp nb τ out = some bs' → ∀ j c n, (j, c) ∈ out → τ j = some n → j < nb ∨ (newN n = true → newN j = true)
  | [], bs', h, j, c, n, hin, _ => by cases hin
  | (j0, c0) :: l, bs', h, j, c, n, hin, ht => by
    simp only [outK, Option.bind_eq_some_iff] at h
    obtain ⟨n0, h1, c', h2, h3⟩ := h
    split at h3
    · rename_i hc
      simp only [Option.bind_eq_some_iff] at h3
      obtain ⟨r, h4, h5⟩ := h3
      rcases List.mem_cons.1 hin with e | hin
      · cases e
        rw [h1] at ht; cases ht
        simp only [Bool.and_eq_true, Bool.or_eq_true, Bool.not_eq_true'] at hc
        rcases hc.1.2 with h | h
        · exact .inl (by simpa using h)
        · refine .inr fun hn => ?_
          rcases h.2 with h | h
          · rw [hn] at h; cases h
          · exact h
      · exact outK_cls h4 j c n hin ht
    · cases h3

theorem outK_fro {nb : Nat} {τ : Nat → Option Nat} : ∀ {out bs' : List (Nat × AV)}, outK hp nb τ out = some bs' → ∀ j c, (j, c) ∈ out → froN j = false
  | [], bs', h, j, c, hin => by cases hin
  | (j0, c0) :: l, bs', h, j, c, hin => by
    simp only [outK, Option.bind_eq_some_iff] at h
    obtain ⟨n0, h1, c', h2, h3⟩ := h
    split at h3
    · rename_i hc
      simp only [Option.bind_eq_some_iff] at h3
      obtain ⟨r, h4, h5⟩ := h3
      rcases List.mem_cons.1 hin with e | hin
      · cases e
        simp only [Bool.and_eq_true, Bool.not_eq_true'] at hc
        exact hc.2
      · exact outK_fro h4 j c hin
    · cases h3

theorem backN_lt {ns : List Nat} {d : Option Nat} {j n : Nat} (h : backN ns d j = some n) (hj : j < ns.length) : ns[j]? = some n := by
  unfold backN at h
  rw [List.getElem?_eq_getElem hj] at h ⊢
  exact h

theorem backN_ge {ns : List Nat} {d : Option Nat} {j j' n : Nat} (h : backN ns d j = some n) (h' : backN ns d j' = some n) (hj : ns.length ≤ j) (hj' : ns.length ≤ j') : j = j' := by
  unfold backN at h h'
  rw [List.getElem?_eq_none hj] at h
  rw [List.getElem?_eq_none hj'] at h'
  cases d with
  | none => simp at h
  | some d => simp at h h'; omega

theorem backN_big {ns : List Nat} {d : Option Nat} {j n : Nat} (h : backN ns d j = some n) (hj : ns.length ≤ j) : 1000 ≤ n := by
  unfold backN at h
  rw [List.getElem?_eq_none hj] at h
  cases d with
  | none => simp at h
  | some d => simp at h; omega

open Classical in
/-- The block that has a new name behind the call. -/
noncomputable def newOf (nb : Nat) (τ : Nat → Option Nat) (out : List (Nat × AV)) (n : Nat) : Option Nat :=
  if h : ∃ j, nb ≤ j ∧ (lk j out).isSome = true ∧ τ j = some n then some (Classical.choose h) else none

/-- The caller's view behind the call. -/
noncomputable def endEmb (E E' : Emb) (w : World) (nb : Nat) (τ : Nat → Option Nat) (out : List (Nat × AV)) : Emb where
  ρ n := match newOf nb τ out n with | some j => E'.ρ j | none => E.ρ n
  cnt n := match newOf nb τ out n with | some j => E'.cnt j | none => E.cnt n
  len n := match newOf nb τ out n with | some j => E'.len j | none => E.len n
  im f g j := match f with
    | true => E'.im true g j
    | false => match E.im false g j with
      | some v => some v
      | none => if w.heap.size ≤ g then E'.im true g j else none

theorem newOf_some {nb : Nat} {τ : Nat → Option Nat} {out : List (Nat × AV)} {n j : Nat} (h : newOf nb τ out n = some j) : nb ≤ j ∧ (lk j out).isSome = true ∧ τ j = some n := by
  unfold newOf at h
  split at h
  · rename_i hh
    simp at h; subst h
    exact Classical.choose_spec hh
  · cases h

theorem newOf_none {nb : Nat} {τ : Nat → Option Nat} {out : List (Nat × AV)} {n : Nat} (h : newOf nb τ out n = none) : ¬ ∃ j, nb ≤ j ∧ (lk j out).isSome = true ∧ τ j = some n := by
  unfold newOf at h
  split at h
  · cases h
  · assumption

/-- **Behind a call.** -/
theorem call_end (h : Rel w0 E N env hp a w) {ns : List Nat} {bs : List AV} (hd : nodupN ns = true) (hfr : ∀ n, n ∈ ns → froN n = false) (hb : lentK hp (fun n => placeN n ns) ns some = some bs)
    {e : Entry} {r : e.ρ} {v : Value} {w' : World} (hnb : ns.length = e.nb) (hpost : CallPost e (calEmb E ns w) r w v w') {d : Option Nat} {vs : List AV} {bs' : List (Nat × AV)}
    (hvs : AV.rens (backN ns d) (e.enc r) = some vs) (hout : outK hp e.nb (backN ns d) (e.out r) = some bs') (hnd : nodupN (keysN bs') = true) (hpers : AV.perss (e.enc r) = true) :
    ∃ E', Rel w0 E' N env (updH hp (bs' ++ lostN ns)) a w' ∧ Rep E' (one vs) v ∧ (one vs).named (fun n => (updH hp (bs' ++ lostN ns) n).isSome) = true := by
  obtain ⟨E1, hm, hkeep, hrep, hnam⟩ := hpost
  rw [← hnb] at hout hm hkeep
  obtain ⟨hlen, hlent⟩ := lentK_spec hb
  have hlive : ∀ n, n ∈ ns → ∃ c, hp n = some c ∧ c.live = true := fun n hn => by
    obtain ⟨j, hj, e⟩ := List.getElem_of_mem hn
    obtain ⟨c, c', h1, h2, _⟩ := hlent j n (by rw [List.getElem?_eq_getElem hj, e])
    exact ⟨c, h1, h2⟩
  obtain ⟨o1, o2⟩ := outK_spec hout
  have hpersist : Stays true E E1 := fun g j v hv => hm.pers g j v hv
  -- no key twice
  have hout1 : ∀ j c, (j, c) ∈ e.out r → lk j (e.out r) = some c := by
    intro j c hj
    obtain ⟨n, c', k1, k2, _, _, _, k3⟩ := o1 j c hj
    -- the first with that key
    cases hl : lk j (e.out r) with
    | none =>
      exfalso
      have : ∀ {l : List (Nat × AV)}, (j, c) ∈ l → lk j l ≠ none := by
        intro l
        induction l with
        | nil => intro h; cases h
        | cons q l ih =>
          intro h hn
          obtain ⟨m, u⟩ := q
          simp only [lk] at hn
          cases hq : Nat.beq j m
          · rw [hq] at hn
            rcases List.mem_cons.1 h with e | h
            · cases e; simp at hq
            · exact ih h hn
          · rw [hq] at hn; cases hn
      exact this hj hl
    | some c2 =>
      have hj2 := lk_mem' hl
      obtain ⟨n2, c2', q1, q2, _, _, _, q3⟩ := o1 j c2 hj2
      rw [k1] at q1; cases q1
      have e1 := lk_nodup hnd k3
      have e2 := lk_nodup hnd q3
      rw [e1] at e2; cases e2
      -- the two have one renaming; they stand in two places only if a key is there twice
      have : ∀ {l : List (Nat × AV)} {b : List (Nat × AV)}, outK hp ns.length (backN ns d) l = some b → nodupN (keysN b) = true → (j, c) ∈ l → lk j l = some c := by
        intro l
        induction l with
        | nil => intro b _ _ h; cases h
        | cons q l ih =>
          intro b hb hn hin
          obtain ⟨m, u⟩ := q
          simp only [outK, Option.bind_eq_some_iff] at hb
          obtain ⟨nm, p1, cm, p2, p3⟩ := hb
          split at p3
          · simp only [Option.bind_eq_some_iff] at p3
            obtain ⟨r', p4, p5⟩ := p3
            simp at p5; subst p5
            simp only [keysN, nodupN, Bool.and_eq_true, Bool.not_eq_true'] at hn
            simp only [lk]
            rcases List.mem_cons.1 hin with e | hin3
            · cases e; simp
            · have hne : j ≠ m := fun e => by
                subst e
                obtain ⟨n3, c3, t1, _, _, _, _, t2⟩ := (outK_spec p4).1 j c hin3
                rw [p1] at t1; cases t1
                have := memN_iff.2 (keysN_mem t2)
                rw [this] at hn
                exact absurd hn.1 (by simp)
              rw [beq_no hne]
              exact ih p4 hn.2 hin3
          · cases p3
      rw [← hl]; exact this hout hnd hj
  let E2 := endEmb E E1 w ns.length (backN ns d) (e.out r)
  have hnew : ∀ j c, (j, c) ∈ e.out r → ∀ n, backN ns d j = some n → E2.ρ n = E1.ρ j ∧ E2.cnt n = E1.cnt j ∧ E2.len n = E1.len j := by
    intro j c hj n hn
    rcases Nat.lt_or_ge j ns.length with hlt | hge
    · have hk := hkeep j hlt
      have hns := backN_lt hn hlt
      obtain ⟨n', c', k1, _, _, _, k2, _⟩ := o1 j c hj
      rw [hn] at k1; cases k1
      have hno : newOf ns.length (backN ns d) (e.out r) n = none := by
        cases hq : newOf ns.length (backN ns d) (e.out r) n with
        | none => rfl
        | some j' =>
          obtain ⟨q1, q2, q3⟩ := newOf_some hq
          obtain ⟨c2, hc2⟩ := Option.isSome_iff_exists.1 q2
          obtain ⟨n2, _, t1, _, _, _, t2, _⟩ := o1 j' c2 (lk_mem' hc2)
          rw [q3] at t1; cases t1
          rcases t2 with t2 | t2
          · omega
          · obtain ⟨u, hu, _⟩ := hlive n (List.mem_of_getElem? hns)
            rw [t2] at hu; cases hu
      simp only [E2, endEmb, hno]
      simp only [calEmb, hns] at hk
      exact ⟨hk.1.symm, hk.2.1.symm, hk.2.2.symm⟩
    · cases hq : newOf ns.length (backN ns d) (e.out r) n with
      | none => exact absurd ⟨j, hge, by rw [hout1 j c hj]; rfl, hn⟩ (newOf_none hq)
      | some j' =>
        obtain ⟨q1, q2, q3⟩ := newOf_some hq
        have := backN_ge hn q3 hge q1
        subst this
        simp only [E2, endEmb, hq]
        exact ⟨trivial, trivial, trivial⟩
  have hold : ∀ n, (hp n).isSome = true → E2.ρ n = E.ρ n ∧ E2.cnt n = E.cnt n ∧ E2.len n = E.len n := by
    intro n hn
    have hno : newOf ns.length (backN ns d) (e.out r) n = none := by
      cases hq : newOf ns.length (backN ns d) (e.out r) n with
      | none => rfl
      | some j' =>
        obtain ⟨q1, q2, q3⟩ := newOf_some hq
        obtain ⟨c2, hc2⟩ := Option.isSome_iff_exists.1 q2
        obtain ⟨n2, _, t1, _, _, _, t2, _⟩ := o1 j' c2 (lk_mem' hc2)
        rw [q3] at t1; cases t1
        rcases t2 with t2 | t2
        · omega
        · rw [t2] at hn; cases hn
    simp only [E2, endEmb, hno]
    exact ⟨trivial, trivial, trivial⟩
  have himlt : ∀ f g j v, E.im f g j = some v → g < w.heap.size := fun f g j v hv => h.imlt hv
  have hle : E.Le E2 (fun n => (hp n).isSome) := ⟨fun n hn => (hold n hn).1, fun n hn => (hold n hn).2.1, fun n hn => (hold n hn).2.2, fun f g j v hv => by
    cases f with
    | true => exact hpersist g j v hv
    | false => simp only [E2, endEmb, hv]⟩
  have hsome : ∀ n, (hp n).isSome = true → (updH hp (bs' ++ lostN ns) n).isSome = true := fun n hn => updH_some hn
  -- what the new heap says
  have hheap : ∀ n c', updH hp (bs' ++ lostN ns) n = some c' → c' ≠ .undef → (∃ j c, (j, c) ∈ e.out r ∧ backN ns d j = some n ∧ c.ren (backN ns d) = some c' ∧ c.live = true ∧ c.pers = true ∧ (j < ns.length ∨ hp n = none)) ∨ (hp n = some c' ∧ n ∉ ns) := by
    intro n c' hc' hl'
    unfold updH at hc'
    rw [lk_append] at hc'
    cases hb' : lk n bs' with
    | some c2 =>
      rw [hb'] at hc'
      simp at hc'; subst hc'
      exact .inl (o2 n c2 (lk_mem' hb'))
    | none =>
      rw [hb'] at hc'
      simp only [lk_lost] at hc'
      cases hmem : memN n ns
      · rw [hmem] at hc'
        simp only [cond_false] at hc'
        exact .inr ⟨hc', fun hin => by rw [memN_iff.2 hin] at hmem; cases hmem⟩
      · rw [hmem] at hc'
        simp at hc'; subst hc'; exact absurd rfl hl'
  have hsize : w0.w.heap.size ≤ w.heap.size := h.below.size
  have hbel := hm.below
  have hlentL : ∀ g, lentL (calEmb E ns w) ns.length g ↔ isLent E ns g := fun g => call_lent hd g
  -- a block of the caller's own that was not lent
  have hkept : ∀ n c, hp n = some c → c.live = true → n ∉ ns → (E.cnt n).isSome = true → ¬ isLent E ns (E.ρ n) := by
    intro n c hc hl hn hk ⟨m, h1, h2, h3⟩
    obtain ⟨c', hc', hl'⟩ := hlive m h1
    have := h.inj m n c' c hc' hc hl' hl h2 hk h3
    subst this
    exact hn h1
  have hlentOwn : ∀ g, isLent E ns g → (w0.w.heap.size ≤ g ∨ w0.L g) ∧ g < w.heap.size := by
    rintro g ⟨m, h1, h2, rfl⟩
    obtain ⟨c', hc', hl'⟩ := hlive m h1
    obtain ⟨k, hk⟩ := Option.isSome_iff_exists.1 h2
    refine ⟨?_, h.toMem.lt hc' hl' hk⟩
    obtain ⟨_, ⟨q, _⟩ | ⟨xs, T, q1, q2, q3, q4, q5⟩⟩ := h.rheap m c' hc' hl'
    · rw [q] at h2; cases h2
    · exact q5
  -- where a block of the callee's is
  have hplace : ∀ j c, (j, c) ∈ e.out r → (E1.cnt j).isSome = true → (w.heap.size ≤ E1.ρ j ∨ isLent E ns (E1.ρ j)) := by
    intro j c hj hk
    obtain ⟨n', c', _, _, hl, _⟩ := o1 j c hj
    obtain ⟨_, ⟨q, _⟩ | ⟨xs, T, q1, q2, q3, q4, q5⟩⟩ := hm.rheap j c (hout1 j c hj) hl
    · rw [q] at hk; cases hk
    · exact q5.imp id (fun hh => (hlentL _).1 hh)
  have hmem : Mem w0 E2 (updH hp (bs' ++ lostN ns)) w' := by
    refine { rheap := ?_, inj := ?_, imm := ?_, imle := ?_, pers := ?_, new := ?_, imm0 := ?_, below := ?_, shp := ?_, fixed := ?_, gone := ?_, newn := ?_ }
    rotate_left 11
    · intro n c' hc' hl' hnn hk
      rcases hheap n c' hc' (live_ne hl') with ⟨j, c, hj, hn, hren, hl, hpe, hpl0⟩ | ⟨hc, hnot⟩
      · obtain ⟨n1, n2, n3⟩ := hnew j c hj n hn
        rcases Nat.lt_or_ge j ns.length with hlt | hge
        · have hns := backN_lt hn hlt
          have hkk := hkeep j hlt
          simp only [calEmb, hns] at hkk
          obtain ⟨c0, hc0, hl0⟩ := hlive n (List.mem_of_getElem? hns)
          rw [n1, hkk.1]
          exact h.newn n c0 hc0 hl0 hnn (by rw [← hkk.2.1, ← n2]; exact hk)
        · rcases outK_cls hout j c n hj hn with q | q
          · omega
          · rw [n1]
            exact Nat.le_trans hsize (hm.newn j c (hout1 j c hj) hl (q hnn) (by rw [← n2]; exact hk))
      · obtain ⟨p1, p2, p3⟩ := hold n (by simp [hc])
        rw [p1]; exact h.newn n c' hc hl' hnn (by rw [← p2]; exact hk)
    · intro n c' hc' hl'
      rcases hheap n c' hc' (live_ne hl') with ⟨j, c, hj, hn, hren, hl, hpe, hpl0⟩ | ⟨hc, hnn⟩
      · obtain ⟨n1, n2, n3⟩ := hnew j c hj n hn
        obtain ⟨g1, g2⟩ := hm.rheap j c (hout1 j c hj) hl
        refine ⟨fun k hk => by rw [n3]; exact g1 k (by rw [← (ren_agg hren).2.2.2]; exact hk), ?_⟩
        rcases g2 with ⟨k1, s, rfl⟩ | ⟨xs, T, k1, k2, k3, k4, k5⟩
        · simp only [AV.ren, Option.some.injEq] at hren
          exact .inl ⟨by rw [n2]; exact k1, s, hren.symm⟩
        · have hpl := hplace j c hj (by simp [k1])
          have k4 : ∀ f i, E1.im f (E1.ρ j) i = none := fun f i => k4 f i fun h => by rw [outK_fro hout j c hj] at h; cases h
          refine .inr ⟨xs, T, by rw [n2]; exact k1, by rw [n1]; exact k2, ?_, fun f i _ => ?_, ?_⟩
          · -- the content, by the caller's names
            let σ : Nat → Option Nat := fun q => if (lk q (e.out r)).isSome = true then backN ns d q else none
            have hσ : Names σ E1 E2 := fun q m hq => by
              simp only [σ] at hq
              split at hq
              · rename_i hs
                obtain ⟨cq, hcq⟩ := Option.isSome_iff_exists.1 hs
                exact hnew q cq (lk_mem' hcq) m hq
              · cases hq
            have hren' : c.ren σ = some c' := ren_on (hm.shp j c (hout1 j c hj)) hren
            exact k3.ren hσ (fun g i v hv => hv) (.inl hpe) hren'
          · rw [n1]
            cases f with
            | true => exact k4 true i
            | false =>
              simp only [E2, endEmb]
              have hz : E.im false (E1.ρ j) i = none := by
                rcases hpl with hge | hle'
                · cases hv : E.im false (E1.ρ j) i with
                  | none => rfl
                  | some v => have := himlt _ _ _ _ hv; omega
                · exact lent_own h.toMem hlive hfr hle' false i
              rw [hz]
              simp only
              split
              · exact k4 true i
              · rfl
          · rw [n1]
            rcases hpl with hge | hle'
            · left; omega
            · exact (hlentOwn _ hle').1
      · obtain ⟨p1, p2, p3⟩ := hold n (by simp [hc])
        obtain ⟨g1, g2⟩ := h.rheap n c' hc hl'
        refine ⟨fun k hk => by rw [p3]; exact g1 k hk, ?_⟩
        rcases g2 with ⟨k1, s, rfl⟩ | ⟨xs, T, k1, k2, k3, k4, k5⟩
        · exact .inl ⟨by rw [p2]; exact k1, s, rfl⟩
        · have hnl := hkept n c' hc hl' hnn (by simp [k1])
          have hlt := h.toMem.lt hc hl' k1
          refine .inr ⟨xs, T, by rw [p2]; exact k1, ?_, k3.mono hle (h.shp n c' hc), fun f i hfi => ?_, by rw [p1]; exact k5⟩
          · rw [p1, hbel.block _ hlt (fun hh => hnl ((hlentL _).1 hh))]; exact k2
          · rw [p1]
            have k4 := k4 f i hfi
            cases f with
            | true =>
              show E1.im true (E.ρ n) i = none
              cases hv : E1.im true (E.ρ n) i with
              | none => rfl
              | some v =>
                rcases hm.new _ _ _ hv with hI | hge
                · have : E.im true (E.ρ n) i = some v := hI
                  rw [k4] at this; cases this
                · have : w.heap.size ≤ E.ρ n := hge
                  omega
            | false =>
              simp only [E2, endEmb, k4]
              rw [if_neg (by omega)]
    · intro n m c1 c2 h1 h2 l1 l2 k1 k2 eq
      rcases hheap n c1 h1 (live_ne l1) with ⟨j, c, hj, hn, hren, hl, hpe, hpl0⟩ | ⟨hc, hnn⟩ <;> rcases hheap m c2 h2 (live_ne l2) with ⟨j', c', hj', hn', hren', hl', hpe', hfr'⟩ | ⟨hc', hnn'⟩
      · obtain ⟨a1, a2, _⟩ := hnew j c hj n hn
        obtain ⟨b1, b2, _⟩ := hnew j' c' hj' m hn'
        rw [a1, b1] at eq
        rw [a2] at k1; rw [b2] at k2
        have := hm.inj j j' c c' (hout1 j c hj) (hout1 j' c' hj') hl hl' k1 k2 eq
        subst this
        rw [hn] at hn'; cases hn'; rfl
      · exfalso
        obtain ⟨a1, a2, _⟩ := hnew j c hj n hn
        obtain ⟨b1, b2, _⟩ := hold m (by simp [hc'])
        rw [a1, b1] at eq
        rw [a2] at k1; rw [b2] at k2
        obtain ⟨q, hq⟩ := Option.isSome_iff_exists.1 k2
        have := h.toMem.lt hc' l2 hq
        rcases hplace j c hj k1 with hge | hle'
        · omega
        · rw [eq] at hle'; exact hkept m c2 hc' l2 hnn' k2 hle'
      · exfalso
        obtain ⟨a1, a2, _⟩ := hnew j' c' hj' m hn'
        obtain ⟨b1, b2, _⟩ := hold n (by simp [hc])
        rw [a1, b1] at eq
        rw [a2] at k2; rw [b2] at k1
        obtain ⟨q, hq⟩ := Option.isSome_iff_exists.1 k1
        have := h.toMem.lt hc l1 hq
        rcases hplace j' c' hj' k2 with hge | hle'
        · omega
        · rw [← eq] at hle'; exact hkept n c1 hc l1 hnn k1 hle'
      · obtain ⟨a1, a2, _⟩ := hold n (by simp [hc])
        obtain ⟨b1, b2, _⟩ := hold m (by simp [hc'])
        rw [a1, b1] at eq
        rw [a2] at k1; rw [b2] at k2
        exact h.inj n m c1 c2 hc hc' l1 l2 k1 k2 eq
    · intro f g j v hv
      have hE : ∀ f', E.im f' g j = some v → ∃ c T fz, w'.heap[g]? = some (.cells c T fz) ∧ c[j]? = some v := fun f' hv => by
        obtain ⟨c, T, fz, h1, h2⟩ := h.imm f' g j v hv
        refine ⟨c, T, fz, ?_, h2⟩
        rw [hbel.block g (himlt _ _ _ _ hv) (fun hh => by have := lent_own h.toMem hlive hfr ((hlentL g).1 hh) f' j; rw [this] at hv; cases hv)]
        exact h1
      cases f with
      | true => exact hm.imm true g j v hv
      | false =>
        simp only [E2, endEmb] at hv
        split at hv
        · rename_i v' hv'
          cases hv
          exact hE false hv'
        · split at hv
          · exact hm.imm true g j v hv
          · cases hv
    · intro g j v hv
      have hv' : E1.im true g j = some v := hv
      simp only [E2, endEmb]
      rcases hm.new g j v hv' with hI | hge
      · have hI' : E.im true g j = some v := hI
        rw [h.imle g j v hI']
      · have hge' : w.heap.size ≤ g := hge
        cases hz : E.im false g j with
        | none => simp only [if_pos hge']; exact hv'
        | some u => have := himlt _ _ _ _ hz; omega
    · intro g j v hv
      exact hpersist g j v (h.pers g j v hv)
    · intro g j v hv
      rcases hm.new g j v hv with hI | hge
      · exact h.new g j v hI
      · have hge' : w.heap.size ≤ g := hge
        exact .inr (Nat.le_trans hsize hge')
    · intro g c T fz hL hg j v hv
      have := h.imm0 g c T fz hL hg j v hv
      simp only [E2, endEmb, this]
    · refine h.below.trans ⟨hbel.os, hbel.tape, hbel.output, hbel.size, fun k hk hL => hbel.block k (Nat.lt_of_lt_of_le hk hsize) (fun hh => ?_)⟩
      rcases (hlentOwn k ((hlentL k).1 hh)).1 with q | q
      · omega
      · exact hL q
    · intro n c' hc'
      by_cases hl' : c' ≠ .undef
      · rcases hheap n c' hc' hl' with ⟨j, c, hj, hn, hren, hl, hpe, hpl0⟩ | ⟨hc, hnn⟩
        · refine ren_named (ok := fun q => (lk q (e.out r)).isSome) (fun q m hq hok => ?_) hren (hm.shp j c (hout1 j c hj))
          obtain ⟨cq, hcq⟩ := Option.isSome_iff_exists.1 hok
          obtain ⟨n2, c2, t1, _, _, _, _, t2⟩ := o1 q cq (lk_mem' hcq)
          rw [hq] at t1; cases t1
          unfold updH
          rw [lk_append, lk_nodup hnd t2]
          rfl
        · exact AV.named_mono hsome (h.shp n c' hc)
      · have : c' = .undef := Classical.not_not.1 hl'
        subst this; rfl
    · intro j q hj hl
      have hno : newOf ns.length (backN ns d) (e.out r) j = none := by
        cases hq : newOf ns.length (backN ns d) (e.out r) j with
        | none => rfl
        | some j' =>
          obtain ⟨q1, q2, q3⟩ := newOf_some hq
          have := backN_big q3 q1
          omega
      simp only [E2, endEmb, hno]
      exact h.fixed j q hj hl
    · intro n k hc'
      rcases hheap n _ hc' (fun e => by cases e) with ⟨j, c, hj, hn, hren, hl, hpe, hpl0⟩ | ⟨hc, hnn⟩
      · rw [← (ren_agg hren).2.2.1] at hl
        cases hl
      · rw [h.gone n k hc, hle.len n (by rw [hc]; rfl)]
  refine ⟨E2, h.mem hle hsome hmem, ?_, ?_⟩
  · -- the results
    have hσ : Names (fun q => if (lk q (e.out r)).isSome = true then backN ns d q else none) E1 E2 := fun q m hq => by
      simp only at hq
      split at hq
      · rename_i hs
        obtain ⟨cq, hcq⟩ := Option.isSome_iff_exists.1 hs
        exact hnew q cq (lk_mem' hcq) m hq
      · cases hq
    exact Rep.ren hσ (fun g i v hv => hv) (.inl (one_pers hpers)) (ren_on hnam (one_ren hvs)) hrep
  · refine ren_named (ok := fun q => (lk q (e.out r)).isSome) (fun q m hq hok => ?_) (one_ren hvs) hnam
    obtain ⟨cq, hcq⟩ := Option.isSome_iff_exists.1 hok
    obtain ⟨n2, c2, t1, _, _, _, _, t2⟩ := o1 q cq (lk_mem' hcq)
    rw [hq] at t1; cases t1
    unfold updH
    rw [lk_append, lk_nodup hnd t2]
    rfl
end
end
end Go.Sy
