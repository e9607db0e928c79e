/- Calls. -/
import Derived.Test.YtapnedegcnmhgaaDoorSyLc
set_option linter.unusedVariables false
set_option linter.unusedSimpArgs false
namespace Go.Sy
open Go Go.RowKit

section
variable {cx : Cx} {G : Ini → Prop} {w0 : Ini} {E : Emb} {N : Nat} {env hp : Nat → Option AV} {a : Act} {w : World} {o : Oper}

/-- A call whose arguments, lent blocks and answers are read. -/
theorem call_core (hc : CxOk cx G) (hG : G w0) (h : Rel w0 E N env hp a w) {g : Nat} {e : Entry} {vals : Array Value} (hrun : (execOp a.eval o).run cx.P w = (callFunc g vals).run cx.P w)
    (he : cx.calls g = some e) {ns : List Nat} {args args' bs : List AV} (hargs : args.length = vals.size) (hrep : ∀ (i : Nat) (v : AV) (x : Value), args[i]? = some v → vals.toList[i]? = some x → Rep E v x)
    (hnb : ns.length = e.nb) (hsm : ns.length ≤ 1000) (hfr : ∀ n, n ∈ ns → froN n = false) (hd : nodupN ns = true) (ha : argsK hp (fun n => placeN n ns) e.modes args some = some args') (hb : lentK hp (fun n => placeN n ns) ns some = some bs)
    {x : e.α} (hx : e.dec args' bs = some x) {r : e.ρ} (hF : e.F x = some r) {d : Option Nat} {vs : List AV} {bs' : List (Nat × AV)}
    (hvs : AV.rens (backN ns d) (e.enc r) = some vs) (hout : outK hp e.nb (backN ns d) (e.out r) = some bs') (hnd : nodupN (keysN bs') = true) (hpers : AV.perss (e.enc r) = true) :
    GoodB cx.P o w0 N env hp (e.pan r) (one vs) (bs' ++ lostN ns) a w := by
  obtain ⟨hlen, hlent⟩ := lentK_spec hb
  have hlive : ∀ n, n ∈ ns → ∃ c, hp n = some c ∧ c.live = true := fun n hn => by
    obtain ⟨j, hj, e⟩ := List.getElem_of_mem hn
    obtain ⟨c, c', h1, h2, _⟩ := hlent j n (by rw [List.getElem?_eq_getElem hj, e])
    exact ⟨c, h1, h2⟩
  have hbegin := call_begin h.toMem hd hsm hfr hb
  rw [hnb] at hbegin
  have hGc : G (iniOf (calEmb E ns w) e.nb w) := hc.keep w0 E hp w _ _ _ hG h.toMem fun g hg => by
    rw [← hnb] at hg
    obtain ⟨n, h1, h2, h3⟩ := (call_lent hd g).1 hg
    obtain ⟨c, hc1, hl1⟩ := hlive n h1
    exact ⟨n, c, hc1, hl1, h2, h3, hfr n h1⟩
  obtain ⟨g1, g2⟩ := args_sound h.toMem hlive hfr (ok := fun n => (hpOf bs n).isSome) (fun j hj => by
    have : j < bs.length := by omega
    simp [hpOf, List.getElem?_eq_getElem this]) ha (by simp [hargs]) hrep
  have hbl : ∀ c ∈ bs, c.live = true := fun c' hc' => by
    obtain ⟨j, hj, e⟩ := List.getElem_of_mem hc'
    obtain ⟨c, c'', h1, h2, h3, h4⟩ := hlent j _ (List.getElem?_eq_getElem (by omega))
    rw [List.getElem?_eq_getElem hj] at h4
    simp at h4
    rw [← e, h4, (ren_agg h3).2.2.1]; exact h2
  have hpost : ∀ v w', CallPost e (calEmb E ns w) r w v w' → ∀ (X : Value → World → Prop), (∀ E' x w', Rel w0 E' N env (updH hp (bs' ++ lostN ns)) a w' → Rep E' (one vs) x → (one vs).named (fun n => (updH hp (bs' ++ lostN ns) n).isSome) = true → X x w') → X v w' := by
    intro v w' hp' X k
    obtain ⟨E', k1, k2, k3⟩ := call_end h hd hfr hb hnb hp' hvs hout hnd hpers
    exact k E' v w' k1 k2 k3
  rcases (hc.calls g e he).2 w _ x r args' bs _ hGc hbegin (by omega) hbl hx hF g1 g2 with ⟨h2, h3⟩ | ⟨hpan, v, w', h2, h3⟩
  · intro next Q k
    unfold Oper.wp
    rw [hrun, h2, Oper.upon_enter]
    refine h3.mono fun en w' ⟨v, hv, hp'⟩ => ?_
    subst hv
    have := hpost v w' hp' (fun x w' => cond (e.pan r) (Q (.panic [{ v := x, recovered := false }]) a w') (next (a.put o.dst x) w')) k
    cases hb : e.pan r <;> rw [hb] at this <;> exact this
  · intro next Q k
    unfold Oper.wp
    rw [hrun, h2, Oper.upon_value]
    have := hpost v w' h3 (fun x w' => cond (e.pan r) (Q (.panic [{ v := x, recovered := false }]) a w') (next (a.put o.dst x) w')) k
    rw [hpan] at this
    exact this

theorem caps_rep {E : Emb} : ∀ {l : List AV} {vs : List Value}, capsOK l = true → RepCs E l vs → l.length = vs.length ∧ ∀ (i : Nat) (v : AV) (x : Value), l[i]? = some v → vs[i]? = some x → Rep E v x
  | [], vs, _, h => by
    have : vs = [] := h
    subst this
    exact ⟨rfl, fun i v x hv => by simp at hv⟩
  | u :: l, vs, hc, h => by
    simp only [capsOK, Bool.and_eq_true, Bool.not_eq_true'] at hc
    simp only [RepCs] at h
    obtain ⟨xs, ys, e, h1, h2⟩ := h
    subst e
    have hx : ∃ x, xs = [x] := by
      have hl := h1.length
      have hs : u.size = 1 := by
        obtain ⟨⟨hp, ha⟩, _⟩ := hc
        exact size_scalar hp ha
      match xs, hl with
      | [x], _ => exact ⟨x, rfl⟩
      | [], hl => simp [hs] at hl
      | _ :: _ :: _, hl => simp [hs] at hl
    obtain ⟨x, rfl⟩ := hx
    obtain ⟨g1, g2⟩ := caps_rep hc.2 h2
    refine ⟨by simp [g1], fun i v y hv hy => ?_⟩
    cases i with
    | zero =>
      simp at hv hy
      subst hv; subst hy
      exact (Rep.one hc.1.1).2 (Rep1.of_cells1 hc.1.2 h1)
    | succ i => exact g2 i v y (by simpa using hv) (by simpa using hy)

theorem pb_some {c b : Bool} {u v : AV} {γ δ : List (Nat × AV)} (h : cond c (PB true u γ) (PB false u γ) = some (b, v, δ)) : b = c ∧ v = u ∧ δ = γ := by
  cases c <;> simp [PB] at h <;> exact ⟨h.1, h.2.1.symm, h.2.2.symm⟩

theorem good_callB (hc : CxOk cx G) (hG : G w0) (h : Rel w0 E N env hp a w) {c : Call} {fop : Operand} {g : Nat} {b : Bool} {v : AV} {d : Option Nat} {δ : List (Nat × AV)} {caps : List AV} {cv : Array Value} (hop : o.op = .call c) (hcal : c.callee = .value fop)
    (hf : a.eval fop = .func (.func g) #[] cv) (hcp : capsOK caps = true) (hcv : RepCs E caps cv.toList)
    (hk : callF cx hp d g ((c.args.toList.zipIdx.map fun p => ev cx env (c.argTypes.getD p.2 0) p.1) ++ caps) = some (b, v, δ)) : GoodB cx.P o w0 N env hp b v δ a w := by
  obtain ⟨hcl, hcr⟩ := caps_rep hcp hcv
  have hrun : (execOp a.eval o).run cx.P w = (callFunc g (c.args.map a.eval ++ cv)).run cx.P w := by
    simp [execOp, hop, resolve, hcal, hf, Deferred.ofValue, invoke]
  have hl0 : (c.args.toList.zipIdx.map fun p => ev cx env (c.argTypes.getD p.2 0) p.1).length = c.args.size := by simp
  have hrep : ∀ (i : Nat) (v : AV) (y : Value), ((c.args.toList.zipIdx.map fun p => ev cx env (c.argTypes.getD p.2 0) p.1) ++ caps)[i]? = some v → (c.args.map a.eval ++ cv).toList[i]? = some y → Rep E v y := by
    intro i v y hv hy
    rw [Array.toList_append] at hy
    rcases Nat.lt_or_ge i c.args.size with hi | hi
    · rw [List.getElem?_append_left (by omega)] at hv
      rw [List.getElem?_append_left (by simpa using hi)] at hy
      simp only [List.getElem?_map, List.getElem?_zipIdx, Array.toList_map, Option.map_map] at hv hy
      cases hq : c.args.toList[i]? with
      | none => rw [hq] at hv; cases hv
      | some q =>
        rw [hq] at hv hy
        simp at hv hy
        subst hv; subst hy
        exact (ev_sound hc hG h _ q).1
    · rw [List.getElem?_append_right (by omega), hl0] at hv
      rw [List.getElem?_append_right (by simpa using hi)] at hy
      exact hcr _ v y hv (by simpa using hy)
  have hlen : ((c.args.toList.zipIdx.map fun p => ev cx env (c.argTypes.getD p.2 0) p.1) ++ caps).length = (c.args.map a.eval ++ cv).size := by
    rw [List.length_append, hl0, hcl]; simp
  generalize ((c.args.toList.zipIdx.map fun p => ev cx env (c.argTypes.getD p.2 0) p.1) ++ caps) = args at *
  generalize c.args.map a.eval ++ cv = vals at *
  unfold callF callG at hk
  simp only [Entry.elim_eq] at hk
  split at hk
  · rename_i e he
    split at hk
    · rename_i hq
      obtain ⟨q1, q2⟩ := (hc.calls g e he).1 hq
      rw [argsK_eq] at hk
      cases h1 : argsK hp (fun _ => none) e.modes args some with
      | none => rw [h1] at hk; cases hk
      | some args' =>
        rw [h1] at hk
        simp only [Option.bind_some] at hk
        split at hk
        · rename_i x hx
          cases hF : e.F x with
          | none => rw [hF] at hk; cases hk
          | some r =>
            rw [hF] at hk
            simp only [Option.bind_some] at hk
            split at hk
            · rename_i hpers
              obtain ⟨rfl, rfl, rfl⟩ := pb_some hk
              -- the results name nothing: by the contract, at any view
              intro next Q k
              have hnm : AV.nameds (fun _ => false) (e.enc r) = true ∨ ¬ AV.nameds (fun _ => false) (e.enc r) = true := Decidable.em _
              rcases hnm with hnm | hnm
              · exact call_core (ns := []) (bs := []) (bs' := []) hc hG h hrun he hlen hrep (by simp [q1]) (Nat.zero_le _) (fun _ h => by cases h) rfl h1 rfl hx hF (d := none) (rens_self hnm) (by rw [q2]; rfl) rfl hpers next Q k
              · -- then the contract cannot be kept
                obtain ⟨g1, g2⟩ := args_sound (ns := []) h.toMem (fun n hn => by cases hn) (fun n hn => by cases hn) (ok := fun n => (hpOf [] n).isSome) (fun j hj => by cases hj) h1 (by simp [hlen]) hrep
                have hbegin := call_begin (ns := []) (bs := []) h.toMem rfl (Nat.zero_le _) (fun _ h => by cases h) rfl
                have hGc : G (iniOf (calEmb E [] w) e.nb w) := hc.keep w0 E hp w _ _ _ hG h.toMem fun g hg => by
                  obtain ⟨j, hj, _⟩ := hg; rw [q1] at hj; cases hj
                have hno : ∀ v w', ¬ CallPost e (calEmb E [] w) r w v w' := by
                  rintro v w' ⟨E', _, _, _, hn⟩
                  rw [q2] at hn
                  have hn' : (one (e.enc r)).named (fun _ => false) = true := hn
                  apply hnm
                  revert hn'
                  generalize e.enc r = l
                  intro hn'
                  match l with
                  | [] => rfl
                  | [v] => simpa [AV.nameds, one] using hn'
                  | v :: u :: l => simpa [one, AV.named] using hn'
                have hbegin' : Mem (iniOf (calEmb E [] w) e.nb w) (calEmb E [] w) (hpOf []) w := by rw [q1]; exact hbegin
                rcases (hc.calls g e he).2 w _ x r args' [] _ hGc hbegin' (by simp [q1]) (fun _ h => by cases h) hx hF g1 g2 with ⟨h2, h3⟩ | ⟨_, v, w', h2, h3⟩
                · unfold Oper.wp
                  rw [hrun, h2, Oper.upon_enter]
                  refine h3.mono fun en w' ⟨v, hv, hp'⟩ => ?_
                  exact absurd hp' (hno _ _)
                · exact absurd h3 (hno _ _)
            · cases hk
        · cases hk
    · rw [callB_def] at hk
      split at hk
      · rename_i hc0
        simp only [Bool.and_eq_true] at hc0
        have hnb := Nat.eq_of_beq_eq_true hc0.1
        generalize reachN hp 40 (AV.namess (asIs e.modes args)) [] = ns at *
        rw [argsK_eq] at hk
        cases h1 : argsK hp (fun n => placeN n ns) e.modes args some with
        | none => rw [h1] at hk; cases hk
        | some args' =>
          rw [h1] at hk
          simp only [Option.bind_some] at hk
          rw [lentK_eq] at hk
          cases h2 : lentK hp (fun n => placeN n ns) ns some with
          | none => rw [h2] at hk; cases hk
          | some bs =>
            rw [h2] at hk
            simp only [Option.bind_some] at hk
            split at hk
            · rename_i x hx
              cases hF : e.F x with
              | none => rw [hF] at hk; cases hk
              | some r =>
                rw [hF] at hk
                simp only [Option.bind_some] at hk
                split at hk
                · rename_i vs bs' hvs hout
                  split at hk
                  · rename_i hfin
                    simp only [Bool.and_eq_true] at hfin
                    obtain ⟨rfl, rfl, rfl⟩ := pb_some hk
                    exact call_core hc hG h hrun he hlen hrep hnb (Nat.le_of_ble_eq_true hc0.2.2.1) (fun n hn => by have := List.all_eq_true.1 hc0.2.2.2 n hn; simpa using this) hc0.2.1 h1 h2 hx hF hvs hout hfin.1 hfin.2
                  · cases hk
                · cases hk
            · cases hk
      · cases hk
  · cases hk

theorem good_call (hc : CxOk cx G) (hG : G w0) (h : Rel w0 E N env hp a w) {c : Call} {fop : Operand} {g : Nat} {v : AV} {d : Option Nat} {δ : List (Nat × AV)} {caps : List AV} {cv : Array Value} (hop : o.op = .call c) (hcal : c.callee = .value fop)
    (hf : a.eval fop = .func (.func g) #[] cv) (hcp : capsOK caps = true) (hcv : RepCs E caps cv.toList)
    (hk : callK cx hp d g ((c.args.toList.zipIdx.map fun p => ev cx env (c.argTypes.getD p.2 0) p.1) ++ caps) P2 = some (v, δ)) : Good cx.P o w0 N env hp v δ a w := by
  unfold callK at hk
  rw [callG_eq] at hk
  cases hq : callF cx hp d g ((c.args.toList.zipIdx.map fun p => ev cx env (c.argTypes.getD p.2 0) p.1) ++ caps) with
  | none => rw [hq] at hk; cases hk
  | some p =>
    rw [hq] at hk
    obtain ⟨b, u, γ⟩ := p
    simp only [Option.bind_some] at hk
    cases b with
    | true => cases hk
    | false =>
      simp only [cond_false, P2, Option.some.injEq, Prod.mk.injEq] at hk
      obtain ⟨rfl, rfl⟩ := hk
      exact good_callB hc hG h hop hcal hf hcp hcv hq
end
end Go.Sy
