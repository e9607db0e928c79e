/- Slices and strings among a law's arguments. -/
import Derived.Test.YtapnedegcnmhgaaDoorSyX
import Derived.Deep.Slices
set_option linter.unusedVariables false
set_option linter.unusedSimpArgs false
namespace Go.Sy
open Go Go.RowKit Go.ChangeShapes Go.WideShapes

section
variable {H : Type} {enc : TypeId × Value → H} {P : Program} {base : Nat} {sp : Nat → Bool} {held : Bool} {W : World}

/-- An element's bytes. -/
def Sh.wt : Sh → Nat
  | .int .u8 => 1
  | .u256 => 32
  | .pt => 72
  | _ => 0

def elemFit (P : Program) : Sh → TypeId → Bool
  | .int .u8, e => Nat.beq (P.cellsOf e) 1 && Nat.beq (P.bytesOf e) 1 && patFits P (.int .u8) e
  | .u256, e => Nat.beq (P.cellsOf e) 4 && Nat.beq (P.bytesOf e) 32 && u256Fit P e
  | .pt, e => Nat.beq (P.cellsOf e) 9 && Nat.beq (P.bytesOf e) 72 && patFits P (.st [.u256, .u256, .bool]) e
  | _, _ => false

def okSh : (s : Sh) → s.T → Bool
  | .int k, n => okInt k n
  | .u256, x => Nat.blt x M256
  | .pt, p => Nat.blt p.1 M256 && Nat.blt p.2.1 M256
  | _, _ => true

theorem elem_open {E : Emb} : ∀ {s : Sh} {e : TypeId}, elemFit P s e = true → ∀ {fuel : Nat} {cs : List Value} {x : DataW H × List MemPlace}, DataW.trod enc P W base sp held fuel e cs = some x →
    P.cellsOf e = s.size ∧ P.bytesOf e = s.wt ∧ ∃ y : s.T, Rc E s y cs ∧ okSh s y = true
  | .int .u8, e, hf, fuel, cs, x, h => by
    simp only [elemFit, Bool.and_eq_true] at hf
    obtain ⟨⟨h1, h2⟩, h3⟩ := hf
    obtain ⟨y, g1, g2⟩ := trod_open (E := E) (.int .u8) e h3 fuel cs x h
    exact ⟨Nat.eq_of_beq_eq_true h1, Nat.eq_of_beq_eq_true h2, y, by simp only [Pat.enc, RepC] at g1; exact g1, g2⟩
  | .u256, e, hf, fuel, cs, x, h => by
    simp only [elemFit, Bool.and_eq_true] at hf
    obtain ⟨⟨h1, h2⟩, h3⟩ := hf
    obtain ⟨y, g1, g2⟩ := trod_u256 h3 h
    exact ⟨Nat.eq_of_beq_eq_true h1, Nat.eq_of_beq_eq_true h2, y, g1, by simpa [okSh] using g2⟩
  | .pt, e, hf, fuel, cs, x, h => by
    simp only [elemFit, Bool.and_eq_true] at hf
    obtain ⟨⟨h1, h2⟩, h3⟩ := hf
    obtain ⟨y, g1, g2⟩ := trod_open (E := E) (.st [.u256, .u256, .bool]) e h3 fuel cs x h
    refine ⟨Nat.eq_of_beq_eq_true h1, Nat.eq_of_beq_eq_true h2, y, ?_, ?_⟩
    · obtain ⟨a, b, rfl, ha, c, d, rfl, hc, f, g, rfl, hf, hg⟩ := g1
      simp only [RepC, RepCs] at ha hc hf hg
      simp only [Rc]
      rw [ha, hc, hf, hg]
      simp
    · simp only [Pat.okV, Pat.oksV, Bool.and_eq_true] at g2
      simp only [okSh, Bool.and_eq_true]
      exact ⟨g2.1, g2.2.1⟩
  | .int .i8, _, hf, _, _, _, _ | .int .i16, _, hf, _, _, _, _ | .int .i32, _, hf, _, _, _, _ | .int .i64, _, hf, _, _, _, _ | .int .u16, _, hf, _, _, _, _ | .int .u32, _, hf, _, _, _, _ | .int .u64, _, hf, _, _, _, _ => by simp [elemFit] at hf
  | .u2, _, hf, _, _, _, _ | .jac, _, hf, _, _, _, _ | .bytes, _, hf, _, _, _, _ => by simp [elemFit] at hf

theorem cellOf_cell {a : Addr} {v : Value} (h : W.cell? a = some v) : cellOf W a.block a.off = some v ∧ a.spot = none := by
  unfold World.cell? at h
  unfold cellOf
  split at h
  · rename_i c _ _ hc
    split at h
    · cases h
    · rename_i hs
      rw [hc]
      exact ⟨h, by simpa using hs⟩
  · cases h

/-- Elements, one after another. -/
theorem rows_open {E : Emb} {s : Sh} {a : Addr} (ok : s.T → Bool) : ∀ (n i0 : Nat), (∀ i, i < n → ∃ cs, W.cells? base (a.add ((i0 + i) * s.size)) s.size = some cs ∧ ∃ y : s.T, Rc E s y cs ∧ ok y = true) →
    ∃ (l : List s.T) (ys : List Value), l.length = n ∧ RcL E s l ys ∧ l.all ok = true ∧ ∀ j v, ys[j]? = some v → W.cell? (a.add (i0 * s.size + j)) = some v
  | 0, i0, _ => ⟨[], [], rfl, rfl, rfl, fun j v h => by simp at h⟩
  | n + 1, i0, h => by
    obtain ⟨cs, h1, y, h2, h3⟩ := h 0 (by omega)
    obtain ⟨l, ys, g1, g2, g3, g4⟩ := rows_open ok n (i0 + 1) fun i hi => by
      have := h (i + 1) (by omega)
      rw [show i0 + (i + 1) = i0 + 1 + i by omega] at this
      exact this
    obtain ⟨_, k1, k2⟩ := World.cells?_some h1
    refine ⟨y :: l, cs ++ ys, by simp [g1], ⟨cs, ys, rfl, h2, g2⟩, by simp only [List.all_cons, Bool.and_eq_true]; exact ⟨h3, g3⟩, fun j v hv => ?_⟩
    rcases Nat.lt_or_ge j cs.length with hj | hj
    · rw [List.getElem?_append_left hj] at hv
      have := k2 j (by omega)
      rw [Deep.add_add] at this
      rw [Nat.add_zero] at this
      rw [this]; exact hv
    · rw [List.getElem?_append_right hj] at hv
      have := g4 (j - cs.length) v hv
      rw [show (i0 + 1) * s.size + (j - cs.length) = i0 * s.size + j by rw [Nat.add_mul]; omega] at this
      exact this

/-- Does the pattern fit an argument's type? -/
def argFits (P : Program) : Pat → TypeId → Bool
  | .isl _ s, t => match P.underlying t with
    | some (.slice e) => elemFit P s e
    | _ => false
  | .str, t => match P.underlying t with
    | some .string => true
    | _ => false
  | p, t => patFits P p t

/-- In range, and of the weight that memory has. -/
def Pat.okA : (p : Pat) → p.T → Bool
  | .isl _ s, l => (l : List s.T).all (okSh s) && Nat.ble ((l : List s.T).length * s.wt) 140737488351232
  | .str, l => Nat.ble (l : List UInt8).length 140737488351232
  | p, x => p.okV x
def Pat.oksA : (l : List Pat) → Pat.Ts l → Bool
  | [], _ => true
  | [p], x => p.okA x
  | p :: q :: l, x => p.okA x.1 && Pat.oksA (q :: l) x.2

theorem argA_open {p : Pat} {t : TypeId} (hf : argFits P p t = true) {r : Reach} {b0 : Nat} {v : Value} {d : DataW H} {ps : List MemPlace} (hv : Value.okWide P W r b0 t v) (hd : DataW.Trod enc P W base sp held t v d ps)
    (hw : ∀ x ∈ d.weights P t, x ≤ reachBytes) :
    ∃ y : p.T, (p.enc y).plain = true ∧ Rep1 (allEmb W) (p.enc y) v ∧ p.okA y = true := by
  by_cases hi : ∃ fr s, p = .isl fr s
  · obtain ⟨fr, s, rfl⟩ := hi
    simp only [argFits] at hf
    split at hf
    · rename_i e ht
      obtain ⟨a0, len0, cap0, rfl⟩ := okWide_slice ht hv
      obtain ⟨fuel, h⟩ := hd
      have key : ∃ y : List s.T, RepC (allEmb W) (.isl fr s y) (Value.slice a0 len0 cap0).cells.toList ∧ y.all (okSh s) = true ∧ y.length * s.wt ≤ 140737488351232 := by
        rcases Deep.open_slice ht h with ⟨h0, _⟩ | ⟨a, len, cap, m, n, D, Pl, h0, hb, hl, hm, hmm, hx, hel⟩
        · rw [h0]
          exact ⟨[], ⟨_, [], rfl, rfl, none, 0, 0, rfl, rfl, Nat.le_refl _, rfl⟩, rfl, by simp⟩
        · rw [h0]
          have hlm : len ≤ m := by rw [hmm]; split <;> omega
          have rows := rows_open (W := W) (base := base) (E := allEmb W) (s := s) (a := a) (okSh s) len 0 fun i hi => by
            obtain ⟨cs', k1, k2⟩ := hel i (by omega)
            obtain ⟨q1, q2, y, q3, q4⟩ := elem_open (E := allEmb W) hf k2
            rw [Nat.zero_add, ← q1]
            exact ⟨cs', k1, y, q3, q4⟩
          obtain ⟨l, ys, g1, g2, g3, g4⟩ := rows
          refine ⟨l, ⟨_, ys, rfl, g2, some a, len, cap, rfl, g1.symm, hl, ?_⟩, g3, ?_⟩
          · cases ys with
            | nil => exact .inl rfl
            | cons v0 ys =>
              refine .inr ⟨?_, fun j v hj => ?_⟩
              · have := (cellOf_cell (g4 0 v0 rfl)).2
                simpa [Addr.add] using this
              · have h1 := cellOf_cell (g4 j v hj)
                have h2 : (a.add (0 * s.size + j)).block = a.block ∧ (a.add (0 * s.size + j)).off = a.off + j := by
                  unfold Addr.add; by_cases hj0 : j = 0 <;> simp [hj0]
                rw [h2.1, h2.2] at h1
                exact h1.1
          · rcases Nat.eq_zero_or_pos len with hz | hz
            · rw [g1, hz, Nat.zero_mul]; omega
            · obtain ⟨cs', k1, k2⟩ := hel 0 (by omega)
              obtain ⟨_, q2, _⟩ := elem_open (E := allEmb W) hf k2
              have hd' := (Prod.mk.inj hx).1
              rw [hd'] at hw
              have := hw ((((List.range len).map D).length + ((List.range (m - len)).map fun j => D (len + j)).length) * P.bytesOf e) (by simp only [DataW.weights, ht]; exact List.mem_cons_self)
              rw [q2] at this
              simp only [List.length_map, List.length_range] at this
              rw [g1]
              have h3 : len * s.wt ≤ (len + (m - len)) * s.wt := Nat.mul_le_mul_right _ (by omega)
              have h4 : reachBytes = 140737488351232 := rfl
              omega
      obtain ⟨y, h1, h2, h3⟩ := key
      exact ⟨y, rfl, ⟨h1, (fun h => by cases h), fun _ => rfl⟩, by simp only [Pat.okA, Bool.and_eq_true]; exact ⟨h2, Nat.ble_eq_true_of_le h3⟩⟩
    · cases hf
  · by_cases hstr : p = .str
    · subst hstr
      simp only [argFits] at hf
      split at hf
      · rename_i ht
        obtain ⟨s, rfl⟩ := okWide_string ht hv
        obtain ⟨fuel, h⟩ := hd
        cases fuel with
        | zero => simp [DataW.trod] at h
        | succ fuel =>
          simp only [DataW.trod, ht, Value.cells] at h
          have h' : d = .lit (.string s.data.toList) := by
            simp at h
            exact h.2.1.symm
          subst h'
          have := hw s.data.toList.length (by simp [DataW.weights])
          have h4 : reachBytes = 140737488351232 := rfl
          refine ⟨s.data.toList, rfl, ⟨rfl, (fun h => by cases h), fun _ => rfl⟩, ?_⟩
          simp only [Pat.okA]
          exact Nat.ble_eq_true_of_le (by omega)
      · cases hf
    · have e1 : argFits P p t = patFits P p t := by
        cases p <;> first | rfl | exact absurd ⟨_, _, rfl⟩ hi | exact absurd rfl hstr
      rw [e1] at hf
      obtain ⟨y, h1, h2, h3⟩ := arg_open (E := allEmb W) hf hv hd
      refine ⟨y, h1, h2, ?_⟩
      have e2 : p.okA y = p.okV y := by
        cases p <;> first | rfl | exact absurd ⟨_, _, rfl⟩ hi | exact absurd rfl hstr
      rw [e2]; exact h3

def argsFit (P : Program) : List Pat → List TypeId → Bool
  | [], [] => true
  | p :: l, t :: ts => argFits P p t && argsFit P l ts
  | _, _ => false

theorem argsA_open {r : Reach} {b0 : Nat} : ∀ (l : List Pat) {ts : List TypeId} {vs : List Value} {ds : List (DataW H)} {ps : List MemPlace}, argsFit P l ts = true → (∀ (j : Nat) t v, ts[j]? = some t → vs[j]? = some v → Value.okWide P W r b0 t v) →
    DataW.TrodAll enc P W base sp held ts vs ds ps → (∀ x ∈ DataW.weightsEach P ts ds, x ≤ reachBytes) → ∃ y : Pat.Ts l, Rep1s (allEmb W) (Pat.encs l y) vs ∧ Pat.oksA l y = true
  | [], [], vs, ds, ps, _, _, h, _ => by
    obtain ⟨rfl, _, _⟩ := trodAll_nil h
    exact ⟨(), rfl, rfl⟩
  | [p], [t], vs, ds, ps, hf, hv, h, hw => by
    obtain ⟨v, vs1, d, ds1, a, b, rfl, rfl, rfl, h1, h2⟩ := trodAll_cons h
    obtain ⟨rfl, _, _⟩ := trodAll_nil h2
    simp only [argsFit, Bool.and_eq_true] at hf
    obtain ⟨y, g1, g2, g3⟩ := argA_open hf.1 (hv 0 t v rfl rfl) h1 fun x hx => hw x (by simp only [DataW.weightsEach]; exact List.mem_append_left _ hx)
    exact ⟨y, ⟨v, [], rfl, g1, g2, rfl⟩, g3⟩
  | p :: q :: l, t :: ts, vs, ds, ps, hf, hv, h, hw => by
    obtain ⟨v, vs1, d, ds1, a, b, rfl, rfl, rfl, h1, h2⟩ := trodAll_cons h
    rw [argsFit, Bool.and_eq_true] at hf
    obtain ⟨y, g1, g2, g3⟩ := argA_open hf.1 (hv 0 t v rfl rfl) h1 fun x hx => hw x (by simp only [DataW.weightsEach]; exact List.mem_append_left _ hx)
    obtain ⟨z, k1, k2⟩ := argsA_open (q :: l) hf.2 (fun j t' v' ht hv' => hv (j + 1) t' v' (by simpa using ht) (by simpa using hv')) h2 fun x hx => hw x (by simp only [DataW.weightsEach]; exact List.mem_append_right _ hx)
    exact ⟨(y, z), ⟨v, vs1, rfl, g1, g2, k1⟩, by simp only [Pat.oksA, Bool.and_eq_true]; exact ⟨g3, k2⟩⟩
  | [], _ :: _, _, _, _, hf, _, _, _ => by simp [argsFit] at hf
  | [_], [], _, _, _, hf, _, _, _ => by simp [argsFit] at hf
  | [_], _ :: _ :: _, _, _, _, hf, _, _, _ => by simp [argsFit] at hf
  | _ :: _ :: _, [], _, _, _, hf, _, _, _ => by simp [argsFit] at hf

theorem argsFit_length : ∀ {l : List Pat} {ts : List TypeId}, argsFit P l ts = true → ts.length = l.length
  | [], [], _ => rfl
  | p :: l, t :: ts, h => by
    simp only [argsFit, Bool.and_eq_true] at h
    simp [argsFit_length h.2]
  | [], _ :: _, h => by simp [argsFit] at h
  | _ :: _, [], h => by simp [argsFit] at h

theorem argFits_named {ok : Nat → Bool} {p : Pat} {t : TypeId} (h : argFits P p t = true) : p.named ok = true := by
  by_cases hi : ∃ fr s, p = .isl fr s
  · obtain ⟨fr, s, rfl⟩ := hi; rfl
  · by_cases hstr : p = .str
    · subst hstr; rfl
    · have e1 : argFits P p t = patFits P p t := by
        cases p <;> first | rfl | exact absurd ⟨_, _, rfl⟩ hi | exact absurd rfl hstr
      rw [e1] at h
      exact patFits_named h

theorem argsFit_named {ok : Nat → Bool} : ∀ {l : List Pat} {ts : List TypeId}, argsFit P l ts = true → Pat.nameds ok l = true
  | [], _, _ => rfl
  | p :: l, t :: ts, h => by
    simp only [argsFit, Bool.and_eq_true] at h
    simp only [Pat.nameds, Bool.and_eq_true]
    exact ⟨argFits_named h.1, argsFit_named h.2⟩
  | p :: l, [], h => by simp [argsFit] at h
end

/-- **A law's row out of its typed function, slices and strings among its arguments.** -/
theorem law_liftA {C : Checked} {os : Os} {H : Type} {enc : TypeId × Value → H} {f : FuncId} {fn : Func} {s : ChangeSpec} {laid : List (String × DataW Unit)} {globs : List (Nat × AV)} {apart : Bool} {tb : TypeId} (ps : List Pat) (F : Pat.Ts ps → Option Bool)
    (own : ownKnob C.prog.godebug = none) (started : os.Started) (noInit : C.prog.inits.idxOf? f = none) (hfn : C.prog.funcs[f]? = some fn)
    (witness : ∃ (w : World) (tape : Tape) (i : Input), w.os = os ∧ (w.forCall tape i).Shaped C.prog ∧ i.vars = [] ∧ Input.okWide C.prog (w.forCall tape i) .any w.heap.size f i ∧
      ((s.pre enc C.prog fn [] apart (w.forCall tape i).memory i.args ∧ laidMetH C.prog laid (w.forCall tape i).memory) ∧ sizedMet enc C.prog fn (OpenSpec.ofChange s) apart (w.forCall tape i).memory i.args) ∧ ({} : Assume).holds C.prog (lone (Frame.enter C.prog f i.args .normal) [] (w.forCall tape i)))
    (hglob : ∀ W, laidMetH C.prog laid W → GlobW globs W) (hcall : CallOk C.prog (Glob globs) f (mkE ps [.bool] F)) (hent : ∀ args w, (callFunc f args).run C.prog w = .ok (.enter f args) w)
    (hF : ∀ x, Pat.oksA ps x = true → F x = some true) (hfit : argsFit C.prog ps fn.params.toList = true) (hrow : rowed C.prog fn.params.toList = true) (hlo : laidOutB C.prog = true)
    (hrt : fn.resultTypes = #[tb]) (htb : C.prog.underlying tb = some .bool) (hvars : s.vars = []) (hspec : ∀ ds : List (DataW H), ds.length = ps.length → s.fn H ds = { results := [.lit (.bool true)], args := ds }) :
    ReturnsInHanded {} C os f .any (fun w args => (s.pre enc C.prog fn [] apart w args ∧ laidMetH C.prog laid w) ∧ sizedMet enc C.prog fn (OpenSpec.ofChange s) apart w args)
      (s.post enc C.prog fn apart true false false) := by
  refine returnsInHanded_of_change_and (C := C) (X := fun w _ => laidMetH C.prog laid w) (fun _ _ _ hh h => h.of_heap hh) own started noInit hfn witness ?_
  intro W base args ds gs before hval hW _ hwt hL _
  have hW' := hW
  obtain ⟨p, q, hA, hV, rfl, hfz, hnd⟩ := hW
  rw [hvars] at hV
  obtain ⟨rfl, rfl⟩ := trodVars_none hV
  have hopen : ∃ x : Pat.Ts ps, Rep1s (allEmb W) (Pat.encs ps x) args.toList ∧ Pat.oksA ps x = true := by
    have hlen' := trodAll_len hA
    refine argsA_open ps hfit (fun j t v ht hv => hval j t v (by simpa using ht) (by simpa using hv)) hA fun x hx => ?_
    have hsub : ∀ (ts : List TypeId) (l : List (DataW H)) (ts2 : List TypeId) (l2 : List (DataW H)), l.length = ts.length → ∀ x, x ∈ DataW.weightsEach C.prog ts l → x ∈ DataW.weightsEach C.prog (ts ++ ts2) (l ++ l2) := by
      intro ts
      induction ts with
      | nil => intro l ts2 l2 _ x hx; cases l <;> simp [DataW.weightsEach] at hx
      | cons t ts ih =>
        intro l ts2 l2 hl x hx
        cases l with
        | nil => simp at hl
        | cons d l =>
          simp only [List.cons_append, DataW.weightsEach, List.mem_append] at hx ⊢
          rcases hx with h | h
          · exact .inl h
          · exact .inr (ih l ts2 l2 (by simpa using hl) x h)
    have := List.all_eq_true.1 hwt x (hsub _ _ _ _ hlen' x hx)
    simpa using this
  obtain ⟨x, hx, hok⟩ := hopen
  have hdec : Pat.decs ps (Pat.encs ps x) = some x := Pat.decs_of_encs ps x
  have hlen : ds.length = ps.length := by
    have h1 := (trodAll_len hA)
    have h2 := argsFit_length hfit
    omega
  have hnm : AV.nameds (fun n => (hpOf [] n).isSome) (Pat.encs ps x) = true := Pat.encs_named ps x (argsFit_named hfit)
  rcases hcall.2 W (allEmb W) x true (Pat.encs ps x) [] args (hglob W hL).glob (allEmb_mem W) rfl (fun c h => by cases h) hdec (hF x hok) hx hnm with ⟨_, hc⟩ | ⟨_, v, w', h1, _⟩
  · refine hc.mono fun e W' ⟨v, he, E', hm, _, hr, _⟩ => ?_
    have hb : Below W.heap.size W W' := hm.below.below (fun k ⟨j, hj, _⟩ => absurd hj (Nat.not_lt_zero j))
    have hv : v = .bool true := Rep1.bool.1 ((Rep.one (v := .bool true) rfl).1 hr)
    subst hv
    refine ⟨_, he, ?_⟩
    have hlt := hW'.lt
    refine post_of_below (pa := p) (pv := []) hW' (fun _ _ _ => ?_) (fun sp hsp => ?_) (fun _ _ => ?_) rfl hb ?_
    · rw [List.append_nil, hspec ds hlen, hrt]
      exact trodAll_mk1 (shut_bool htb true)
    · rw [List.append_nil, hspec ds hlen]
      exact trodAll_below hlo hb hrow hA (fun y hy => hlt y (List.mem_append_left _ hy)) (fun y hy => hsp y (List.mem_append_left _ hy))
    · rw [hvars, List.append_nil, hspec ds hlen]; rfl
    · exact ok_one hrt rfl (okWide_bool_mk htb _)
  · rw [hent] at h1; cases h1
end Go.Sy
