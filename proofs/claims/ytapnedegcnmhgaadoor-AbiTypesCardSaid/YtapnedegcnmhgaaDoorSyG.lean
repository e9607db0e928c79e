/- What an operation does in the model is what the symbolic reading says. -/
import Derived.Test.YtapnedegcnmhgaaDoorSyF
set_option linter.unusedVariables false
set_option linter.unusedSimpArgs false
namespace Go.Sy
open Go Go.RowKit
noncomputable section

/-- The blocks that are lent. -/
def lentL (E : Emb) (nb : Nat) : Nat → Prop := fun g => ∃ j, j < nb ∧ (E.cnt j).isSome = true ∧ E.ρ j = g
def hpOf (bs : List AV) : Nat → Option AV := fun n => bs[n]?
def iniOf (E : Emb) (nb : Nat) (w : World) : Ini := ⟨w, lentL E nb, fun g j => E.im true g j, fun j => if j < nb then some (E.ρ j, E.cnt j, E.len j) else none, []⟩

def CallPost (e : Entry) (E : Emb) (r : e.ρ) (w : World) (v : Value) (w' : World) : Prop :=
  ∃ E', Mem (iniOf E e.nb w) E' (fun n => lk n (e.out r)) w' ∧ (∀ j, j < e.nb → E'.ρ j = E.ρ j ∧ E'.cnt j = E.cnt j ∧ E'.len j = E.len j) ∧
    Rep E' (one (e.enc r)) v ∧ (one (e.enc r)).named (fun n => (lk n (e.out r)).isSome) = true

/-- How a call ends: with an answer or a panic. -/
def endOf (b : Bool) (v : Value) : Ending := cond b (.panicked [{ v := v, recovered := false }]) (.returned v)

/-- A function keeps its contract. -/
def CallOk (P : Program) (G : Ini → Prop) (f : Nat) (e : Entry) : Prop :=
  (e.quiet = true → e.nb = 0 ∧ ∀ r, e.out r = []) ∧
  ∀ (w : World) (E : Emb) (a : e.α) (r : e.ρ) (args bs : List AV) (vals : Array Value), G (iniOf E e.nb w) → Mem (iniOf E e.nb w) E (hpOf bs) w → bs.length = e.nb → (∀ c ∈ bs, c.live = true) →
    e.dec args bs = some a → e.F a = some r → Rep1s E args vals.toList → AV.nameds (fun n => (hpOf bs n).isSome) args = true →
    ((callFunc f vals).run P w = .ok (.enter f vals) w ∧ Calls P f vals w (fun en w' => ∃ v, en = endOf (e.pan r) v ∧ CallPost e E r w v w')) ∨
    (e.pan r = false ∧ ∃ v w', (callFunc f vals).run P w = .ok (.value v) w' ∧ CallPost e E r w v w')

structure CxOk (cx : Cx) (G : Ini → Prop) : Prop where
  keep : ∀ b E hp w L I fx, G b → Mem b E hp w → (∀ g, L g → ∃ n c, hp n = some c ∧ c.live = true ∧ (E.cnt n).isSome = true ∧ E.ρ n = g ∧ froN n = false) → G ⟨w, L, I, fx, []⟩
  defs : ∀ b D fx, G b → G { b with D := D, fx := fx }
  glob : ∀ g v, cx.globs g = some v → v.named (fun _ => false) = true ∧ v.plain = true ∧ ∀ b, G b → ¬ b.L g ∧ ∃ c T fz, b.w.heap[g]? = some (.cells c T fz) ∧ ∀ E, RepC E v c.toList
  calls : ∀ f e, cx.calls f = some e → CallOk cx.P G f e
  mixed : cx.P.follows .mixedOrders = true

def Good (P : Program) (o : Oper) (w0 : Ini) (N : Nat) (env hp : Nat → Option AV) (v : AV) (δ : List (Nat × AV)) (a : Act) (w : World) : Prop :=
  ∀ (next : Act → World → Prop) (Q : Exit → Act → World → Prop),
    (∀ E' x w', Rel w0 E' N env (updH hp δ) a w' → Rep E' v x → v.named (fun n => (updH hp δ n).isSome) = true → next (a.put o.dst x) w') → o.wp P a w next Q

/-- The same of an operation that may panic. -/
def GoodB (P : Program) (o : Oper) (w0 : Ini) (N : Nat) (env hp : Nat → Option AV) (b : Bool) (v : AV) (δ : List (Nat × AV)) (a : Act) (w : World) : Prop :=
  ∀ (next : Act → World → Prop) (Q : Exit → Act → World → Prop),
    (∀ E' x w', Rel w0 E' N env (updH hp δ) a w' → Rep E' v x → v.named (fun n => (updH hp δ n).isSome) = true → cond b (Q (.panic [{ v := x, recovered := false }]) a w') (next (a.put o.dst x) w')) → o.wp P a w next Q

theorem Good.value {P : Program} {o : Oper} {w0 : Ini} {N : Nat} {env hp : Nat → Option AV} {v : AV} {δ : List (Nat × AV)} {a : Act} {w w' : World} {E' : Emb} {x : Value}
    (hr : (execOp a.eval o).run P w = .ok (.value x) w') (h : Rel w0 E' N env (updH hp δ) a w') (hv : Rep E' v x) (hn : v.named (fun n => (updH hp δ n).isSome) = true) : Good P o w0 N env hp v δ a w :=
  fun next Q k => by unfold Oper.wp; rw [hr]; exact k E' x w' h hv hn

theorem Good.skip {P : Program} {o : Oper} {w0 : Ini} {N : Nat} {env hp : Nat → Option AV} {δ : List (Nat × AV)} {a : Act} {w w' : World} {E' : Emb}
    (hr : (execOp a.eval o).run P w = .ok .skip w') (h : Rel w0 E' N env (updH hp δ) a w') : Good P o w0 N env hp .undef δ a w :=
  fun next Q k => by unfold Oper.wp; rw [hr]; exact k E' undef w' h trivial (by simp [AV.named])

section
variable {cx : Cx} {G : Ini → Prop} {w0 : Ini} {E : Emb} {N : Nat} {env hp : Nat → Option AV} {a : Act} {w : World}

theorem nameds_none {ok : Nat → Bool} {v : AV} (h : v.named (fun _ => false) = true) : v.named ok = true := AV.named_mono (fun _ h => by cases h) h

theorem ofConst_rep (E : Emb) (P : Program) (t : TypeId) (v : Value) : Rep E (ofConst P t v) v ∧ ∀ ok, (ofConst P t v).named ok = true := by
  unfold ofConst
  split
  · exact ⟨⟨by simp [RepC, Value.cells], by simp [AV.isAgg], by simp [Value.cells]⟩, fun _ => rfl⟩
  · exact ⟨⟨by simp [RepC, Value.cells], by simp [AV.isAgg], by simp [Value.cells]⟩, fun _ => rfl⟩
  · exact ⟨⟨by simp [RepC, Value.cells], by simp [AV.isAgg], by simp [Value.cells]⟩, fun _ => rfl⟩
  · split
    · split
      · exact ⟨⟨by simp [RepC, Value.cells], by simp [AV.isAgg], by simp [Value.cells]⟩, fun _ => rfl⟩
      · exact ⟨trivial, fun _ => rfl⟩
    · exact ⟨trivial, fun _ => rfl⟩
  · exact ⟨⟨by simp [RepC, Value.cells], by simp [AV.isAgg], by simp [Value.cells]⟩, fun _ => rfl⟩
  · exact ⟨⟨by simp [RepC, Value.cells], by simp [AV.isAgg], by simp [Value.cells]⟩, fun _ => rfl⟩
  · exact ⟨trivial, fun _ => rfl⟩

theorem ev_sound (hc : CxOk cx G) (hG : G w0) (h : Rel w0 E N env hp a w) (t : TypeId) (o : Operand) :
    Rep E (ev cx env t o) (a.eval o) ∧ (ev cx env t o).named (fun n => (hp n).isSome) = true := by
  cases o with
  | tmp n =>
    simp only [ev, Act.eval]
    cases he : env n with
    | none => exact ⟨trivial, rfl⟩
    | some v =>
      obtain ⟨x, hx, hr⟩ := h.renv n v he
      refine ⟨?_, h.senv n v he⟩
      simp only [Option.getD_some]
      rw [show a.tmps.getD n undef = x by simp [Array.getD_eq_getD_getElem?, hx]]
      exact hr
  | const v =>
    simp only [ev, Act.eval]
    exact ⟨(ofConst_rep E cx.P t v).1, (ofConst_rep E cx.P t v).2 _⟩
  | global g =>
    simp only [ev, Act.eval]
    cases hg : cx.globs g with
    | none => exact ⟨trivial, rfl⟩
    | some v =>
      obtain ⟨h1, h2, h3⟩ := hc.glob g v hg
      obtain ⟨hl, c, T, fz, h4, h5⟩ := h3 w0 hG
      refine ⟨⟨?_, by simp [AV.isAgg], by simp [Value.cells]⟩, by simp only [AV.named]; exact nameds_none h1⟩
      simp only [RepC, Value.cells]
      refine ⟨⟨g, 0, none⟩, c.toList, rfl, ⟨rfl, fun j v hv => h.imm0 _ _ _ _ hl h4 _ _ (by simpa using hv)⟩, h5 E⟩
  | func f =>
    simp only [ev, Act.eval]
    refine ⟨⟨?_, by simp [AV.isAgg], by simp [Value.cells]⟩, rfl⟩
    simp only [RepC, Value.cells]
    exact ⟨[], rfl, rfl⟩

theorem ev_plain (hc : CxOk cx G) (hG : G w0) (h : Rel w0 E N env hp a w) {t : TypeId} {o : Operand} {v : AV} (he : ev cx env t o = v) (hp' : v.plain = true) :
    Rep1 E v (a.eval o) ∧ v.named (fun n => (hp n).isSome) = true := by
  obtain ⟨h1, h2⟩ := ev_sound hc hG h t o
  rw [he] at h1 h2
  exact ⟨(Rep.one hp').1 h1, h2⟩

/-! ### Scalars -/

theorem Rep1.int {E : Emb} {k : IntKind} {n : Int} {x : Value} : Rep1 E (.int k n) x ↔ x = .int k n := by
  constructor
  · rintro ⟨h1, _, h3⟩
    have := h3 rfl
    rw [this] at h1
    simpa [RepC] using h1
  · rintro rfl; exact ⟨by simp [RepC, Value.cells], by simp [AV.isAgg], by simp [Value.cells]⟩

theorem Rep1.bool {E : Emb} {b : Bool} {x : Value} : Rep1 E (.bool b) x ↔ x = .bool b := by
  constructor
  · rintro ⟨h1, _, h3⟩
    have := h3 rfl
    rw [this] at h1
    simpa [RepC] using h1
  · rintro rfl; exact ⟨by simp [RepC, Value.cells], by simp [AV.isAgg], by simp [Value.cells]⟩

theorem Rep1.ptr {E : Emb} {n : Nat} {p : List Step} {x : Value} : Rep1 E (.ptr n p) x ↔ x = .pointer (some ⟨E.ρ n, offs p, none⟩) := by
  constructor
  · rintro ⟨h1, _, h3⟩
    have := h3 rfl
    rw [this] at h1
    simpa [RepC] using h1
  · rintro rfl; exact ⟨by simp [RepC, Value.cells], by simp [AV.isAgg], by simp [Value.cells]⟩

theorem Rep1.cells1 {E : Emb} {v : AV} {x : Value} (h : Rep1 E v x) (hv : v.isAgg = false) : RepC E v [x] := by
  have := h.1
  rw [h.2.2 hv] at this
  exact this

mutual
theorem RcD.oneCell {E : Emb} : ∀ {v : DT} {xs : List Value}, RcD E v xs → ∀ x ∈ xs, x.oneCell' = true
  | .int .., _, h, x, hx | .bool _, _, h, x, hx | .str _, _, h, x, hx => by simp only [RcD] at h; subst h; simp at hx; subst hx; rfl
  | .u256 _, _, h, x, hx => by
    simp only [RcD] at h; subst h
    simp [ucells, limbs] at hx
    rcases hx with rfl | rfl | rfl | rfl <;> rfl
  | .ints .., _, h, x, hx => by simp only [RcD] at h; obtain ⟨y, rfl, _, _, rfl, _⟩ := h; simp at hx; subst hx; rfl
  | .sl .., _, h, x, hx => by simp only [RcD] at h; obtain ⟨y, _, rfl, _, _, _, rfl, _⟩ := h; simp at hx; subst hx; rfl
  | .ptr .., _, h, x, hx => by simp only [RcD] at h; rcases h with ⟨_, rfl⟩ | ⟨_, _, _, rfl, _⟩ <;> (simp at hx; subst hx; rfl)
  | .st l, _, h, x, hx => by simp only [RcD] at h; exact RcDs.oneCell h x hx
theorem RcDs.oneCell {E : Emb} : ∀ {l : List DT} {xs : List Value}, RcDs E l xs → ∀ x ∈ xs, x.oneCell' = true
  | [], _, h, x, hx => by simp only [RcDs] at h; subst h; cases hx
  | v :: l, _, h, x, hx => by
    simp only [RcDs] at h
    obtain ⟨a, b, rfl, h1, h2⟩ := h
    rcases List.mem_append.1 hx with hx | hx
    · exact RcD.oneCell h1 x hx
    · exact RcDs.oneCell h2 x hx
end
theorem one_cells {x : Value} (h : x.oneCell' = true) : x.cells = #[x] := by cases x <;> first | rfl | simp [Value.oneCell'] at h

theorem Rep1.of_cells1 {E : Emb} {v : AV} {x : Value} (hv : v.isAgg = false) (h : RepC E v [x]) : Rep1 E v x := by
  have : x.cells = #[x] := by
    cases v <;> simp [AV.isAgg] at hv <;> simp only [RepC] at h
    case int => simp at h; subst h; rfl
    case bool => simp at h; subst h; rfl
    case ptr => simp at h; subst h; rfl
    case pim => obtain ⟨_, _, h, _⟩ := h; simp at h; subst h; rfl
    case sl => obtain ⟨_, _, h, _⟩ := h; simp at h; subst h; rfl
    case isl => obtain ⟨y, _, h, _, _, _, _, h', _⟩ := h; simp at h; subst h; subst h'; rfl
    case own => obtain ⟨y, h, h' | ⟨_, _, h', _⟩⟩ := h <;> (simp at h; subst h; first | (obtain ⟨_, _, h'⟩ := h'; subst h'; rfl) | (subst h'; rfl))
    case osl => obtain ⟨y, h, h' | ⟨_, _, h', _⟩⟩ := h <;> (simp at h; subst h; first | (obtain ⟨_, _, h'⟩ := h'; subst h'; rfl) | (subst h'; rfl))
    case nsl => simp at h; subst h; rfl
    case str => simp at h; subst h; rfl
    case nilp => simp at h; subst h; rfl
    case el => exact one_cells (h.oneCell x (by simp))
    case pimq => rcases h with ⟨_, h⟩ | ⟨_, _, _, h, _⟩ <;> (simp at h; subst h; rfl)
    case isw => obtain ⟨y, _, h, _, _, _, h', _⟩ := h; simp at h; subst h; subst h'; rfl
    case ifc => obtain ⟨_, h, _⟩ := h; simp at h; subst h; rfl
    case nili => simp at h; subst h; rfl
    case fn => obtain ⟨_, h, _⟩ := h; simp at h; subst h; rfl
  exact ⟨by rw [this]; exact h, by simp [hv], fun _ => this⟩

theorem Rep1.of_agg {E : Emb} {v : AV} {xs : List Value} (hv : v.isAgg = true) (h : RepC E v xs) : Rep1 E v (.agg xs.toArray) :=
  ⟨by simpa [Value.cells] using h, fun _ => ⟨_, rfl⟩, by simp [hv]⟩

theorem fitsT_spec {P : Program} {t : TypeId} {v : AV} (h : fitsT P t v = true) : aggT P t = some v.isAgg ∧ sizeT P t = some v.size ∧ v.plain = true := by
  unfold fitsT at h
  split at h
  · rename_i b n h1 h2
    simp only [Bool.and_eq_true, beq_iff_eq] at h
    obtain ⟨⟨h3, h4⟩, h5⟩ := h
    have := Nat.eq_of_beq_eq_true h5
    subst this; subst h3
    exact ⟨h1, h2, h4⟩
  · cases h

theorem size_scalar {v : AV} (hp : v.plain = true) (ha : v.isAgg = false) : v.size = 1 := by
  cases v with
  | el i t => cases i <;> simp_all [AV.plain, AV.isAgg, AV.size, DSh.agg, DSh.size]
  | _ => simp_all [AV.plain, AV.isAgg, AV.size]

/-! ### Cells of a block -/

theorem cell_at {w : World} {g o j : Nat} {xs : Array Value} {T : TypeId} {fz : Nat × Nat} (hg : w.heap[g]? = some (.cells xs T fz)) : w.cell? ((⟨g, o, none⟩ : Addr).add j) = xs[o + j]? := by
  unfold Addr.add
  split
  · rename_i h; subst h; simp [World.cell?, hg]
  · simp [World.cell?, hg]

theorem run_isAggT {P : Program} {t : TypeId} {b : Bool} (h : aggT P t = some b) (w : World) : (isAgg t).run P w = .ok b w := by
  unfold aggT at h
  unfold isAgg
  simp only [Sem.run_bind]
  cases hu : P.underlying t with
  | none => rw [hu] at h; simp at h
  | some d =>
    rw [hu] at h
    rw [run_underlying hu, Result.andThen_ok]
    cases d <;> simp_all

theorem run_sizeT {P : Program} {t : TypeId} {n : Nat} (h : sizeT P t = some n) (w : World) : (sizeOf t).run P w = .ok n w := by
  unfold sizeT at h
  cases hi : P.info? t with
  | none => rw [hi] at h; cases h
  | some i => rw [hi] at h; simp at h; subst h; simp [sizeOf, typeInfo, hi]

theorem run_loadVarT {P : Program} {w : World} {t : TypeId} {v : AV} {E : Emb} {g o : Nat} {xs : Array Value} {T : TypeId} {fz : Nat × Nat} {ys : List Value}
    (hf : fitsT P t v = true) (hg : w.heap[g]? = some (.cells xs T fz)) (hy : ∀ j u, ys[j]? = some u → xs[o + j]? = some u) (hr : RepC E v ys) :
    ∃ x, (loadVar t ⟨g, o, none⟩).run P w = .ok x w ∧ Rep1 E v x := by
  obtain ⟨h1, h2, h3⟩ := fitsT_spec hf
  have hl := hr.length
  cases ha : v.isAgg with
  | true =>
    rw [ha] at h1
    refine ⟨.agg ys.toArray, ?_, Rep1.of_agg ha hr⟩
    unfold loadVar
    simp only [Sem.run_bind, run_isAggT h1, Result.andThen_ok, if_true, run_sizeT h2, ← hl]
    rw [run_loadCells_list w ⟨g, o, none⟩ ys (fun j u hu => by rw [cell_at hg]; exact hy j u hu)]
    rfl
  | false =>
    rw [ha] at h1
    have hs := size_scalar h3 ha
    rw [hs] at hl
    match ys, hl with
    | [y], _ =>
      refine ⟨y, ?_, Rep1.of_cells1 ha hr⟩
      unfold loadVar
      have hcell : w.cell? (⟨g, o, none⟩ : Addr) = some y := by
        have := hy 0 y rfl
        have h4 := cell_at (o := o) (j := 0) hg
        simp [Addr.add] at h4
        rw [h4]; simpa using this
      simp [run_isAggT h1, hcell]

theorem RepC.oneCell {E : Emb} : ∀ {v : AV} {xs : List Value}, RepC E v xs → ∀ x ∈ xs, x.oneCell' = true := by
  have huc : ∀ n, ∀ x ∈ ucells n, x.oneCell' = true := by
    intro n x hx
    simp [ucells, limbs] at hx
    rcases hx with rfl | rfl | rfl | rfl <;> rfl
  have hrc : ∀ {s : Sh} {t : s.T} {xs : List Value}, Rc E s t xs → ∀ x ∈ xs, x.oneCell' = true := by
    intro s t xs h x hx
    cases s
    case bytes =>
      obtain ⟨y, rfl, a, l, c, rfl, _⟩ := h
      simp at hx; subst hx; rfl
    case int => simp only [Rc] at h; subst h; simp at hx; subst hx; rfl
    case u256 => simp only [Rc] at h; subst h; exact huc _ x hx
    case pt =>
      simp only [Rc] at h; subst h
      simp only [List.mem_append, List.mem_singleton] at hx
      rcases hx with (hx | hx) | hx
      · exact huc _ x hx
      · exact huc _ x hx
      · subst hx; rfl
    case u2 =>
      simp only [Rc] at h; subst h
      simp only [List.mem_append] at hx
      rcases hx with hx | hx <;> exact huc _ x hx
    case jac =>
      simp only [Rc] at h; subst h
      simp only [List.mem_append] at hx
      rcases hx with (hx | hx) | hx <;> exact huc _ x hx
    case d i => exact RcD.oneCell h x hx
  have hrl : ∀ {s : Sh} {l : List s.T} {xs : List Value}, RcL E s l xs → ∀ x ∈ xs, x.oneCell' = true := by
    intro s l
    induction l with
    | nil => intro xs h x hx; simp only [RcL] at h; subst h; cases hx
    | cons t l ih =>
      rintro xs ⟨a, b, rfl, h1, h2⟩ x hx
      rcases List.mem_append.1 hx with hx | hx
      · exact hrc h1 x hx
      · exact ih h2 x hx
  intro v xs h
  induction v using AV.rec (motive_2 := fun l => ∀ xs, RepCs E l xs → ∀ x ∈ xs, x.oneCell' = true) generalizing xs with
  | undef => simp only [RepC] at h
  | int => simp only [RepC] at h; subst h; intro x hx; simp at hx; subst hx; rfl
  | bool => simp only [RepC] at h; subst h; intro x hx; simp at hx; subst hx; rfl
  | u256 => simp only [RepC] at h; subst h; exact huc _
  | arr => simp only [RepC] at h; exact hrl h.2
  | st l ih => simp only [RepC] at h; exact ih _ h
  | tup => simp only [RepC] at h
  | ptr => simp only [RepC] at h; subst h; intro x hx; simp at hx; subst hx; rfl
  | pim => simp only [RepC] at h; obtain ⟨_, _, rfl, _⟩ := h; intro x hx; simp at hx; subst hx; rfl
  | sl => simp only [RepC] at h; obtain ⟨_, _, rfl, _⟩ := h; intro x hx; simp at hx; subst hx; rfl
  | isl => simp only [RepC] at h; obtain ⟨y, _, rfl, _, _, _, _, rfl, _⟩ := h; intro x hx; simp at hx; subst hx; rfl
  | own => simp only [RepC] at h; obtain ⟨y, rfl, ⟨_, _, rfl⟩ | ⟨_, _, rfl, _⟩⟩ := h <;> (intro x hx; simp at hx; subst hx; rfl)
  | osl => simp only [RepC] at h; obtain ⟨y, rfl, ⟨_, _, rfl⟩ | ⟨_, _, rfl, _⟩⟩ := h <;> (intro x hx; simp at hx; subst hx; rfl)
  | nsl => simp only [RepC] at h; subst h; intro x hx; simp at hx; subst hx; rfl
  | str => simp only [RepC] at h; subst h; intro x hx; simp at hx; subst hx; rfl
  | row => simp only [RepC] at h
  | nilp => simp only [RepC] at h; subst h; intro x hx; simp at hx; subst hx; rfl
  | el => simp only [RepC] at h; exact RcD.oneCell h
  | pimq => simp only [RepC] at h; rcases h with ⟨_, rfl⟩ | ⟨_, _, _, rfl, _⟩ <;> (intro x hx; simp at hx; subst hx; rfl)
  | isw => simp only [RepC] at h; obtain ⟨y, _, rfl, _, _, _, rfl, _⟩ := h; intro x hx; simp at hx; subst hx; rfl
  | ifc => simp only [RepC] at h; obtain ⟨_, rfl, _⟩ := h; intro x hx; simp at hx; subst hx; rfl
  | nili => simp only [RepC] at h; subst h; intro x hx; simp at hx; subst hx; rfl
  | fn => simp only [RepC] at h; obtain ⟨_, rfl, _⟩ := h; intro x hx; simp at hx; subst hx; rfl
  | nil => rename_i xs h x hx; simp only [RepCs] at h; subst h; cases hx
  | cons v l ih1 ih2 =>
    rename_i xs h x hx
    simp only [RepCs] at h
    obtain ⟨a, b, rfl, h1, h2⟩ := h
    rcases List.mem_append.1 hx with hx | hx
    · exact ih1 h1 x hx
    · exact ih2 _ h2 x hx

theorem RcL.oneCell {E : Emb} {s : Sh} {l : List s.T} {xs : List Value} (h : RcL E s l xs) : ∀ x ∈ xs, x.oneCell' = true :=
  RepC.oneCell (E := E) (v := .arr s l.length l) (by simp only [RepC, true_and]; exact h)
end
end
end Go.Sy
