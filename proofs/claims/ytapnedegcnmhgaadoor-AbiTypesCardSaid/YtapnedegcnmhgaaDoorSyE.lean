/- The relation between the symbolic state and the model's; memory that is made and written. -/
import Derived.Test.YtapnedegcnmhgaaDoorSyD
set_option linter.unusedVariables false
set_option linter.unusedSimpArgs false
namespace Go.Sy
open Go Go.RowKit
noncomputable section

/-- What a call has not turned: all that lay there below B, but for the blocks that are lent to it. -/
structure BelowL (B : Nat) (L : Nat → Prop) (w w' : World) : Prop where
  os : w'.os = w.os
  tape : w'.tape = w.tape
  output : w'.output = w.output
  size : w.heap.size ≤ w'.heap.size
  block : ∀ k, k < B → ¬ L k → w'.heap[k]? = w.heap[k]?

theorem BelowL.refl (B : Nat) (L : Nat → Prop) (w : World) : BelowL B L w w := ⟨rfl, rfl, rfl, Nat.le_refl _, fun _ _ _ => rfl⟩
theorem BelowL.trans {B : Nat} {L : Nat → Prop} {a b c : World} (h : BelowL B L a b) (k : BelowL B L b c) : BelowL B L a c :=
  ⟨k.os.trans h.os, k.tape.trans h.tape, k.output.trans h.output, Nat.le_trans h.size k.size, fun i hi hl => (k.block i hi hl).trans (h.block i hi hl)⟩
theorem BelowL.below {B : Nat} {L : Nat → Prop} {w w' : World} (h : BelowL B L w w') (hL : ∀ k, ¬ L k) : Below B w w' := ⟨h.os, h.tape, h.output, h.size, fun k hk => h.block k hk (hL k)⟩

/-- How a call begins: the memory, the blocks that are lent to it, the cells that stay as they are for good, what the names below 1000 stand for. -/
structure Ini where
  w : World
  L : Nat → Prop
  I : Nat → Nat → Option Value
  fx : Nat → Option (Nat × Option Nat × Nat)
  /-- what is put off -/
  D : List Deferred

/-- How many cells of a row are known. -/
def AV.rowSz : AV → Nat
  | .row s l => l.length * s.size
  | _ => 0

/-- A block of the call's own. -/
def OwnB (b : Ini) (E : Emb) (w : World) (n : Nat) (c : AV) : Prop :=
  (∀ k, c.rowLen = some k → k = E.len n) ∧
  ((E.cnt n = none ∧ ∃ s, c = .row s []) ∨
   ∃ xs T, E.cnt n = some xs.size ∧ w.heap[E.ρ n]? = some (.cells xs T (0, 0)) ∧ RepR E c xs.toList ∧ (∀ f j, (froN n = true → c.rowSz ≤ j) → E.im f (E.ρ n) j = none) ∧ (b.w.heap.size ≤ E.ρ n ∨ b.L (E.ρ n)))

/-- The memory. -/
structure Mem (b : Ini) (E : Emb) (hp : Nat → Option AV) (w : World) : Prop where
  rheap : ∀ n c, hp n = some c → c.live = true → OwnB b E w n c
  inj : ∀ n m c c', hp n = some c → hp m = some c' → c.live = true → c'.live = true → (E.cnt n).isSome = true → (E.cnt m).isSome = true → E.ρ n = E.ρ m → n = m
  imm : ∀ f g j v, E.im f g j = some v → ∃ c T fz, w.heap[g]? = some (.cells c T fz) ∧ c[j]? = some v
  imle : ∀ g j v, E.im true g j = some v → E.im false g j = some v
  pers : ∀ g j v, b.I g j = some v → E.im true g j = some v
  new : ∀ g j v, E.im true g j = some v → b.I g j = some v ∨ b.w.heap.size ≤ g
  imm0 : ∀ g c T fz, ¬ b.L g → b.w.heap[g]? = some (.cells c T fz) → ∀ j v, c[j]? = some v → E.im false g j = some v
  below : BelowL b.w.heap.size b.L b.w w
  shp : ∀ n c, hp n = some c → c.named (fun n => (hp n).isSome) = true
  fixed : ∀ j q, b.fx j = some q → j < 1000 → E.ρ j = q.1 ∧ E.cnt j = q.2.1 ∧ E.len j = q.2.2
  gone : ∀ n k, hp n = some (.tup [.int .i64 k]) → k = (E.len n : Int)
  newn : ∀ n c, hp n = some c → c.live = true → newN n = true → (E.cnt n).isSome = true → b.w.heap.size ≤ E.ρ n

/-- A name that is free. -/
def NewN (hp : Nat → Option AV) (d : Nat) : Prop := hp d = none ∧ 1000 ≤ d

structure Rel (b : Ini) (E : Emb) (N : Nat) (env hp : Nat → Option AV) (a : Act) (w : World) : Prop extends Mem b E hp w where
  size : a.tmps.size = N
  defers : a.defers = b.D
  renv : ∀ s v, env s = some v → ∃ x, a.tmps[s]? = some x ∧ Rep E v x
  senv : ∀ s v, env s = some v → v.named (fun n => (hp n).isSome) = true

def upd (f : Nat → Option AV) (d : Option Nat) (v : AV) : Nat → Option AV := fun n => match d with
  | some m => cond (Nat.beq n m) (some v) (f n)
  | none => f n
def updH (f : Nat → Option AV) (δ : List (Nat × AV)) : Nat → Option AV := fun n => match lk n δ with
  | some c => some c
  | none => f n

theorem beq_no {n d : Nat} (h : n ≠ d) : Nat.beq n d = false := by
  cases hb : Nat.beq n d
  · rfl
  · exact absurd (Nat.eq_of_beq_eq_true hb) h

theorem upd_same {f : Nat → Option AV} {d : Nat} {v : AV} : upd f (some d) v d = some v := by simp [upd]
theorem upd_other {f : Nat → Option AV} {d n : Nat} {v : AV} (h : n ≠ d) : upd f (some d) v n = f n := by
  have : Nat.beq n d = false := beq_no h
  simp [upd, this]
theorem updH_nil {f : Nat → Option AV} : updH f [] = f := rfl
theorem updH_same {f : Nat → Option AV} {d : Nat} {v : AV} {δ : List (Nat × AV)} : updH f ((d, v) :: δ) d = some v := by simp [updH, lk]
theorem updH_cons {f : Nat → Option AV} {d n : Nat} {v : AV} {δ : List (Nat × AV)} (h : n ≠ d) : updH f ((d, v) :: δ) n = updH f δ n := by
  have : Nat.beq n d = false := beq_no h
  simp [updH, lk, this]
theorem updH_other {f : Nat → Option AV} {d n : Nat} {v : AV} (h : n ≠ d) : updH f [(d, v)] n = f n := by rw [updH_cons h, updH_nil]
theorem updH_some {f : Nat → Option AV} {δ : List (Nat × AV)} {n : Nat} (h : (f n).isSome = true) : (updH f δ n).isSome = true := by
  unfold updH
  cases lk n δ with
  | none => exact h
  | some c => rfl

theorem Mem.lt {b : Ini} {E : Emb} {hp : Nat → Option AV} {w : World} (h : Mem b E hp w) {n : Nat} {c : AV} (hc : hp n = some c) (hl : c.live = true) {k : Nat} (hk : E.cnt n = some k) : E.ρ n < w.heap.size := by
  obtain ⟨_, h' | ⟨xs, T, h1, hx, _⟩⟩ := h.rheap n c hc hl
  · rw [h'.1] at hk; cases hk
  · rcases Nat.lt_or_ge (E.ρ n) w.heap.size with h' | h'
    · exact h'
    · simp [Array.getElem?_eq_none h'] at hx

theorem Mem.imlt {b : Ini} {E : Emb} {hp : Nat → Option AV} {w : World} (h : Mem b E hp w) {f : Bool} {g j : Nat} {v : Value} (hv : E.im f g j = some v) : g < w.heap.size := by
  obtain ⟨c, T, fz, hx, _⟩ := h.imm f g j v hv
  rcases Nat.lt_or_ge g w.heap.size with h' | h'
  · exact h'
  · simp [Array.getElem?_eq_none h'] at hx

theorem Rel.put {b : Ini} {E : Emb} {N : Nat} {env hp : Nat → Option AV} {a : Act} {w : World} (h : Rel b E N env hp a w) {dst : Option Nat} (hd : dstOK N dst = true)
    {v : AV} {x : Value} (hv : Rep E v x) (hn : v.named (fun n => (hp n).isSome) = true) : Rel b E N (upd env dst v) hp (a.put dst x) w := by
  cases dst with
  | none => exact { h with renv := h.renv, senv := h.senv }
  | some d =>
    have hd' : d < N := by simpa [dstOK] using hd
    refine { h.toMem with size := by simp [Act.put, h.size], defers := h.defers, renv := fun s u hs => ?_, senv := fun s u hs => ?_ }
    · by_cases e : s = d
      · subst e
        rw [upd_same] at hs
        cases hs
        exact ⟨x, by simp [Act.put, h.size, hd'], hv⟩
      · rw [upd_other e] at hs
        obtain ⟨y, hy, hr⟩ := h.renv s u hs
        exact ⟨y, by simp only [Act.put]; rw [Array.getElem?_setIfInBounds_ne (Ne.symm e)]; exact hy, hr⟩
    · by_cases e : s = d
      · subst e; rw [upd_same] at hs; cases hs; exact hn
      · rw [upd_other e] at hs; exact h.senv s u hs

/-- The state's temporaries, where the memory is another. -/
theorem Rel.mem {b : Ini} {E E' : Emb} {N : Nat} {env hp hp' : Nat → Option AV} {a : Act} {w w' : World} (h : Rel b E N env hp a w) (hle : E.Le E' (fun n => (hp n).isSome)) (hs : ∀ n, (hp n).isSome = true → (hp' n).isSome = true)
    (hm : Mem b E' hp' w') : Rel b E' N env hp' a w' :=
  { hm with size := h.size, defers := h.defers, renv := fun s v hv => (by
      obtain ⟨x, hx, hr⟩ := h.renv s v hv
      exact ⟨x, hx, hr.mono hle (h.senv s v hv)⟩), senv := fun s v hv => AV.named_mono hs (h.senv s v hv) }

/-- A new name. -/
def Emb.add (E : Emb) (d r : Nat) (c : Option Nat) (l : Nat) : Emb :=
  { E with ρ := fun n => if n = d then r else E.ρ n, cnt := fun n => if n = d then c else E.cnt n, len := fun n => if n = d then l else E.len n }

theorem Emb.add_le {E : Emb} {d r l : Nat} {c : Option Nat} {hp : Nat → Option AV} (hd : hp d = none) : E.Le (E.add d r c l) (fun n => (hp n).isSome) := by
  have hne : ∀ n, (hp n).isSome = true → n ≠ d := fun n hn e => by subst e; simp [hd] at hn
  exact ⟨fun n hn => by simp [Emb.add, hne n hn], fun n hn => by simp [Emb.add, hne n hn], fun n hn => by simp [Emb.add, hne n hn], fun _ _ _ _ h => h⟩

theorem Emb.add_fixed {E : Emb} {d r l : Nat} {c : Option Nat} (hd : 1000 ≤ d) {j : Nat} (hl : j < 1000) {q : Nat × Option Nat × Nat} (h : E.ρ j = q.1 ∧ E.cnt j = q.2.1 ∧ E.len j = q.2.2) :
    (E.add d r c l).ρ j = q.1 ∧ (E.add d r c l).cnt j = q.2.1 ∧ (E.add d r c l).len j = q.2.2 := by
  have : j ≠ d := by omega
  simpa [Emb.add, this] using h

/-- Cells that are pushed: a new block. -/
theorem Mem.alloc {b : Ini} {E : Emb} {hp : Nat → Option AV} {w : World} (h : Mem b E hp w) {d : Nat} (hd : NewN hp d)
    {c : AV} {xs : Array Value} {T : TypeId} (hc : RepR E c xs.toList) (hn : c.named (fun n => (hp n).isSome) = true) :
    Mem b (E.add d w.heap.size (some xs.size) (c.rowLen.getD 0)) (updH hp [(d, c)]) { w with heap := w.heap.push (.cells xs T (0, 0)) } := by
  have hle := Emb.add_le (E := E) (r := w.heap.size) (c := some xs.size) (l := c.rowLen.getD 0) hd.1
  have hsome : ∀ n, (hp n).isSome = true → ((updH hp [(d, c)]) n).isSome = true := fun n hn => updH_some hn
  refine { rheap := ?_, inj := ?_, imm := ?_, imle := h.imle, pers := h.pers, new := h.new, imm0 := h.imm0, below := ?_, shp := ?_, fixed := fun j q hj hl => Emb.add_fixed hd.2 hl (h.fixed j q hj hl), gone := ?_, newn := ?_ }
  · intro n c' hc' hl'
    by_cases e : n = d
    · subst e
      rw [updH_same] at hc'
      cases hc'
      refine ⟨fun k hk => by simp [Emb.add, hk], .inr ⟨xs, T, by simp [Emb.add], by simp [Emb.add], hc.mono hle hn, fun f j _ => ?_, .inl (by simp only [Emb.add, if_true]; exact h.below.size)⟩⟩
      simp only [Emb.add, if_true]
      cases hi : E.im f w.heap.size j with
      | none => rfl
      | some v => have := h.imlt hi; omega
    · rw [updH_other e] at hc'
      obtain ⟨g1, g2⟩ := h.rheap n c' hc' hl'
      refine ⟨fun k hk => by rw [g1 k hk]; simp [Emb.add, e], ?_⟩
      rcases g2 with ⟨g3, g4⟩ | ⟨ys, T', h1, hx, hr, hi, hb⟩
      · exact .inl ⟨by simp [Emb.add, e, g3], g4⟩
      · have hl := h.lt hc' hl' h1
        refine .inr ⟨ys, T', by simp [Emb.add, e, h1], ?_, hr.mono hle (h.shp n c' hc'), by simpa [Emb.add, e] using hi, by simpa [Emb.add, e] using hb⟩
        simp only [Emb.add, if_neg e]
        rw [Array.getElem?_push, if_neg (by omega)]
        exact hx
  · intro n m c1 c2 hn hm l1 l2 k1 k2 e
    by_cases e1 : n = d <;> by_cases e2 : m = d
    · rw [e1, e2]
    · subst e1
      rw [updH_other e2] at hm
      simp only [Emb.add, if_neg e2] at k2
      obtain ⟨k, hk⟩ := Option.isSome_iff_exists.1 k2
      have := h.lt hm l2 hk
      simp only [Emb.add, if_true, if_neg e2] at e
      omega
    · subst e2
      rw [updH_other e1] at hn
      simp only [Emb.add, if_neg e1] at k1
      obtain ⟨k, hk⟩ := Option.isSome_iff_exists.1 k1
      have := h.lt hn l1 hk
      simp only [Emb.add, if_true, if_neg e1] at e
      omega
    · rw [updH_other e1] at hn
      rw [updH_other e2] at hm
      simp only [Emb.add, if_neg e1, if_neg e2] at e k1 k2
      exact h.inj n m c1 c2 hn hm l1 l2 k1 k2 e
  · intro f g j v hv
    have hl := h.imlt (f := f) (g := g) (j := j) (v := v) hv
    obtain ⟨c', T', fz, h1, h2⟩ := h.imm f g j v hv
    exact ⟨c', T', fz, by rw [Array.getElem?_push, if_neg (by omega)]; exact h1, h2⟩
  · exact h.below.trans ⟨rfl, rfl, rfl, by simp, fun k hk _ => by rw [Array.getElem?_push, if_neg (by have := h.below.size; omega)]⟩
  · intro n c' hc'
    by_cases e : n = d
    · subst e; rw [updH_same] at hc'; cases hc'; exact AV.named_mono hsome hn
    · rw [updH_other e] at hc'; exact AV.named_mono hsome (h.shp n c' hc')
  · intro n k hc'
    by_cases e : n = d
    · subst e; rw [updH_same] at hc'; cases hc'; exact absurd hc (by simp [RepR, RepC])
    · rw [updH_other e] at hc'; rw [h.gone n k hc']; simp [Emb.add, e]
  · intro n c' hc' hl' hn hk
    by_cases e : n = d
    · subst e; simp only [Emb.add, if_true]; exact h.below.size
    · rw [updH_other e] at hc'
      simp only [Emb.add, if_neg e] at hk ⊢
      exact h.newn n c' hc' hl' hn hk

/-- A new block of the call's own. -/
theorem Rel.alloc {b : Ini} {E : Emb} {N : Nat} {env hp : Nat → Option AV} {a : Act} {w : World} (h : Rel b E N env hp a w) {d : Nat} (hd : NewN hp d)
    {c : AV} {xs : Array Value} {T : TypeId} (hc : RepR E c xs.toList) (hn : c.named (fun n => (hp n).isSome) = true) :
    ∃ E', E'.ρ d = w.heap.size ∧ E'.cnt d = some xs.size ∧ E'.len d = c.rowLen.getD 0 ∧ E.Le E' (fun n => (hp n).isSome) ∧ Rel b E' N env (updH hp [(d, c)]) a { w with heap := w.heap.push (.cells xs T (0, 0)) } := by
  refine ⟨E.add d w.heap.size (some xs.size) (c.rowLen.getD 0), by simp [Emb.add], by simp [Emb.add], by simp [Emb.add], Emb.add_le hd.1, ?_⟩
  exact h.mem (Emb.add_le hd.1) (fun n hn => updH_some hn) (h.toMem.alloc hd hc hn)

/-- The name of a row that is not there: a nil slice's. -/
theorem Rel.nilrow {b : Ini} {E : Emb} {N : Nat} {env hp : Nat → Option AV} {a : Act} {w : World} (h : Rel b E N env hp a w) {d : Nat} (hd : NewN hp d) (s : Sh) :
    ∃ E', E'.cnt d = none ∧ E'.len d = 0 ∧ E.Le E' (fun n => (hp n).isSome) ∧ Rel b E' N env (updH hp [(d, .row s [])]) a w := by
  have hle := Emb.add_le (E := E) (r := 0) (c := none) (l := 0) hd.1
  refine ⟨E.add d 0 none 0, by simp [Emb.add], by simp [Emb.add], hle, h.mem hle (fun n hn => updH_some hn) ?_⟩
  refine { rheap := ?_, inj := ?_, imm := h.imm, imle := h.imle, pers := h.pers, new := h.new, imm0 := h.imm0, below := h.below, shp := ?_, fixed := fun j q hj hl => Emb.add_fixed hd.2 hl (h.fixed j q hj hl), gone := ?_, newn := ?_ }
  · intro n c' hc' hl'
    by_cases e : n = d
    · subst e
      rw [updH_same] at hc'
      cases hc'
      exact ⟨fun k hk => by simp [AV.rowLen] at hk; simp [Emb.add, hk], .inl ⟨by simp [Emb.add], s, rfl⟩⟩
    · rw [updH_other e] at hc'
      obtain ⟨g1, g2⟩ := h.rheap n c' hc' hl'
      refine ⟨fun k hk => by rw [g1 k hk]; simp [Emb.add, e], ?_⟩
      rcases g2 with ⟨g3, g4⟩ | ⟨ys, T', h1, hx, hr, hi, hb⟩
      · exact .inl ⟨by simp [Emb.add, e, g3], g4⟩
      · exact .inr ⟨ys, T', by simp [Emb.add, e, h1], by simpa [Emb.add, e] using hx, hr.mono hle (h.shp n c' hc'), by simpa [Emb.add, e] using hi, by simpa [Emb.add, e] using hb⟩
  · intro n m c1 c2 hn hm l1 l2 k1 k2 e
    by_cases e1 : n = d
    · subst e1; simp [Emb.add] at k1
    · by_cases e2 : m = d
      · subst e2; simp [Emb.add] at k2
      · rw [updH_other e1] at hn
        rw [updH_other e2] at hm
        simp only [Emb.add, if_neg e1, if_neg e2] at e k1 k2
        exact h.inj n m c1 c2 hn hm l1 l2 k1 k2 e
  · intro n c' hc'
    by_cases e : n = d
    · subst e; rw [updH_same] at hc'; cases hc'; simp [AV.named]
    · rw [updH_other e] at hc'; exact AV.named_mono (fun n hn => updH_some hn) (h.shp n c' hc')
  · intro n k hc'
    by_cases e : n = d
    · subst e; rw [updH_same] at hc'; cases hc'
    · rw [updH_other e] at hc'; rw [h.gone n k hc']; simp [Emb.add, e]
  · intro n c' hc' hl' hn hk
    by_cases e : n = d
    · subst e; simp [Emb.add] at hk
    · rw [updH_other e] at hc'
      simp only [Emb.add, if_neg e] at hk ⊢
      exact h.newn n c' hc' hl' hn hk

/-- Of a row the length alone is known from now on. -/
theorem Rel.forget {b : Ini} {E : Emb} {N : Nat} {env hp : Nat → Option AV} {a : Act} {w : World} (h : Rel b E N env hp a w) (n0 k0 : Nat) (hk : k0 = E.len n0) : Rel b E N env (updH hp [(n0, .tup [.int .i64 (k0 : Nat)])]) a w := by
  refine h.mem ⟨fun _ _ => rfl, fun _ _ => rfl, fun _ _ => rfl, fun _ _ _ _ h => h⟩ (fun n hn => updH_some hn) ?_
  refine { h.toMem with rheap := ?_, inj := ?_, shp := ?_, gone := ?_, newn := fun n c hc hl => ?_ }
  rotate_left 4
  · by_cases e : n = n0
    · subst e; rw [updH_same] at hc; cases hc; cases hl
    · rw [updH_other e] at hc; exact h.newn n c hc hl
  · intro n c hc hl
    by_cases e : n = n0
    · subst e; rw [updH_same] at hc; cases hc; cases hl
    · rw [updH_other e] at hc; exact h.rheap n c hc hl
  · intro n m c1 c2 hn hm l1 l2
    by_cases e1 : n = n0
    · subst e1; rw [updH_same] at hn; cases hn; cases l1
    · by_cases e2 : m = n0
      · subst e2; rw [updH_same] at hm; cases hm; cases l2
      · rw [updH_other e1] at hn; rw [updH_other e2] at hm; exact h.inj n m c1 c2 hn hm l1 l2
  · intro n c hc
    by_cases e : n = n0
    · subst e; rw [updH_same] at hc; cases hc; simp [AV.named, AV.nameds]
    · rw [updH_other e] at hc; exact AV.named_mono (fun n hn => updH_some hn) (h.shp n c hc)
  · intro n k hc
    by_cases e : n = n0
    · subst e; rw [updH_same] at hc; cases hc; rw [hk]
    · rw [updH_other e] at hc; exact h.gone n k hc

/-- A block of the call's own is written. -/
theorem Rel.write {b : Ini} {E : Emb} {N : Nat} {env hp : Nat → Option AV} {a : Act} {w : World} (h : Rel b E N env hp a w) {d : Nat} {c c' : AV} (hd : hp d = some c) (hl : c.live = true) (hfr : froN d = false)
    {xs ys : Array Value} {T : TypeId} (hk : E.cnt d = some xs.size) (hx : w.heap[E.ρ d]? = some (.cells xs T (0, 0))) (hsz : ys.size = xs.size) (hc : RepR E c' ys.toList) (hrow : c'.rowLen = c.rowLen) (hn : c'.named (fun n => (hp n).isSome) = true) :
    Rel b E N env (updH hp [(d, c')]) a (w.setRow (E.ρ d) ys) := by
  obtain ⟨q1, q2 | ⟨xs', T', k1, hx', hr, hi, hb⟩⟩ := h.rheap d c hd hl
  · rw [q2.1] at hk; cases hk
  rw [hx] at hx'; cases hx'
  have hi : ∀ f j, E.im f (E.ρ d) j = none := fun f j => hi f j (fun h => by rw [hfr] at h; cases h)
  have hne : ∀ f g j v, E.im f g j = some v → g ≠ E.ρ d := fun f g j v hv e => by subst e; rw [hi] at hv; cases hv
  have hbase : ∀ k, k < b.w.heap.size → ¬ b.L k → k ≠ E.ρ d := fun k hk hl e => by
    subst e
    rcases hb with hb | hb
    · omega
    · exact hl hb
  refine h.mem ⟨fun _ _ => rfl, fun _ _ => rfl, fun _ _ => rfl, fun _ _ _ _ h => h⟩ (fun n hn => updH_some hn) ?_
  refine { h.toMem with rheap := ?_, inj := ?_, imm := ?_, below := ?_, shp := ?_, gone := ?_, newn := fun n u hu hlu => ?_ }
  rotate_left 6
  · by_cases e : n = d
    · subst e; exact h.newn n c hd hl
    · rw [updH_other e] at hu; exact h.newn n u hu hlu
  · intro n u hu hlu
    by_cases e : n = d
    · subst e
      rw [updH_same] at hu; cases hu
      exact ⟨fun k hk => q1 k (by rw [← hrow]; exact hk), .inr ⟨ys, T, by rw [hk, hsz], setRow_heap w _ _ _ _ _ hx, hc, fun f j _ => hi f j, hb⟩⟩
    · rw [updH_other e] at hu
      obtain ⟨p1, p2⟩ := h.rheap n u hu hlu
      refine ⟨p1, p2.imp id ?_⟩
      rintro ⟨zs, T', kz, hz, hr', hi'⟩
      refine ⟨zs, T', kz, ?_, hr', hi'⟩
      rw [setRow_other]
      · exact hz
      · intro e'
        exact e (h.inj n d u c hu hd hlu hl (by simp [kz]) (by simp [hk]) e')
  · intro n m c1 c2 hn hm l1 l2 j1 j2 e
    by_cases e1 : n = d <;> by_cases e2 : m = d
    · rw [e1, e2]
    · subst e1; rw [updH_other e2] at hm; exact h.inj _ m c c2 hd hm hl l2 j1 j2 e
    · subst e2; rw [updH_other e1] at hn; exact h.inj n _ c1 c hn hd l1 hl j1 j2 e
    · rw [updH_other e1] at hn; rw [updH_other e2] at hm; exact h.inj n m c1 c2 hn hm l1 l2 j1 j2 e
  · intro f g j v hv
    obtain ⟨c1, T1, fz, h1, h2⟩ := h.imm f g j v hv
    exact ⟨c1, T1, fz, by rw [setRow_other _ _ _ _ (hne f g j v hv)]; exact h1, h2⟩
  · exact h.below.trans ⟨rfl, rfl, rfl, by simp, fun k hk hL => by rw [setRow_other _ _ _ _ (hbase k hk hL)]⟩
  · intro n u hu
    by_cases e : n = d
    · subst e; rw [updH_same] at hu; cases hu; exact AV.named_mono (fun n hn => updH_some hn) hn
    · rw [updH_other e] at hu; exact AV.named_mono (fun n hn => updH_some hn) (h.shp n u hu)
  · intro n k hu
    by_cases e : n = d
    · subst e; rw [updH_same] at hu; cases hu; exact absurd hc (by simp [RepR, RepC])
    · rw [updH_other e] at hu; exact h.gone n k hu
end
end Go.Sy
