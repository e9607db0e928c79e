/- The relation between the symbolic state and the model's; memory that is made and written. -/
import Derived.Test.YtapnedegcnmhgaaDoorSyKa
import Derived.DeepKeys
import Derived.Laws.Strings
import Derived.Laws.Tables
set_option linter.unusedVariables false
set_option linter.unusedSimpArgs false
namespace Go.Sy
open Go Go.RowKit
noncomputable section
structure BelowL (B : Nat) (L : Nat → Prop) (w w' : World) : Prop where
 os : w'.os = w.os
 tape : w'.tape = w.tape
 output : w'.output = w.output
 size : w.heap.size ≤ w'.heap.size
 block : ∀ k, k < B → ¬ L k → w'.heap[k]? = w.heap[k]?
theorem BelowL.refl (B : Nat) (L : Nat → Prop) (w : World) : BelowL B L w w := ⟨rfl, rfl, rfl, Nat.le_refl _, fun _ _ _ => rfl⟩
theorem BelowL.trans {B : Nat} {L : Nat → Prop} {a b c : World} (h : BelowL B L a b) (k : BelowL B L b c) : BelowL B L a c :=
 ⟨k.os.trans h.os, k.tape.trans h.tape, k.output.trans h.output, Nat.le_trans h.size k.size, fun i hi hl => (k.block i hi hl).trans (h.block i hi hl)⟩
theorem BelowL.below {B : Nat} {L : Nat → Prop} {w w' : World} (h : BelowL B L w w') (hL : ∀ k, ¬ L k) : Below B w w' := ⟨h.os, h.tape, h.output, h.size, fun k hk => h.block k hk (hL k)⟩
structure Ini where
 w : World
 L : Nat → Prop
 I : Nat → Nat → Option Value
 fx : Nat → Option (Nat × Option Nat × Nat)
 D : List Deferred
def AV.rowSz : AV → Nat
 | .row s l => l.length * s.size
 | _ => 0
def OwnB (b : Ini) (E : Emb) (w : World) (n : Nat) (c : AV) : Prop :=
 (∀ k, c.rowLen = some k → k = E.len n) ∧
 ((E.cnt n = none ∧ ∃ s, c = .row s []) ∨
  ∃ xs T, E.cnt n = some xs.size ∧ w.heap[E.ρ n]? = some (.cells xs T (0, 0)) ∧ RepR E c xs.toList ∧ (∀ f j, (froN n = true → c.rowSz ≤ j) → E.im f (E.ρ n) j = none) ∧ (b.w.heap.size ≤ E.ρ n ∨ b.L (E.ρ n)))
structure Mem (b : Ini) (E : Emb) (hp : Nat → Option AV) (w : World) : Prop where
 rheap : ∀ n c, hp n = some c → c.live = true → OwnB b E w n c
 inj : ∀ n m c c', hp n = some c → hp m = some c' → c.live = true → c'.live = true → (E.cnt n).isSome = true → (E.cnt m).isSome = true → E.ρ n = E.ρ m → n = m
 imm : ∀ f g j v, E.im f g j = some v → ∃ c T fz, w.heap[g]? = some (.cells c T fz) ∧ c[j]? = some v
 imle : ∀ g j v, E.im true g j = some v → E.im false g j = some v
 pers : ∀ g j v, b.I g j = some v → E.im true g j = some v
 new : ∀ g j v, E.im true g j = some v → b.I g j = some v ∨ b.w.heap.size ≤ g
 imm0 : ∀ g c T fz, ¬ b.L g → b.w.heap[g]? = some (.cells c T fz) → ∀ j v, c[j]? = some v → E.im false g j = some v
 below : BelowL b.w.heap.size b.L b.w w
 shp : ∀ n c, hp n = some c → c.named (fun n => (hp n).isSome) = true
 fixed : ∀ j q, b.fx j = some q → j < 1000 → E.ρ j = q.1 ∧ E.cnt j = q.2.1 ∧ E.len j = q.2.2
 gone : ∀ n k, hp n = some (.tup [.int .i64 k]) → k = (E.len n : Int)
 newn : ∀ n c, hp n = some c → c.live = true → newN n = true → (E.cnt n).isSome = true → b.w.heap.size ≤ E.ρ n
def NewN (hp : Nat → Option AV) (d : Nat) : Prop := hp d = none ∧ 1000 ≤ d
structure Rel (b : Ini) (E : Emb) (N : Nat) (env hp : Nat → Option AV) (a : Act) (w : World) : Prop extends Mem b E hp w where
 size : a.tmps.size = N
 defers : a.defers = b.D
 renv : ∀ s v, env s = some v → ∃ x, a.tmps[s]? = some x ∧ Rep E v x
 senv : ∀ s v, env s = some v → v.named (fun n => (hp n).isSome) = true
def upd (f : Nat → Option AV) (d : Option Nat) (v : AV) : Nat → Option AV := fun n => match d with
 | some m => cond (Nat.beq n m) (some v) (f n)
 | none => f n
def updH (f : Nat → Option AV) (δ : List (Nat × AV)) : Nat → Option AV := fun n => match lk n δ with
 | some c => some c
 | none => f n
theorem beq_no {n d : Nat} (h : n ≠ d) : Nat.beq n d = false := by
 cases hb : Nat.beq n d
 ·rfl
 ·exact absurd (Nat.eq_of_beq_eq_true hb) h
theorem upd_same {f : Nat → Option AV} {d : Nat} {v : AV} : upd f (some d) v d = some v := by simp [upd]
theorem upd_other {f : Nat → Option AV} {d n : Nat} {v : AV} (h : n ≠ d) : upd f (some d) v n = f n := by
 have : Nat.beq n d = false := beq_no h
 simp [upd, this]
theorem updH_nil {f : Nat → Option AV} : updH f [] = f := rfl
theorem updH_same {f : Nat → Option AV} {d : Nat} {v : AV} {δ : List (Nat × AV)} : updH f ((d, v) :: δ) d = some v := by simp [updH, lk]
theorem updH_cons {f : Nat → Option AV} {d n : Nat} {v : AV} {δ : List (Nat × AV)} (h : n ≠ d) : updH f ((d, v) :: δ) n = updH f δ n := by
 have : Nat.beq n d = false := beq_no h
 simp [updH, lk, this]
theorem updH_other {f : Nat → Option AV} {d n : Nat} {v : AV} (h : n ≠ d) : updH f [(d, v)] n = f n := by rw [updH_cons h, updH_nil]
theorem updH_some {f : Nat → Option AV} {δ : List (Nat × AV)} {n : Nat} (h : (f n).isSome = true) : (updH f δ n).isSome = true := by
 unfold updH
 cases lk n δ with
 | none => exact h
 | some c => rfl
theorem Mem.lt {b : Ini} {E : Emb} {hp : Nat → Option AV} {w : World} (h : Mem b E hp w) {n : Nat} {c : AV} (hc : hp n = some c) (hl : c.live = true) {k : Nat} (hk : E.cnt n = some k) : E.ρ n < w.heap.size := by
 obtain ⟨_, h' | ⟨xs, T, h1, hx, _⟩⟩ := h.rheap n c hc hl
 ·rw [h'.1] at hk; cases hk
 ·rcases Nat.lt_or_ge (E.ρ n) w.heap.size with h' | h'
  ·exact h'
  ·simp [Array.getElem?_eq_none h'] at hx
theorem Mem.imlt {b : Ini} {E : Emb} {hp : Nat → Option AV} {w : World} (h : Mem b E hp w) {f : Bool} {g j : Nat} {v : Value} (hv : E.im f g j = some v) : g < w.heap.size := by
 obtain ⟨c, T, fz, hx, _⟩ := h.imm f g j v hv
 rcases Nat.lt_or_ge g w.heap.size with h' | h'
 ·exact h'
 ·simp [Array.getElem?_eq_none h'] at hx
theorem Rel.put {b : Ini} {E : Emb} {N : Nat} {env hp : Nat → Option AV} {a : Act} {w : World} (h : Rel b E N env hp a w) {dst : Option Nat} (hd : dstOK N dst = true)
  {v : AV} {x : Value} (hv : Rep E v x) (hn : v.named (fun n => (hp n).isSome) = true) : Rel b E N (upd env dst v) hp (a.put dst x) w := by
 cases dst with
 | none => exact { h with renv := h.renv, senv := h.senv }
 | some d =>
  have hd' : d < N := by simpa [dstOK] using hd
  refine { h.toMem with size := by simp [Act.put, h.size], defers := h.defers, renv := fun s u hs => ?_, senv := fun s u hs => ?_ }
  ·by_cases e : s = d
   ·subst e
    rw [upd_same] at hs
    cases hs
    exact ⟨x, by simp [Act.put, h.size, hd'], hv⟩
   ·rw [upd_other e] at hs
    obtain ⟨y, hy, hr⟩ := h.renv s u hs
    exact ⟨y, by simp only [Act.put]; rw [Array.getElem?_setIfInBounds_ne (Ne.symm e)]; exact hy, hr⟩
  ·by_cases e : s = d
   ·subst e; rw [upd_same] at hs; cases hs; exact hn
   ·rw [upd_other e] at hs; exact h.senv s u hs
theorem Rel.mem {b : Ini} {E E' : Emb} {N : Nat} {env hp hp' : Nat → Option AV} {a : Act} {w w' : World} (h : Rel b E N env hp a w) (hle : E.Le E' (fun n => (hp n).isSome)) (hs : ∀ n, (hp n).isSome = true → (hp' n).isSome = true)
  (hm : Mem b E' hp' w') : Rel b E' N env hp' a w' :=
 { hm with size := h.size, defers := h.defers, renv := fun s v hv => (by
   obtain ⟨x, hx, hr⟩ := h.renv s v hv
   exact ⟨x, hx, hr.mono hle (h.senv s v hv)⟩), senv := fun s v hv => AV.named_mono hs (h.senv s v hv) }
def Emb.add (E : Emb) (d r : Nat) (c : Option Nat) (l : Nat) : Emb :=
 { E with ρ := fun n => if n = d then r else E.ρ n, cnt := fun n => if n = d then c else E.cnt n, len := fun n => if n = d then l else E.len n }
theorem Emb.add_le {E : Emb} {d r l : Nat} {c : Option Nat} {hp : Nat → Option AV} (hd : hp d = none) : E.Le (E.add d r c l) (fun n => (hp n).isSome) := by
 have hne : ∀ n, (hp n).isSome = true → n ≠ d := fun n hn e => by subst e; simp [hd] at hn
 exact ⟨fun n hn => by simp [Emb.add, hne n hn], fun n hn => by simp [Emb.add, hne n hn], fun n hn => by simp [Emb.add, hne n hn], fun _ _ _ _ h => h⟩
theorem Emb.add_fixed {E : Emb} {d r l : Nat} {c : Option Nat} (hd : 1000 ≤ d) {j : Nat} (hl : j < 1000) {q : Nat × Option Nat × Nat} (h : E.ρ j = q.1 ∧ E.cnt j = q.2.1 ∧ E.len j = q.2.2) :
  (E.add d r c l).ρ j = q.1 ∧ (E.add d r c l).cnt j = q.2.1 ∧ (E.add d r c l).len j = q.2.2 := by
 have : j ≠ d := by omega
 simpa [Emb.add, this] using h
theorem Mem.alloc {b : Ini} {E : Emb} {hp : Nat → Option AV} {w : World} (h : Mem b E hp w) {d : Nat} (hd : NewN hp d)
  {c : AV} {xs : Array Value} {T : TypeId} (hc : RepR E c xs.toList) (hn : c.named (fun n => (hp n).isSome) = true) :
  Mem b (E.add d w.heap.size (some xs.size) (c.rowLen.getD 0)) (updH hp [(d, c)]) { w with heap := w.heap.push (.cells xs T (0, 0)) } := by
 have hle := Emb.add_le (E := E) (r := w.heap.size) (c := some xs.size) (l := c.rowLen.getD 0) hd.1
 have hsome : ∀ n, (hp n).isSome = true → ((updH hp [(d, c)]) n).isSome = true := fun n hn => updH_some hn
 refine { rheap := ?_, inj := ?_, imm := ?_, imle := h.imle, pers := h.pers, new := h.new, imm0 := h.imm0, below := ?_, shp := ?_, fixed := fun j q hj hl => Emb.add_fixed hd.2 hl (h.fixed j q hj hl), gone := ?_, newn := ?_ }
 ·intro n c' hc' hl'
  by_cases e : n = d
  ·subst e
   rw [updH_same] at hc'
   cases hc'
   refine ⟨fun k hk => by simp [Emb.add, hk], .inr ⟨xs, T, by simp [Emb.add], by simp [Emb.add], hc.mono hle hn, fun f j _ => ?_, .inl (by simp only [Emb.add, if_true]; exact h.below.size)⟩⟩
   simp only [Emb.add, if_true]
   cases hi : E.im f w.heap.size j with
   | none => rfl
   | some v => have := h.imlt hi; omega
  ·rw [updH_other e] at hc'
   obtain ⟨g1, g2⟩ := h.rheap n c' hc' hl'
   refine ⟨fun k hk => by rw [g1 k hk]; simp [Emb.add, e], ?_⟩
   rcases g2 with ⟨g3, g4⟩ | ⟨ys, T', h1, hx, hr, hi, hb⟩
   ·exact .inl ⟨by simp [Emb.add, e, g3], g4⟩
   ·have hl := h.lt hc' hl' h1
    refine .inr ⟨ys, T', by simp [Emb.add, e, h1], ?_, hr.mono hle (h.shp n c' hc'), by simpa [Emb.add, e] using hi, by simpa [Emb.add, e] using hb⟩
    simp only [Emb.add, if_neg e]
    rw [Array.getElem?_push, if_neg (by omega)]
    exact hx
 ·intro n m c1 c2 hn hm l1 l2 k1 k2 e
  by_cases e1 : n = d <;> by_cases e2 : m = d
  ·rw [e1, e2]
  ·subst e1
   rw [updH_other e2] at hm
   simp only [Emb.add, if_neg e2] at k2
   obtain ⟨k, hk⟩ := Option.isSome_iff_exists.1 k2
   have := h.lt hm l2 hk
   simp only [Emb.add, if_true, if_neg e2] at e
   omega
  ·subst e2
   rw [updH_other e1] at hn
   simp only [Emb.add, if_neg e1] at k1
   obtain ⟨k, hk⟩ := Option.isSome_iff_exists.1 k1
   have := h.lt hn l1 hk
   simp only [Emb.add, if_true, if_neg e1] at e
   omega
  ·rw [updH_other e1] at hn
   rw [updH_other e2] at hm
   simp only [Emb.add, if_neg e1, if_neg e2] at e k1 k2
   exact h.inj n m c1 c2 hn hm l1 l2 k1 k2 e
 ·intro f g j v hv
  have hl := h.imlt (f := f) (g := g) (j := j) (v := v) hv
  obtain ⟨c', T', fz, h1, h2⟩ := h.imm f g j v hv
  exact ⟨c', T', fz, by rw [Array.getElem?_push, if_neg (by omega)]; exact h1, h2⟩
 ·exact h.below.trans ⟨rfl, rfl, rfl, by simp, fun k hk _ => by rw [Array.getElem?_push, if_neg (by have := h.below.size; omega)]⟩
 ·intro n c' hc'
  by_cases e : n = d
  ·subst e; rw [updH_same] at hc'; cases hc'; exact AV.named_mono hsome hn
  ·rw [updH_other e] at hc'; exact AV.named_mono hsome (h.shp n c' hc')
 ·intro n k hc'
  by_cases e : n = d
  ·subst e; rw [updH_same] at hc'; cases hc'; exact absurd hc (by simp [RepR, RepC])
  ·rw [updH_other e] at hc'; rw [h.gone n k hc']; simp [Emb.add, e]
 ·intro n c' hc' hl' hn hk
  by_cases e : n = d
  ·subst e; simp only [Emb.add, if_true]; exact h.below.size
  ·rw [updH_other e] at hc'
   simp only [Emb.add, if_neg e] at hk ⊢
   exact h.newn n c' hc' hl' hn hk
theorem Rel.alloc {b : Ini} {E : Emb} {N : Nat} {env hp : Nat → Option AV} {a : Act} {w : World} (h : Rel b E N env hp a w) {d : Nat} (hd : NewN hp d)
  {c : AV} {xs : Array Value} {T : TypeId} (hc : RepR E c xs.toList) (hn : c.named (fun n => (hp n).isSome) = true) :
  ∃ E', E'.ρ d = w.heap.size ∧ E'.cnt d = some xs.size ∧ E'.len d = c.rowLen.getD 0 ∧ E.Le E' (fun n => (hp n).isSome) ∧ Rel b E' N env (updH hp [(d, c)]) a { w with heap := w.heap.push (.cells xs T (0, 0)) } := by
 refine ⟨E.add d w.heap.size (some xs.size) (c.rowLen.getD 0), by simp [Emb.add], by simp [Emb.add], by simp [Emb.add], Emb.add_le hd.1, ?_⟩
 exact h.mem (Emb.add_le hd.1) (fun n hn => updH_some hn) (h.toMem.alloc hd hc hn)
theorem Rel.nilrow {b : Ini} {E : Emb} {N : Nat} {env hp : Nat → Option AV} {a : Act} {w : World} (h : Rel b E N env hp a w) {d : Nat} (hd : NewN hp d) (s : Sh) :
  ∃ E', E'.cnt d = none ∧ E'.len d = 0 ∧ E.Le E' (fun n => (hp n).isSome) ∧ Rel b E' N env (updH hp [(d, .row s [])]) a w := by
 have hle := Emb.add_le (E := E) (r := 0) (c := none) (l := 0) hd.1
 refine ⟨E.add d 0 none 0, by simp [Emb.add], by simp [Emb.add], hle, h.mem hle (fun n hn => updH_some hn) ?_⟩
 refine { rheap := ?_, inj := ?_, imm := h.imm, imle := h.imle, pers := h.pers, new := h.new, imm0 := h.imm0, below := h.below, shp := ?_, fixed := fun j q hj hl => Emb.add_fixed hd.2 hl (h.fixed j q hj hl), gone := ?_, newn := ?_ }
 ·intro n c' hc' hl'
  by_cases e : n = d
  ·subst e
   rw [updH_same] at hc'
   cases hc'
   exact ⟨fun k hk => by simp [AV.rowLen] at hk; simp [Emb.add, hk], .inl ⟨by simp [Emb.add], s, rfl⟩⟩
  ·rw [updH_other e] at hc'
   obtain ⟨g1, g2⟩ := h.rheap n c' hc' hl'
   refine ⟨fun k hk => by rw [g1 k hk]; simp [Emb.add, e], ?_⟩
   rcases g2 with ⟨g3, g4⟩ | ⟨ys, T', h1, hx, hr, hi, hb⟩
   ·exact .inl ⟨by simp [Emb.add, e, g3], g4⟩
   ·exact .inr ⟨ys, T', by simp [Emb.add, e, h1], by simpa [Emb.add, e] using hx, hr.mono hle (h.shp n c' hc'), by simpa [Emb.add, e] using hi, by simpa [Emb.add, e] using hb⟩
 ·intro n m c1 c2 hn hm l1 l2 k1 k2 e
  by_cases e1 : n = d
  ·subst e1; simp [Emb.add] at k1
  ·by_cases e2 : m = d
   ·subst e2; simp [Emb.add] at k2
   ·rw [updH_other e1] at hn
    rw [updH_other e2] at hm
    simp only [Emb.add, if_neg e1, if_neg e2] at e k1 k2
    exact h.inj n m c1 c2 hn hm l1 l2 k1 k2 e
 ·intro n c' hc'
  by_cases e : n = d
  ·subst e; rw [updH_same] at hc'; cases hc'; simp [AV.named]
  ·rw [updH_other e] at hc'; exact AV.named_mono (fun n hn => updH_some hn) (h.shp n c' hc')
 ·intro n k hc'
  by_cases e : n = d
  ·subst e; rw [updH_same] at hc'; cases hc'
  ·rw [updH_other e] at hc'; rw [h.gone n k hc']; simp [Emb.add, e]
 ·intro n c' hc' hl' hn hk
  by_cases e : n = d
  ·subst e; simp [Emb.add] at hk
  ·rw [updH_other e] at hc'
   simp only [Emb.add, if_neg e] at hk ⊢
   exact h.newn n c' hc' hl' hn hk
theorem Rel.forget {b : Ini} {E : Emb} {N : Nat} {env hp : Nat → Option AV} {a : Act} {w : World} (h : Rel b E N env hp a w) (n0 k0 : Nat) (hk : k0 = E.len n0) : Rel b E N env (updH hp [(n0, .tup [.int .i64 (k0 : Nat)])]) a w := by
 refine h.mem ⟨fun _ _ => rfl, fun _ _ => rfl, fun _ _ => rfl, fun _ _ _ _ h => h⟩ (fun n hn => updH_some hn) ?_
 refine { h.toMem with rheap := ?_, inj := ?_, shp := ?_, gone := ?_, newn := fun n c hc hl => ?_ }
 rotate_left 4
 ·by_cases e : n = n0
  ·subst e; rw [updH_same] at hc; cases hc; cases hl
  ·rw [updH_other e] at hc; exact h.newn n c hc hl
 ·intro n c hc hl
  by_cases e : n = n0
  ·subst e; rw [updH_same] at hc; cases hc; cases hl
  ·rw [updH_other e] at hc; exact h.rheap n c hc hl
 ·intro n m c1 c2 hn hm l1 l2
  by_cases e1 : n = n0
  ·subst e1; rw [updH_same] at hn; cases hn; cases l1
  ·by_cases e2 : m = n0
   ·subst e2; rw [updH_same] at hm; cases hm; cases l2
   ·rw [updH_other e1] at hn; rw [updH_other e2] at hm; exact h.inj n m c1 c2 hn hm l1 l2
 ·intro n c hc
  by_cases e : n = n0
  ·subst e; rw [updH_same] at hc; cases hc; simp [AV.named, AV.nameds]
  ·rw [updH_other e] at hc; exact AV.named_mono (fun n hn => updH_some hn) (h.shp n c hc)
 ·intro n k hc
  by_cases e : n = n0
  ·subst e; rw [updH_same] at hc; cases hc; rw [hk]
  ·rw [updH_other e] at hc; exact h.gone n k hc
theorem Rel.write {b : Ini} {E : Emb} {N : Nat} {env hp : Nat → Option AV} {a : Act} {w : World} (h : Rel b E N env hp a w) {d : Nat} {c c' : AV} (hd : hp d = some c) (hl : c.live = true) (hfr : froN d = false)
  {xs ys : Array Value} {T : TypeId} (hk : E.cnt d = some xs.size) (hx : w.heap[E.ρ d]? = some (.cells xs T (0, 0))) (hsz : ys.size = xs.size) (hc : RepR E c' ys.toList) (hrow : c'.rowLen = c.rowLen) (hn : c'.named (fun n => (hp n).isSome) = true) :
  Rel b E N env (updH hp [(d, c')]) a (w.setRow (E.ρ d) ys) := by
 obtain ⟨q1, q2 | ⟨xs', T', k1, hx', hr, hi, hb⟩⟩ := h.rheap d c hd hl
 ·rw [q2.1] at hk; cases hk
 rw [hx] at hx'; cases hx'
 have hi : ∀ f j, E.im f (E.ρ d) j = none := fun f j => hi f j (fun h => by rw [hfr] at h; cases h)
 have hne : ∀ f g j v, E.im f g j = some v → g ≠ E.ρ d := fun f g j v hv e => by subst e; rw [hi] at hv; cases hv
 have hbase : ∀ k, k < b.w.heap.size → ¬ b.L k → k ≠ E.ρ d := fun k hk hl e => by
  subst e
  rcases hb with hb | hb
  ·omega
  ·exact hl hb
 refine h.mem ⟨fun _ _ => rfl, fun _ _ => rfl, fun _ _ => rfl, fun _ _ _ _ h => h⟩ (fun n hn => updH_some hn) ?_
 refine { h.toMem with rheap := ?_, inj := ?_, imm := ?_, below := ?_, shp := ?_, gone := ?_, newn := fun n u hu hlu => ?_ }
 rotate_left 6
 ·by_cases e : n = d
  ·subst e; exact h.newn n c hd hl
  ·rw [updH_other e] at hu; exact h.newn n u hu hlu
 ·intro n u hu hlu
  by_cases e : n = d
  ·subst e
   rw [updH_same] at hu; cases hu
   exact ⟨fun k hk => q1 k (by rw [← hrow]; exact hk), .inr ⟨ys, T, by rw [hk, hsz], setRow_heap w _ _ _ _ _ hx, hc, fun f j _ => hi f j, hb⟩⟩
  ·rw [updH_other e] at hu
   obtain ⟨p1, p2⟩ := h.rheap n u hu hlu
   refine ⟨p1, p2.imp id ?_⟩
   rintro ⟨zs, T', kz, hz, hr', hi'⟩
   refine ⟨zs, T', kz, ?_, hr', hi'⟩
   rw [setRow_other]
   ·exact hz
   ·intro e'
    exact e (h.inj n d u c hu hd hlu hl (by simp [kz]) (by simp [hk]) e')
 ·intro n m c1 c2 hn hm l1 l2 j1 j2 e
  by_cases e1 : n = d <;> by_cases e2 : m = d
  ·rw [e1, e2]
  ·subst e1; rw [updH_other e2] at hm; exact h.inj _ m c c2 hd hm hl l2 j1 j2 e
  ·subst e2; rw [updH_other e1] at hn; exact h.inj n _ c1 c hn hd l1 hl j1 j2 e
  ·rw [updH_other e1] at hn; rw [updH_other e2] at hm; exact h.inj n m c1 c2 hn hm l1 l2 j1 j2 e
 ·intro f g j v hv
  obtain ⟨c1, T1, fz, h1, h2⟩ := h.imm f g j v hv
  exact ⟨c1, T1, fz, by rw [setRow_other _ _ _ _ (hne f g j v hv)]; exact h1, h2⟩
 ·exact h.below.trans ⟨rfl, rfl, rfl, by simp, fun k hk hL => by rw [setRow_other _ _ _ _ (hbase k hk hL)]⟩
 ·intro n u hu
  by_cases e : n = d
  ·subst e; rw [updH_same] at hu; cases hu; exact AV.named_mono (fun n hn => updH_some hn) hn
  ·rw [updH_other e] at hu; exact AV.named_mono (fun n hn => updH_some hn) (h.shp n u hu)
 ·intro n k hu
  by_cases e : n = d
  ·subst e; rw [updH_same] at hu; cases hu; exact absurd hc (by simp [RepR, RepC])
  ·rw [updH_other e] at hu; exact h.gone n k hu
end
end Go.Sy
set_option linter.unusedVariables false
set_option linter.unusedSimpArgs false
namespace Go.Sy
open Go Go.RowKit
noncomputable section
theorem cond_bind {α β : Type} (b : Bool) (x y : Option α) (k : α → Option β) : (cond b x y).bind k = cond b (x.bind k) (y.bind k) := by cases b <;> rfl
theorem ite_bind {α β : Type} (c : Prop) [Decidable c] (x y : Option α) (k : α → Option β) : (if c then x else y).bind k = if c then x.bind k else y.bind k := by split <;> rfl
theorem binK_eq {β : Type} (P : Program) (op : BinOp) (t : TypeId) (a b : AV) (k : AV → Option β) : binK P op t a b k = (binK P op t a b some).bind k := by
 unfold binK
 split
 ·cases op <;> simp only [cond_bind, ite_bind, Option.bind_some, Option.bind_none]
 ·cases op <;> simp only [cond_bind, Option.bind_some, Option.bind_none]
 ·split
  ·rfl
  ·split <;> simp_all
theorem unK_eq {β : Type} (op : UnOp) (a : AV) (k : AV → Option β) : unK op a k = (unK op a some).bind k := by
 unfold unK; split <;> simp_all
structure SL where
 s : Sh
 l : List s.T
def listF0 (hp : Nat → Option AV) (v : AV) : Option SL := listK0 hp v fun s l => some ⟨s, l⟩
def listF (hp : Nat → Option AV) (v : AV) : Option SL := listK hp v fun s l => some ⟨s, l⟩
theorem listK0_eq {β : Type} (hp : Nat → Option AV) (v : AV) (k : (s : Sh) → List s.T → Option β) : listK0 hp v k = (listF0 hp v).bind fun p => k p.s p.l := by
 unfold listF0 listK0
 split
 ·rfl
 ·rfl
 ·rfl
 ·split
  ·simp [ite_bind]
  ·rfl
 ·split
  ·simp [ite_bind, cond_bind]
  ·rfl
 ·split
  ·conv => lhs; rw [getB_eq]
   conv => rhs; rw [getB_eq]
   cases gett _ _ with
   | none => rfl
   | some u =>
    simp only [Option.bind_some]
    split <;> simp [ite_bind, cond_bind]
  ·rfl
 ·rfl
theorem textsK_eq {β : Type} (hp : Nat → Option AV) : ∀ (l : List AV) (k : List (List Int) → Option β), textsK hp l k = (textsK hp l some).bind k
 | [], k => rfl
 | v :: l, k => by
  simp only [textsK]
  rw [listK0_eq, listK0_eq hp v (β := List (List Int))]
  cases listF0 hp v with
  | none => rfl
  | some p =>
   simp only [Option.bind_some]
   split
   ·conv => lhs; rw [textsK_eq hp l]
    conv => rhs; rw [textsK_eq hp l]
    cases textsK hp l some <;> rfl
   ·rfl
theorem listK_eq {β : Type} (hp : Nat → Option AV) (v : AV) (k : (s : Sh) → List s.T → Option β) : listK hp v k = (listF hp v).bind fun p => k p.s p.l := by
 unfold listF listK
 split
 ·split
  ·rw [cond_bind, textsK_eq, textsK_eq _ _ (fun r => some (⟨Sh.bytes, r⟩ : SL))]
   cases textsK hp _ some <;> rfl
  ·exact listK0_eq _ _ _
 ·exact listK0_eq _ _ _
theorem immK_eq {β : Type} (hp : Nat → Option AV) (v : AV) (k : AV → Option β) : immK hp v k = (immK hp v some).bind k := by
 unfold immK
 split
 case h_7 u => cases u.low <;> rfl
 case h_8 =>
  split
  ·conv => lhs; rw [getB_eq]
   conv => rhs; rw [getB_eq]
   cases gett _ _ with
   | none => rfl
   | some u => simp only [Option.bind_some]; cases u.low <;> rfl
  ·rfl
 case h_9 => cases AV.low _ <;> rfl
 all_goals
  rw [listK_eq, listK_eq _ _ (β := AV)]
  cases listF hp _ <;> rfl
theorem argsK_eq {β : Type} (hp : Nat → Option AV) (σ : Nat → Option Nat) : ∀ (ms : List Bool) (l : List AV) (k : List AV → Option β), argsK hp σ ms l k = (argsK hp σ ms l some).bind k
 | ms, [], k => by unfold argsK; rfl
 | true :: ms, v :: l, k => by
  simp only [argsK]
  split
  ·cases v.ren σ with
   | none => rfl
   | some u =>
    simp only [Option.bind_some]
    rw [argsK_eq hp σ ms l, argsK_eq hp σ ms l (fun l' => some (u :: l'))]
    cases argsK hp σ ms l some <;> rfl
  ·rfl
 | false :: ms, v :: l, k => by
  simp only [argsK]
  rw [immK_eq, immK_eq (maskN σ hp) v (fun v' => argsK hp σ _ l fun l' => some (v' :: l'))]
  cases immK (maskN σ hp) v some with
  | none => rfl
  | some u =>
   simp only [Option.bind_some]
   rw [argsK_eq hp σ _ l, argsK_eq hp σ _ l (fun l' => some (u :: l'))]
   cases argsK hp σ _ l some <;> rfl
 | [], v :: l, k => by
  simp only [argsK]
  rw [immK_eq, immK_eq (maskN σ hp) v (fun v' => argsK hp σ _ l fun l' => some (v' :: l'))]
  cases immK (maskN σ hp) v some with
  | none => rfl
  | some u =>
   simp only [Option.bind_some]
   rw [argsK_eq hp σ _ l, argsK_eq hp σ _ l (fun l' => some (u :: l'))]
   cases argsK hp σ _ l some <;> rfl
theorem lentK_eq {β : Type} (hp : Nat → Option AV) (σ : Nat → Option Nat) : ∀ (ns : List Nat) (k : List AV → Option β), lentK hp σ ns k = (lentK hp σ ns some).bind k
 | [], k => rfl
 | n :: ns, k => by
  simp only [lentK]
  split
  ·split
   ·rename_i c _ _
    cases c.ren σ with
    | none => rfl
    | some u =>
     simp only [Option.bind_some]
     rw [lentK_eq hp σ ns, lentK_eq hp σ ns (fun l => some (u :: l))]
     cases lentK hp σ ns some <;> rfl
   ·rfl
  ·rfl
theorem asNat_eq {β : Type} (v : AV) (k : Nat → Option β) : asNat v k = (asNat v some).bind k := by
 unfold asNat; split <;> simp [cond_bind]
theorem boundK_eq {β : Type} (cx : Cx) (env : Nat → Option AV) (o : Option Operand) (d m : Nat) (k : Nat → Option β) : boundK cx env o d m k = (boundK cx env o d m some).bind k := by
 unfold boundK
 split
 ·rfl
 ·rw [asNat_eq, asNat_eq _ (fun n => cond (Nat.ble n m) (some n) none)]
  cases asNat (ev cx env 0 _) some <;> simp [cond_bind]
theorem partsK_eq {β : Type} (P : Program) (t : TypeId) : ∀ (l : List (Nat × AV)) (v : AV) (k : AV → Option β), partsK P t v l k = (partsK P t v l some).bind k
 | [], v, k => rfl
 | (i, u) :: rest, v, k => by
  simp only [partsK]
  split
  ·split
   ·split
    ·rw [setK_eq, setK_eq _ _ _ (fun v' => partsK P t v' rest some)]
     cases set v _ u with
     | none => rfl
     | some w => simp only [Option.bind_some]; exact partsK_eq P t rest w k
    ·rfl
   ·rfl
  ·split
   ·split
    ·rw [setK_eq, setK_eq _ _ _ (fun v' => partsK P t v' rest some)]
     cases set v _ u with
     | none => rfl
     | some w => simp only [Option.bind_some]; exact partsK_eq P t rest w k
    ·rfl
   ·rfl
  ·rfl
def P2 (v : AV) (δ : List (Nat × AV)) : Option (AV × List (Nat × AV)) := some (v, δ)
theorem bind_bind' {α β γ : Type} (x : Option α) (f : α → Option β) (g : β → Option γ) : (x.bind f).bind g = x.bind fun a => (f a).bind g := by cases x <;> rfl
theorem clearK_eq {β : Type} (P : Program) (e : TypeId) (hp : Nat → Option AV) (d : AV) (k : AV → List (Nat × AV) → Option β) : clearK P e hp d k = (clearK P e hp d P2).bind fun p => k p.1 p.2 := by
 unfold clearK
 split
 ·rw [ite_bind]; congr 1
  split
  ·conv => lhs; rw [getB_eq]
   conv => rhs; rw [getB_eq]
   cases gett _ _ with
   | none => rfl
   | some u =>
    simp only [Option.bind_some]
    split
    ·rw [ite_bind]; congr 1
     rw [cond_bind]; congr 1
     conv => lhs; rw [setB_eq]
     conv => rhs; rw [setB_eq]
     cases sett _ _ _ <;> simp [P2]
    ·rfl
  ·rfl
 ·rfl
theorem copyK_eq {β : Type} (hp : Nat → Option AV) (d s : AV) (k : AV → List (Nat × AV) → Option β) : copyK hp d s k = (copyK hp d s P2).bind fun p => k p.1 p.2 := by
 unfold copyK
 split
 ·rw [listK0_eq, listK0_eq _ _ (β := AV × List (Nat × AV)), bind_bind']
  cases listF0 hp s with
  | none => rfl
  | some q =>
   simp only [Option.bind_some]
   split
   ·rw [ite_bind, bind_bind']; rfl
   ·rfl
 ·rw [listK0_eq, listK0_eq _ _ (β := AV × List (Nat × AV)), bind_bind']
  cases listF0 hp s with
  | none => rfl
  | some q =>
   simp only [Option.bind_some]
   split
   ·rw [ite_bind, bind_bind']
    congr 1
    cases castL _ _ _ <;> simp [cond_bind, P2]
   ·rfl
 ·rw [listK0_eq, listK0_eq _ _ (β := AV × List (Nat × AV)), bind_bind']
  cases listF0 hp s with
  | none => rfl
  | some q =>
   simp only [Option.bind_some]
   split
   ·split
    ·split
     ·conv => lhs; rw [getB_eq]
      conv => rhs; rw [getB_eq]
      cases gett _ _ with
      | none => rfl
      | some a =>
       simp only [Option.bind_some]
       split
       ·split
        ·rw [cond_bind]
         congr 1
         conv => lhs; rw [setB_eq]
         conv => rhs; rw [setB_eq]
         cases sett _ _ _ <;> simp [P2]
        ·rfl
       ·rfl
     ·rfl
    ·rfl
   ·rfl
 ·rfl
theorem appendK_eq {β : Type} (hp : Nat → Option AV) (dd b : Nat) (d s : AV) (k : AV → List (Nat × AV) → Option β) : appendK hp dd b d s k = (appendK hp dd b d s P2).bind fun p => k p.1 p.2 := by
 unfold appendK
 split
 ·rw [listK0_eq, listK0_eq _ _ (β := AV × List (Nat × AV)), bind_bind']
  cases listF0 hp s with
  | none => rfl
  | some q =>
   simp only [Option.bind_some]
   cases castL _ _ _ <;> simp [cond_bind, P2]
 ·rw [listK0_eq, listK0_eq _ _ (β := AV × List (Nat × AV)), bind_bind']
  cases listF0 hp s with
  | none => rfl
  | some q =>
   simp only [Option.bind_some]
   split
   ·rw [ite_bind, bind_bind']
    congr 1
    cases castL _ _ _ <;> simp [cond_bind, P2]
   ·rfl
 ·rw [listK0_eq, listK0_eq _ _ (β := AV × List (Nat × AV)), bind_bind']
  cases listF0 hp s with
  | none => rfl
  | some q =>
   simp only [Option.bind_some]
   split
   ·rw [ite_bind, bind_bind']
    congr 1
    cases castL _ _ _ <;> simp [cond_bind, P2]
   ·rfl
 ·rename_i n p s0 i len cap
  rw [listK0_eq, listK0_eq _ _ (β := AV × List (Nat × AV)), bind_bind']
  cases listF0 hp s with
  | none => rfl
  | some q =>
   simp only [Option.bind_some]
   rw [listK0_eq, listK0_eq _ (.sl n p s0 i len cap) (β := AV × List (Nat × AV)), bind_bind']
   cases listF0 hp (.sl n p s0 i len cap) with
   | none => rfl
   | some q' =>
    simp only [Option.bind_some]
    cases castL _ _ _ with
    | none => rfl
    | some ys =>
     simp only [Option.bind_some]
     split
     ·rw [ite_bind, cond_bind]; rfl
     ·rfl
 ·rfl
abbrev PB : Bool → AV → List (Nat × AV) → Option (Bool × AV × List (Nat × AV)) := fun b v δ => some (b, v, δ)
def callF (cx : Cx) (hp : Nat → Option AV) (d : Option Nat) (f : Nat) (args : List AV) : Option (Bool × AV × List (Nat × AV)) := callG cx hp d f args (PB false) (PB true)
theorem callB_eq {β : Type} (hp : Nat → Option AV) (d : Option Nat) (e : Entry) (args : List AV) (ns : List Nat) (k kp : AV → List (Nat × AV) → Option β) :
  callG.callB hp d e args ns k kp = (callG.callB hp d e args ns (PB false) (PB true)).bind fun p => cond p.1 (kp p.2.1 p.2.2) (k p.2.1 p.2.2) := by
 unfold callG.callB
 simp only [Entry.elim_eq]
 split
 ·conv => lhs; rw [argsK_eq]
  conv => rhs; rw [argsK_eq]
  rw [bind_bind']
  cases argsK hp _ e.modes args some with
  | none => rfl
  | some l =>
   simp only [Option.bind_some]
   conv => lhs; rw [lentK_eq]
   conv => rhs; rw [lentK_eq]
   rw [bind_bind']
   cases lentK hp _ ns some with
   | none => rfl
   | some bs =>
    simp only [Option.bind_some]
    split
    ·rename_i a _
     cases e.F a with
     | none => rfl
     | some r =>
      simp only [Option.bind_some]
      split
      ·cases hp : e.pan r <;> simp [ite_bind, PB, hp]
      ·rfl
    ·rfl
 ·rfl
theorem callG_eq {β : Type} (cx : Cx) (hp : Nat → Option AV) (d : Option Nat) (f : Nat) (args : List AV) (k kp : AV → List (Nat × AV) → Option β) :
  callG cx hp d f args k kp = (callF cx hp d f args).bind fun p => cond p.1 (kp p.2.1 p.2.2) (k p.2.1 p.2.2) := by
 unfold callF callG
 simp only [Entry.elim_eq]
 split
 ·split
  ·conv => lhs; rw [argsK_eq]
   conv => rhs; rw [argsK_eq]
   rw [bind_bind']
   cases argsK hp _ _ args some with
   | none => rfl
   | some l =>
    simp only [Option.bind_some]
    split
    ·rename_i e _ _ _ a _
     cases e.F a with
     | none => rfl
     | some r => cases hp : e.pan r <;> simp [PB, ite_bind, hp]
    ·rfl
  ·exact callB_eq _ _ _ _ _ _ _
 ·rfl
theorem callK_eq {β : Type} (cx : Cx) (hp : Nat → Option AV) (d : Option Nat) (f : Nat) (args : List AV) (k : AV → List (Nat × AV) → Option β) : callK cx hp d f args k = (callK cx hp d f args P2).bind fun p => k p.1 p.2 := by
 unfold callK
 rw [callG_eq, callG_eq (k := P2), bind_bind']
 congr 1
 funext p
 cases p.1 <;> simp [P2]
theorem callK_def {β : Type} (cx : Cx) (hp : Nat → Option AV) (d : Option Nat) (f : Nat) (args : List AV) (k : AV → List (Nat × AV) → Option β) : callK cx hp d f args k = match cx.calls f with
 | some e =>
  if e.quiet then
   argsK hp (fun _ => none) e.modes args fun args' =>
   match e.dec args' [] with
   | some a => (e.F a).bind fun r => if AV.perss (e.enc r) then cond (e.pan r) none (k (one (e.enc r)) []) else none
   | none => none
  else
   callG.callB hp d e args (reachN hp 40 (AV.namess (asIs e.modes args)) []) k fun _ _ => none
 | none => none := by
 unfold callK callG
 simp only [Entry.elim_eq]
 rfl
theorem callB_def {β : Type} (hp : Nat → Option AV) (d : Option Nat) (e : Entry) (args : List AV) (ns : List Nat) (k kp : AV → List (Nat × AV) → Option β) : callG.callB hp d e args ns k kp =
  if Nat.beq ns.length e.nb && (nodupN ns && (Nat.ble ns.length 1000 && ns.all fun n => !froN n)) then
   argsK hp (fun n => placeN n ns) e.modes args fun args' =>
   lentK hp (fun n => placeN n ns) ns fun bs =>
   match e.dec args' bs with
   | some a => (e.F a).bind fun r =>
    match AV.rens (backN ns d) (e.enc r), outK hp e.nb (backN ns d) (e.out r) with
    | some vs, some bs' => if nodupN (keysN bs') && AV.perss (e.enc r) then cond (e.pan r) (kp (one vs) (bs' ++ lostN ns)) (k (one vs) (bs' ++ lostN ns)) else none
    | _, _ => none
   | none => none
  else none := by
 unfold callG.callB
 simp only [Entry.elim_eq]
 rfl
def opF (cx : Cx) (o : Oper) (env hp : Nat → Option AV) : Option (AV × List (Nat × AV)) := opK cx o env hp P2
theorem boundK2_eq {β γ : Type} (cx : Cx) (env : Nat → Option AV) (o o' : Option Operand) (d m : Nat) (k : Nat → Nat → Option β) (g : β → Option γ) :
  (boundK cx env o d m fun h => boundK cx env o' 0 h fun l => k h l).bind g = boundK cx env o d m fun h => boundK cx env o' 0 h fun l => (k h l).bind g := by
 rw [boundK_eq, boundK_eq cx env o d m (fun h => boundK cx env o' 0 h fun l => (k h l).bind g), bind_bind']
 cases boundK cx env o d m some with
 | none => rfl
 | some h =>
  simp only [Option.bind_some]
  rw [boundK_eq, boundK_eq cx env o' 0 h (fun l => (k h l).bind g), bind_bind']
theorem opK_eq {β : Type} (cx : Cx) (o : Oper) (env hp : Nat → Option AV) (k : AV → List (Nat × AV) → Option β) : opK cx o env hp k = (opF cx o env hp).bind fun p => k p.1 p.2 := by
 unfold opF opK
 cases o.op with
 | move x => rfl
 | assign x => rfl
 | pick c x y => simp only []; split <;> simp [cond_bind, P2]
 | alloc t => simp only []; split <;> simp [ite_bind, P2]
 | box t x => simp only []; split <;> simp [ite_bind, P2]
 | build t parts =>
  simp only []
  split
  ·simp only [ite_bind, Option.bind_none]
   split
   ·conv => lhs; rw [partsK_eq]
    conv => rhs; rw [partsK_eq]
    cases partsK _ _ _ _ some <;> simp [P2]
   ·rfl
  ·rfl
 | buildSlice t n parts =>
  simp only []
  split
  ·rw [ite_bind]
   congr 1
   split
   ·rw [ite_bind]
    congr 1
    split
    ·rfl
    ·split
     ·rw [ite_bind]
      congr 1
      split <;> rfl
     ·rfl
   ·rfl
  ·rfl
 | makeSlice t x y =>
  simp only []
  split
  ·rw [ite_bind]
   congr 1
   split
   ·simp [ite_bind, cond_bind, P2]
   ·rfl
  ·rfl
 | load t x =>
  simp only []
  split
  ·split
   ·conv => lhs; rw [getB_eq]
    conv => rhs; rw [getB_eq]
    cases gett _ _ <;> simp [P2, ite_bind]
   ·rfl
  ·simp [P2, ite_bind]
  ·simp [P2, ite_bind, cond_bind]
  ·rfl
 | store t x y =>
  simp only []
  split
  ·split
   ·simp only [ite_bind, Option.bind_none]
    split
    ·conv => lhs; rw [setB_eq]
     conv => rhs; rw [setB_eq]
     cases sett _ _ _ <;> simp [P2]
    ·rfl
   ·rfl
  ·rfl
 | nilCheck x => simp only []; split <;> simp [P2, cond_bind]
 | binOp op t x y u =>
  simp only []
  conv => lhs; rw [binK_eq]
  conv => rhs; rw [binK_eq]
  cases binK _ _ _ _ _ some <;> simp [P2]
 | unOp op t x =>
  simp only []
  conv => lhs; rw [unK_eq]
  conv => rhs; rw [unK_eq]
  cases unK _ _ some <;> simp [P2]
 | convert s d x =>
  simp only []
  split
  ·rfl
  ·split <;> rfl
  ·split
   ·rw [listK0_eq, listK0_eq _ _ (β := AV × List (Nat × AV))]
    cases listF0 hp _ with
    | none => rfl
    | some p => simp only [Option.bind_some]; split <;> rfl
   ·rfl
  ·rfl
 | makeInterface t x => simp only []; split <;> simp [P2, ite_bind]
 | sliceToArrayPointer t x => simp only []; split <;> simp [P2, cond_bind]
 | typeAssert x s t c =>
  cases c
  ·rfl
  ·simp only []
   split
   ·rfl
   ·split
    ·rw [ite_bind]; congr 1; rw [ite_bind]; rfl
    ·rw [ite_bind]; rfl
    ·rfl
   ·rfl
 | fieldAddr s x f =>
  simp only []
  split
  ·split
   ·simp [P2, ite_bind]
   ·split
    ·rfl
    ·conv => lhs; rw [getK_eq]
     conv => rhs; rw [getK_eq]
     cases get _ _ <;> simp [P2]
   ·rw [cond_bind]
    congr 1
    split
    ·rfl
    ·conv => lhs; rw [getK_eq]
     conv => rhs; rw [getK_eq]
     cases get _ _ <;> simp [P2]
   ·rfl
  ·rfl
 | field t x f =>
  simp only []
  split
  ·split
   ·conv => lhs; rw [getK_eq]
    conv => rhs; rw [getK_eq]
    cases get _ _ <;> simp [P2, ite_bind]
   ·rfl
  ·rfl
 | indexAddr t x i =>
  simp only []
  split
  ·rw [cond_bind]
   congr 1
   split
   ·rw [cond_bind]
    congr 1
    split
    ·split
     ·simp [P2]
     ·conv => lhs; rw [getK_eq]
      conv => rhs; rw [getK_eq]
      cases get _ _ <;> simp [P2]
     ·rfl
    ·rfl
   ·split
    ·split
     ·simp [P2, ite_bind, cond_bind]
     ·split <;> simp [P2, ite_bind, cond_bind]
     ·simp [P2, ite_bind, cond_bind]
     ·simp [P2, ite_bind, cond_bind]
     ·simp [P2, ite_bind, cond_bind]
     ·rfl
    ·rfl
   ·rfl
  ·rfl
 | index t x i =>
  simp only []
  split
  ·rw [cond_bind]
   congr 1
   split
   ·rw [cond_bind]
    congr 1
    split
    ·conv => lhs; rw [getK_eq]
     conv => rhs; rw [getK_eq]
     cases get _ _ <;> simp [P2, ite_bind]
    ·rfl
   ·split <;> simp [P2, cond_bind]
   ·rfl
  ·rfl
 | extract t i =>
  simp only []
  split
  ·split <;> simp [P2]
  ·rfl
 | slice t x lo hi mx =>
  cases mx with
  | some m => rfl
  | none =>
   simp only []
   split
   ·split
    ·rw [ite_bind, boundK2_eq]; rfl
    ·rfl
   ·split
    ·rw [ite_bind, boundK2_eq]; rfl
    ·split
     ·rw [ite_bind]
      congr 1
      split
      ·rfl
      ·rw [boundK2_eq]; rfl
     ·rfl
    ·split
     ·rw [ite_bind, boundK2_eq]; rfl
     ·rfl
    ·rw [ite_bind, boundK2_eq]; rfl
    ·rw [ite_bind, boundK2_eq]; rfl
    ·rfl
   ·split
    ·rw [boundK2_eq]; rfl
    ·rfl
   ·rfl
 | makeFunc fn first caps => cases fn <;> first | rfl | simp [P2, ite_bind]
 | call c =>
  simp only []
  split
  ·split
   ·rw [ite_bind]; congr 1; exact callK_eq _ _ _ _ _ _
   ·rfl
  ·split
   ·simp [P2]
   ·simp [P2]
   ·split <;> simp [P2, ite_bind]
   ·simp [P2]
   ·simp [P2]
   ·simp [P2]
   ·simp [P2]
   ·split <;> simp [P2]
   ·rfl
  ·split
   ·rw [ite_bind]; congr 1; exact copyK_eq _ _ _ _
   ·rfl
  ·split
   ·exact clearK_eq _ _ _ _ _
   ·rfl
  ·split
   ·rw [ite_bind]
    congr 1
    split
    ·exact appendK_eq _ _ _ _ _ _
    ·rfl
   ·rfl
  ·split <;> simp [P2, ite_bind]
  ·split <;> simp [P2, ite_bind]
  ·rfl
 | _ => rfl
end
end Go.Sy
set_option linter.unusedVariables false
set_option linter.unusedSimpArgs false
namespace Go.Sy
open Go Go.RowKit
noncomputable section
def lentL (E : Emb) (nb : Nat) : Nat → Prop := fun g => ∃ j, j < nb ∧ (E.cnt j).isSome = true ∧ E.ρ j = g
def hpOf (bs : List AV) : Nat → Option AV := fun n => bs[n]?
def iniOf (E : Emb) (nb : Nat) (w : World) : Ini := ⟨w, lentL E nb, fun g j => E.im true g j, fun j => if j < nb then some (E.ρ j, E.cnt j, E.len j) else none, []⟩
def CallPost (e : Entry) (E : Emb) (r : e.ρ) (w : World) (v : Value) (w' : World) : Prop :=
 ∃ E', Mem (iniOf E e.nb w) E' (fun n => lk n (e.out r)) w' ∧ (∀ j, j < e.nb → E'.ρ j = E.ρ j ∧ E'.cnt j = E.cnt j ∧ E'.len j = E.len j) ∧
  Rep E' (one (e.enc r)) v ∧ (one (e.enc r)).named (fun n => (lk n (e.out r)).isSome) = true
def endOf (b : Bool) (v : Value) : Ending := cond b (.panicked [{ v := v, recovered := false }]) (.returned v)
def CallOk (P : Program) (G : Ini → Prop) (f : Nat) (e : Entry) : Prop :=
 (e.quiet = true → e.nb = 0 ∧ ∀ r, e.out r = []) ∧
 ∀ (w : World) (E : Emb) (a : e.α) (r : e.ρ) (args bs : List AV) (vals : Array Value), G (iniOf E e.nb w) → Mem (iniOf E e.nb w) E (hpOf bs) w → bs.length = e.nb → (∀ c ∈ bs, c.live = true) →
  e.dec args bs = some a → e.F a = some r → Rep1s E args vals.toList → AV.nameds (fun n => (hpOf bs n).isSome) args = true →
  ((callFunc f vals).run P w = .ok (.enter f vals) w ∧ Calls P f vals w (fun en w' => ∃ v, en = endOf (e.pan r) v ∧ CallPost e E r w v w')) ∨
  (e.pan r = false ∧ ∃ v w', (callFunc f vals).run P w = .ok (.value v) w' ∧ CallPost e E r w v w')
structure CxOk (cx : Cx) (G : Ini → Prop) : Prop where
 keep : ∀ b E hp w L I fx, G b → Mem b E hp w → (∀ g, L g → ∃ n c, hp n = some c ∧ c.live = true ∧ (E.cnt n).isSome = true ∧ E.ρ n = g ∧ froN n = false) → G ⟨w, L, I, fx, []⟩
 defs : ∀ b D fx, G b → G { b with D := D, fx := fx }
 glob : ∀ g v, cx.globs g = some v → v.named (fun _ => false) = true ∧ v.plain = true ∧ ∀ b, G b → ¬ b.L g ∧ ∃ c T fz, b.w.heap[g]? = some (.cells c T fz) ∧ ∀ E, RepC E v c.toList
 calls : ∀ f e, cx.calls f = some e → CallOk cx.P G f e
 mixed : cx.P.follows .mixedOrders = true
def Good (P : Program) (o : Oper) (w0 : Ini) (N : Nat) (env hp : Nat → Option AV) (v : AV) (δ : List (Nat × AV)) (a : Act) (w : World) : Prop :=
 ∀ (next : Act → World → Prop) (Q : Exit → Act → World → Prop),
  (∀ E' x w', Rel w0 E' N env (updH hp δ) a w' → Rep E' v x → v.named (fun n => (updH hp δ n).isSome) = true → next (a.put o.dst x) w') → o.wp P a w next Q
def GoodB (P : Program) (o : Oper) (w0 : Ini) (N : Nat) (env hp : Nat → Option AV) (b : Bool) (v : AV) (δ : List (Nat × AV)) (a : Act) (w : World) : Prop :=
 ∀ (next : Act → World → Prop) (Q : Exit → Act → World → Prop),
  (∀ E' x w', Rel w0 E' N env (updH hp δ) a w' → Rep E' v x → v.named (fun n => (updH hp δ n).isSome) = true → cond b (Q (.panic [{ v := x, recovered := false }]) a w') (next (a.put o.dst x) w')) → o.wp P a w next Q
theorem Good.value {P : Program} {o : Oper} {w0 : Ini} {N : Nat} {env hp : Nat → Option AV} {v : AV} {δ : List (Nat × AV)} {a : Act} {w w' : World} {E' : Emb} {x : Value}
  (hr : (execOp a.eval o).run P w = .ok (.value x) w') (h : Rel w0 E' N env (updH hp δ) a w') (hv : Rep E' v x) (hn : v.named (fun n => (updH hp δ n).isSome) = true) : Good P o w0 N env hp v δ a w :=
 fun next Q k => by unfold Oper.wp; rw [hr]; exact k E' x w' h hv hn
theorem Good.skip {P : Program} {o : Oper} {w0 : Ini} {N : Nat} {env hp : Nat → Option AV} {δ : List (Nat × AV)} {a : Act} {w w' : World} {E' : Emb}
  (hr : (execOp a.eval o).run P w = .ok .skip w') (h : Rel w0 E' N env (updH hp δ) a w') : Good P o w0 N env hp .undef δ a w :=
 fun next Q k => by unfold Oper.wp; rw [hr]; exact k E' undef w' h trivial (by simp [AV.named])
section
variable {cx : Cx} {G : Ini → Prop} {w0 : Ini} {E : Emb} {N : Nat} {env hp : Nat → Option AV} {a : Act} {w : World}
theorem nameds_none {ok : Nat → Bool} {v : AV} (h : v.named (fun _ => false) = true) : v.named ok = true := AV.named_mono (fun _ h => by cases h) h
theorem ofConst_rep (E : Emb) (P : Program) (t : TypeId) (v : Value) : Rep E (ofConst P t v) v ∧ ∀ ok, (ofConst P t v).named ok = true := by
 unfold ofConst
 split
 ·exact ⟨⟨by simp [RepC, Value.cells], by simp [AV.isAgg], by simp [Value.cells]⟩, fun _ => rfl⟩
 ·exact ⟨⟨by simp [RepC, Value.cells], by simp [AV.isAgg], by simp [Value.cells]⟩, fun _ => rfl⟩
 ·exact ⟨⟨by simp [RepC, Value.cells], by simp [AV.isAgg], by simp [Value.cells]⟩, fun _ => rfl⟩
 ·split
  ·split
   ·exact ⟨⟨by simp [RepC, Value.cells], by simp [AV.isAgg], by simp [Value.cells]⟩, fun _ => rfl⟩
   ·exact ⟨trivial, fun _ => rfl⟩
  ·exact ⟨trivial, fun _ => rfl⟩
 ·exact ⟨⟨by simp [RepC, Value.cells], by simp [AV.isAgg], by simp [Value.cells]⟩, fun _ => rfl⟩
 ·exact ⟨⟨by simp [RepC, Value.cells], by simp [AV.isAgg], by simp [Value.cells]⟩, fun _ => rfl⟩
 ·exact ⟨trivial, fun _ => rfl⟩
theorem ev_sound (hc : CxOk cx G) (hG : G w0) (h : Rel w0 E N env hp a w) (t : TypeId) (o : Operand) :
  Rep E (ev cx env t o) (a.eval o) ∧ (ev cx env t o).named (fun n => (hp n).isSome) = true := by
 cases o with
 | tmp n =>
  simp only [ev, Act.eval]
  cases he : env n with
  | none => exact ⟨trivial, rfl⟩
  | some v =>
   obtain ⟨x, hx, hr⟩ := h.renv n v he
   refine ⟨?_, h.senv n v he⟩
   simp only [Option.getD_some]
   rw [show a.tmps.getD n undef = x by simp [Array.getD_eq_getD_getElem?, hx]]
   exact hr
 | const v =>
  simp only [ev, Act.eval]
  exact ⟨(ofConst_rep E cx.P t v).1, (ofConst_rep E cx.P t v).2 _⟩
 | global g =>
  simp only [ev, Act.eval]
  cases hg : cx.globs g with
  | none => exact ⟨trivial, rfl⟩
  | some v =>
   obtain ⟨h1, h2, h3⟩ := hc.glob g v hg
   obtain ⟨hl, c, T, fz, h4, h5⟩ := h3 w0 hG
   refine ⟨⟨?_, by simp [AV.isAgg], by simp [Value.cells]⟩, by simp only [AV.named]; exact nameds_none h1⟩
   simp only [RepC, Value.cells]
   refine ⟨⟨g, 0, none⟩, c.toList, rfl, ⟨rfl, fun j v hv => h.imm0 _ _ _ _ hl h4 _ _ (by simpa using hv)⟩, h5 E⟩
 | func f =>
  simp only [ev, Act.eval]
  refine ⟨⟨?_, by simp [AV.isAgg], by simp [Value.cells]⟩, rfl⟩
  simp only [RepC, Value.cells]
  exact ⟨[], rfl, rfl⟩
theorem ev_plain (hc : CxOk cx G) (hG : G w0) (h : Rel w0 E N env hp a w) {t : TypeId} {o : Operand} {v : AV} (he : ev cx env t o = v) (hp' : v.plain = true) :
  Rep1 E v (a.eval o) ∧ v.named (fun n => (hp n).isSome) = true := by
 obtain ⟨h1, h2⟩ := ev_sound hc hG h t o
 rw [he] at h1 h2
 exact ⟨(Rep.one hp').1 h1, h2⟩
theorem Rep1.int {E : Emb} {k : IntKind} {n : Int} {x : Value} : Rep1 E (.int k n) x ↔ x = .int k n := by
 constructor
 ·rintro ⟨h1, _, h3⟩
  have := h3 rfl
  rw [this] at h1
  simpa [RepC] using h1
 ·rintro rfl; exact ⟨by simp [RepC, Value.cells], by simp [AV.isAgg], by simp [Value.cells]⟩
theorem Rep1.bool {E : Emb} {b : Bool} {x : Value} : Rep1 E (.bool b) x ↔ x = .bool b := by
 constructor
 ·rintro ⟨h1, _, h3⟩
  have := h3 rfl
  rw [this] at h1
  simpa [RepC] using h1
 ·rintro rfl; exact ⟨by simp [RepC, Value.cells], by simp [AV.isAgg], by simp [Value.cells]⟩
theorem Rep1.ptr {E : Emb} {n : Nat} {p : List Step} {x : Value} : Rep1 E (.ptr n p) x ↔ x = .pointer (some ⟨E.ρ n, offs p, none⟩) := by
 constructor
 ·rintro ⟨h1, _, h3⟩
  have := h3 rfl
  rw [this] at h1
  simpa [RepC] using h1
 ·rintro rfl; exact ⟨by simp [RepC, Value.cells], by simp [AV.isAgg], by simp [Value.cells]⟩
theorem Rep1.cells1 {E : Emb} {v : AV} {x : Value} (h : Rep1 E v x) (hv : v.isAgg = false) : RepC E v [x] := by
 have := h.1
 rw [h.2.2 hv] at this
 exact this
mutual
theorem RcD.oneCell {E : Emb} : ∀ {v : DT} {xs : List Value}, RcD E v xs → ∀ x ∈ xs, x.oneCell' = true
 | .int .., _, h, x, hx | .bool _, _, h, x, hx | .str _, _, h, x, hx => by simp only [RcD] at h; subst h; simp at hx; subst hx; rfl
 | .u256 _, _, h, x, hx => by
  simp only [RcD] at h; subst h
  simp [ucells, limbs] at hx
  rcases hx with rfl | rfl | rfl | rfl <;> rfl
 | .ints .., _, h, x, hx => by simp only [RcD] at h; obtain ⟨y, rfl, _, _, rfl, _⟩ := h; simp at hx; subst hx; rfl
 | .sl .., _, h, x, hx => by simp only [RcD] at h; obtain ⟨y, _, rfl, _, _, _, rfl, _⟩ := h; simp at hx; subst hx; rfl
 | .ptr .., _, h, x, hx => by simp only [RcD] at h; rcases h with ⟨_, rfl⟩ | ⟨_, _, _, rfl, _⟩ <;> (simp at hx; subst hx; rfl)
 | .st l, _, h, x, hx => by simp only [RcD] at h; exact RcDs.oneCell h x hx
theorem RcDs.oneCell {E : Emb} : ∀ {l : List DT} {xs : List Value}, RcDs E l xs → ∀ x ∈ xs, x.oneCell' = true
 | [], _, h, x, hx => by simp only [RcDs] at h; subst h; cases hx
 | v :: l, _, h, x, hx => by
  simp only [RcDs] at h
  obtain ⟨a, b, rfl, h1, h2⟩ := h
  rcases List.mem_append.1 hx with hx | hx
  ·exact RcD.oneCell h1 x hx
  ·exact RcDs.oneCell h2 x hx
end
theorem one_cells {x : Value} (h : x.oneCell' = true) : x.cells = #[x] := by cases x <;> first | rfl | simp [Value.oneCell'] at h
theorem Rep1.of_cells1 {E : Emb} {v : AV} {x : Value} (hv : v.isAgg = false) (h : RepC E v [x]) : Rep1 E v x := by
 have : x.cells = #[x] := by
  cases v <;> simp [AV.isAgg] at hv <;> simp only [RepC] at h
  case int => simp at h; subst h; rfl
  case bool => simp at h; subst h; rfl
  case ptr => simp at h; subst h; rfl
  case pim => obtain ⟨_, _, h, _⟩ := h; simp at h; subst h; rfl
  case sl => obtain ⟨_, _, h, _⟩ := h; simp at h; subst h; rfl
  case isl => obtain ⟨y, _, h, _, _, _, _, h', _⟩ := h; simp at h; subst h; subst h'; rfl
  case own => obtain ⟨y, h, h' | ⟨_, _, h', _⟩⟩ := h <;> (simp at h; subst h; first | (obtain ⟨_, _, h'⟩ := h'; subst h'; rfl) | (subst h'; rfl))
  case osl => obtain ⟨y, h, h' | ⟨_, _, h', _⟩⟩ := h <;> (simp at h; subst h; first | (obtain ⟨_, _, h'⟩ := h'; subst h'; rfl) | (subst h'; rfl))
  case nsl => simp at h; subst h; rfl
  case str => simp at h; subst h; rfl
  case nilp => simp at h; subst h; rfl
  case el => exact one_cells (h.oneCell x (by simp))
  case pimq => rcases h with ⟨_, h⟩ | ⟨_, _, _, h, _⟩ <;> (simp at h; subst h; rfl)
  case isw => obtain ⟨y, _, h, _, _, _, h', _⟩ := h; simp at h; subst h; subst h'; rfl
  case ifc => obtain ⟨_, h, _⟩ := h; simp at h; subst h; rfl
  case nili => simp at h; subst h; rfl
  case fn => obtain ⟨_, h, _⟩ := h; simp at h; subst h; rfl
 exact ⟨by rw [this]; exact h, by simp [hv], fun _ => this⟩
theorem Rep1.of_agg {E : Emb} {v : AV} {xs : List Value} (hv : v.isAgg = true) (h : RepC E v xs) : Rep1 E v (.agg xs.toArray) :=
 ⟨by simpa [Value.cells] using h, fun _ => ⟨_, rfl⟩, by simp [hv]⟩
theorem fitsT_spec {P : Program} {t : TypeId} {v : AV} (h : fitsT P t v = true) : aggT P t = some v.isAgg ∧ sizeT P t = some v.size ∧ v.plain = true := by
 unfold fitsT at h
 split at h
 ·rename_i b n h1 h2
  simp only [Bool.and_eq_true, beq_iff_eq] at h
  obtain ⟨⟨h3, h4⟩, h5⟩ := h
  have := Nat.eq_of_beq_eq_true h5
  subst this; subst h3
  exact ⟨h1, h2, h4⟩
 ·cases h
theorem size_scalar {v : AV} (hp : v.plain = true) (ha : v.isAgg = false) : v.size = 1 := by
 cases v with
 | el i t => cases i <;> simp_all [AV.plain, AV.isAgg, AV.size, DSh.agg, DSh.size]
 | _ => simp_all [AV.plain, AV.isAgg, AV.size]
theorem cell_at {w : World} {g o j : Nat} {xs : Array Value} {T : TypeId} {fz : Nat × Nat} (hg : w.heap[g]? = some (.cells xs T fz)) : w.cell? ((⟨g, o, none⟩ : Addr).add j) = xs[o + j]? := by
 unfold Addr.add
 split
 ·rename_i h; subst h; simp [World.cell?, hg]
 ·simp [World.cell?, hg]
theorem run_isAggT {P : Program} {t : TypeId} {b : Bool} (h : aggT P t = some b) (w : World) : (isAgg t).run P w = .ok b w := by
 unfold aggT at h
 unfold isAgg
 simp only [Sem.run_bind]
 cases hu : P.underlying t with
 | none => rw [hu] at h; simp at h
 | some d =>
  rw [hu] at h
  rw [run_underlying hu, Result.andThen_ok]
  cases d <;> simp_all
theorem run_sizeT {P : Program} {t : TypeId} {n : Nat} (h : sizeT P t = some n) (w : World) : (sizeOf t).run P w = .ok n w := by
 unfold sizeT at h
 cases hi : P.info? t with
 | none => rw [hi] at h; cases h
 | some i => rw [hi] at h; simp at h; subst h; simp [sizeOf, typeInfo, hi]
theorem run_loadVarT {P : Program} {w : World} {t : TypeId} {v : AV} {E : Emb} {g o : Nat} {xs : Array Value} {T : TypeId} {fz : Nat × Nat} {ys : List Value}
  (hf : fitsT P t v = true) (hg : w.heap[g]? = some (.cells xs T fz)) (hy : ∀ j u, ys[j]? = some u → xs[o + j]? = some u) (hr : RepC E v ys) :
  ∃ x, (loadVar t ⟨g, o, none⟩).run P w = .ok x w ∧ Rep1 E v x := by
 obtain ⟨h1, h2, h3⟩ := fitsT_spec hf
 have hl := hr.length
 cases ha : v.isAgg with
 | true =>
  rw [ha] at h1
  refine ⟨.agg ys.toArray, ?_, Rep1.of_agg ha hr⟩
  unfold loadVar
  simp only [Sem.run_bind, run_isAggT h1, Result.andThen_ok, if_true, run_sizeT h2, ← hl]
  rw [run_loadCells_list w ⟨g, o, none⟩ ys (fun j u hu => by rw [cell_at hg]; exact hy j u hu)]
  rfl
 | false =>
  rw [ha] at h1
  have hs := size_scalar h3 ha
  rw [hs] at hl
  match ys, hl with
  | [y], _ =>
   refine ⟨y, ?_, Rep1.of_cells1 ha hr⟩
   unfold loadVar
   have hcell : w.cell? (⟨g, o, none⟩ : Addr) = some y := by
    have := hy 0 y rfl
    have h4 := cell_at (o := o) (j := 0) hg
    simp [Addr.add] at h4
    rw [h4]; simpa using this
   simp [run_isAggT h1, hcell]
theorem RepC.oneCell {E : Emb} : ∀ {v : AV} {xs : List Value}, RepC E v xs → ∀ x ∈ xs, x.oneCell' = true := by
 have huc : ∀ n, ∀ x ∈ ucells n, x.oneCell' = true := by
  intro n x hx
  simp [ucells, limbs] at hx
  rcases hx with rfl | rfl | rfl | rfl <;> rfl
 have hrc : ∀ {s : Sh} {t : s.T} {xs : List Value}, Rc E s t xs → ∀ x ∈ xs, x.oneCell' = true := by
  intro s t xs h x hx
  cases s
  case bytes =>
   obtain ⟨y, rfl, a, l, c, rfl, _⟩ := h
   simp at hx; subst hx; rfl
  case int => simp only [Rc] at h; subst h; simp at hx; subst hx; rfl
  case u256 => simp only [Rc] at h; subst h; exact huc _ x hx
  case pt =>
   simp only [Rc] at h; subst h
   simp only [List.mem_append, List.mem_singleton] at hx
   rcases hx with (hx | hx) | hx
   ·exact huc _ x hx
   ·exact huc _ x hx
   ·subst hx; rfl
  case u2 =>
   simp only [Rc] at h; subst h
   simp only [List.mem_append] at hx
   rcases hx with hx | hx <;> exact huc _ x hx
  case jac =>
   simp only [Rc] at h; subst h
   simp only [List.mem_append] at hx
   rcases hx with (hx | hx) | hx <;> exact huc _ x hx
  case d i => exact RcD.oneCell h x hx
 have hrl : ∀ {s : Sh} {l : List s.T} {xs : List Value}, RcL E s l xs → ∀ x ∈ xs, x.oneCell' = true := by
  intro s l
  induction l with
  | nil => intro xs h x hx; simp only [RcL] at h; subst h; cases hx
  | cons t l ih =>
   rintro xs ⟨a, b, rfl, h1, h2⟩ x hx
   rcases List.mem_append.1 hx with hx | hx
   ·exact hrc h1 x hx
   ·exact ih h2 x hx
 intro v xs h
 induction v using AV.rec (motive_2 := fun l => ∀ xs, RepCs E l xs → ∀ x ∈ xs, x.oneCell' = true) generalizing xs with
 | undef => simp only [RepC] at h
 | int => simp only [RepC] at h; subst h; intro x hx; simp at hx; subst hx; rfl
 | bool => simp only [RepC] at h; subst h; intro x hx; simp at hx; subst hx; rfl
 | u256 => simp only [RepC] at h; subst h; exact huc _
 | arr => simp only [RepC] at h; exact hrl h.2
 | st l ih => simp only [RepC] at h; exact ih _ h
 | tup => simp only [RepC] at h
 | ptr => simp only [RepC] at h; subst h; intro x hx; simp at hx; subst hx; rfl
 | pim => simp only [RepC] at h; obtain ⟨_, _, rfl, _⟩ := h; intro x hx; simp at hx; subst hx; rfl
 | sl => simp only [RepC] at h; obtain ⟨_, _, rfl, _⟩ := h; intro x hx; simp at hx; subst hx; rfl
 | isl => simp only [RepC] at h; obtain ⟨y, _, rfl, _, _, _, _, rfl, _⟩ := h; intro x hx; simp at hx; subst hx; rfl
 | own => simp only [RepC] at h; obtain ⟨y, rfl, ⟨_, _, rfl⟩ | ⟨_, _, rfl, _⟩⟩ := h <;> (intro x hx; simp at hx; subst hx; rfl)
 | osl => simp only [RepC] at h; obtain ⟨y, rfl, ⟨_, _, rfl⟩ | ⟨_, _, rfl, _⟩⟩ := h <;> (intro x hx; simp at hx; subst hx; rfl)
 | nsl => simp only [RepC] at h; subst h; intro x hx; simp at hx; subst hx; rfl
 | str => simp only [RepC] at h; subst h; intro x hx; simp at hx; subst hx; rfl
 | row => simp only [RepC] at h
 | nilp => simp only [RepC] at h; subst h; intro x hx; simp at hx; subst hx; rfl
 | el => simp only [RepC] at h; exact RcD.oneCell h
 | pimq => simp only [RepC] at h; rcases h with ⟨_, rfl⟩ | ⟨_, _, _, rfl, _⟩ <;> (intro x hx; simp at hx; subst hx; rfl)
 | isw => simp only [RepC] at h; obtain ⟨y, _, rfl, _, _, _, rfl, _⟩ := h; intro x hx; simp at hx; subst hx; rfl
 | ifc => simp only [RepC] at h; obtain ⟨_, rfl, _⟩ := h; intro x hx; simp at hx; subst hx; rfl
 | nili => simp only [RepC] at h; subst h; intro x hx; simp at hx; subst hx; rfl
 | fn => simp only [RepC] at h; obtain ⟨_, rfl, _⟩ := h; intro x hx; simp at hx; subst hx; rfl
 | nil => rename_i xs h x hx; simp only [RepCs] at h; subst h; cases hx
 | cons v l ih1 ih2 =>
  rename_i xs h x hx
  simp only [RepCs] at h
  obtain ⟨a, b, rfl, h1, h2⟩ := h
  rcases List.mem_append.1 hx with hx | hx
  ·exact ih1 h1 x hx
  ·exact ih2 _ h2 x hx
theorem RcL.oneCell {E : Emb} {s : Sh} {l : List s.T} {xs : List Value} (h : RcL E s l xs) : ∀ x ∈ xs, x.oneCell' = true :=
 RepC.oneCell (E := E) (v := .arr s l.length l) (by simp only [RepC, true_and]; exact h)
end
end
end Go.Sy
set_option linter.unusedVariables false
set_option linter.unusedSimpArgs false
namespace Go.Sy
open Go Go.RowKit
theorem sameCell_eq {x y : Value} (h : sameCell x y = true) : x = y := by
 unfold sameCell at h
 split at h
 ·split at h
  ·rename_i hk; subst hk; simp at h; subst h; rfl
  ·cases h
 ·simp at h; subst h; rfl
 ·rfl
 ·rfl
 ·rfl
 ·rename_i a b
  have h := eq_of_beq h
  obtain ⟨⟨xs⟩⟩ := a
  obtain ⟨⟨ys⟩⟩ := b
  simp at h
  rw [h]
 ·cases h
theorem sameCells_eq : ∀ {l l' : List Value}, sameCells l l' = true → l = l'
 | [], [], _ => rfl
 | [], _ :: _, h => by simp [sameCells] at h
 | _ :: _, [], h => by simp [sameCells] at h
 | x :: l, y :: l', h => by
  simp only [sameCells, Bool.and_eq_true] at h
  rw [sameCell_eq h.1, sameCells_eq h.2]
theorem RcL_u256 (E : Emb) : ∀ l : List Nat, RcL E .u256 l (l.flatMap fun x => (limbs x).map (.int .u64))
 | [] => rfl
 | x :: l => ⟨_, _, by simp only [List.flatMap_cons]; rfl, rfl, RcL_u256 E l⟩
theorem RcL_u2 (E : Emb) : ∀ l : List (Nat × Nat), RcL E .u2 l (l.flatMap fun p => (limbs p.1).map (.int .u64) ++ (limbs p.2).map (.int .u64))
 | [] => rfl
 | x :: l => ⟨_, _, by simp only [List.flatMap_cons]; rfl, rfl, RcL_u2 E l⟩
theorem RcL_pt (E : Emb) : ∀ l : List (Nat × Nat × Bool), RcL E .pt l (l.flatMap fun p => (limbs p.1).map (.int .u64) ++ (limbs p.2.1).map (.int .u64) ++ [.bool p.2.2])
 | [] => rfl
 | x :: l => ⟨_, _, by simp only [List.flatMap_cons]; rfl, rfl, RcL_pt E l⟩
theorem RcL_jac (E : Emb) : ∀ l : List (Nat × Nat × Nat), RcL E .jac l (l.flatMap fun p => (limbs p.1).map (.int .u64) ++ (limbs p.2.1).map (.int .u64) ++ (limbs p.2.2).map (.int .u64))
 | [] => rfl
 | x :: l => ⟨_, _, by simp only [List.flatMap_cons]; rfl, rfl, RcL_jac E l⟩
mutual
theorem litD_rep (E : Emb) : ∀ {v : DT} {xs : List Value}, v.litD = some xs → RcD E v xs
 | .int .., xs, h | .bool _, xs, h | .str _, xs, h => by simp [DT.litD] at h; subst h; simp [RcD]
 | .u256 x, xs, h => by simp [DT.litD] at h; subst h; simp [RcD, ucells]
 | .st l, xs, h => by simp only [DT.litD] at h; simp only [RcD]; exact litDs_rep E h
 | .ints .., _, h | .sl .., _, h | .ptr .., _, h => by simp [DT.litD] at h
theorem litDs_rep (E : Emb) : ∀ {l : List DT} {xs : List Value}, DT.litDs l = some xs → RcDs E l xs
 | [], xs, h => by simp [DT.litDs] at h; subst h; simp [RcDs]
 | v :: l, xs, h => by
  simp only [DT.litDs] at h
  split at h
  ·rename_i a b ha hb
   simp at h; subst h
   simp only [RcDs]
   exact ⟨a, b, rfl, litD_rep E ha, litDs_rep E hb⟩
  ·cases h
end
theorem litDs_repL (E : Emb) {i : DSh} : ∀ {l : List i.T} {xs : List Value}, DT.litDs (l.map i.toD) = some xs → RcL E (.d i) l xs
 | [], xs, h => by simp [DT.litDs] at h; subst h; rfl
 | v :: l, xs, h => by
  simp only [List.map_cons, DT.litDs] at h
  split at h
  ·rename_i a b ha hb
   simp at h; subst h
   exact ⟨a, b, rfl, litD_rep E ha, litDs_repL E hb⟩
  ·cases h
mutual
theorem litCells_rep (E : Emb) : ∀ {v : AV} {xs : List Value}, v.litCells = some xs → RepC E v xs
 | .int k n, xs, h => by simp [AV.litCells] at h; subst h; simp [RepC]
 | .bool b, xs, h => by simp [AV.litCells] at h; subst h; simp [RepC]
 | .u256 x, xs, h => by simp [AV.litCells] at h; subst h; simp [RepC, ucells]
 | .arr s n l, xs, h => by
  cases s <;> simp only [AV.litCells] at h
  case bytes => cases h
  case d i =>
   split at h
   ·rename_i hn
    simp only [RepC]
    exact ⟨hn, litDs_repL E h⟩
   ·cases h
  all_goals
   split at h
   ·rename_i hn
    simp at h; subst h
    simp only [RepC]
    refine ⟨hn, ?_⟩
    first
     | exact RcL_ints.2 rfl
     | exact RcL_u256 E _
     | (have := RcL_pt E l; simpa using this)
     | (have := RcL_u2 E l; simpa using this)
     | (have := RcL_jac E l; simpa using this)
   ·cases h
 | .st l, xs, h => by
  simp only [AV.litCells] at h
  simp only [RepC]
  exact litAll_rep E h
 | .isl .., _, h => by simp [AV.litCells] at h
 | .own .., _, h => by simp [AV.litCells] at h
 | .osl .., _, h => by simp [AV.litCells] at h
 | .row .., _, h => by simp [AV.litCells] at h
 | .nsl s, xs, h => by simp [AV.litCells] at h; subst h; simp [RepC]
 | .str l, xs, h => by simp [AV.litCells] at h; subst h; simp [RepC]
 | .nilp, xs, h => by simp [AV.litCells] at h; subst h; simp [RepC]
 | .undef, _, h => by simp [AV.litCells] at h
 | .tup _, _, h => by simp [AV.litCells] at h
 | .ptr .., _, h => by simp [AV.litCells] at h
 | .pim .., _, h => by simp [AV.litCells] at h
 | .sl .., _, h => by simp [AV.litCells] at h
 | .fn .., _, h => by simp [AV.litCells] at h
 | .nili, xs, h => by simp [AV.litCells] at h; subst h; simp [RepC]
 | .el .., _, h => by simp [AV.litCells] at h
 | .pimq .., _, h => by simp [AV.litCells] at h
 | .isw .., _, h => by simp [AV.litCells] at h
 | .ifc .., _, h => by simp [AV.litCells] at h
theorem litAll_rep (E : Emb) : ∀ {l : List AV} {xs : List Value}, AV.litCells.litAll l = some xs → RepCs E l xs
 | [], xs, h => by simp [AV.litCells.litAll] at h; subst h; simp [RepCs]
 | v :: l, xs, h => by
  simp only [AV.litCells.litAll] at h
  split at h
  ·rename_i a b ha hb
   simp at h; subst h
   simp only [RepCs]
   exact ⟨a, b, rfl, litCells_rep E ha, litAll_rep E hb⟩
  ·cases h
end
theorem lit_plain {v : AV} {xs : List Value} (h : v.litCells = some xs) : v.plain = true := by
 cases v <;> simp [AV.litCells, AV.plain] at h ⊢
mutual
theorem lit_named {ok : Nat → Bool} : ∀ {v : AV} {xs : List Value}, v.litCells = some xs → v.named ok = true
 | .int .., _, _ | .bool _, _, _ | .u256 _, _, _ | .arr .., _, _ | .isl .., _, _ | .nsl _, _, _ | .str _, _, _ | .nilp, _, _ | .undef, _, _ | .row .., _, _ | .nili, _, _ | .el .., _, _ | .isw .., _, _ => by simp [AV.named]
 | .own .., _, h => by simp [AV.litCells] at h
 | .osl .., _, h => by simp [AV.litCells] at h
 | .st l, xs, h => by simp only [AV.litCells] at h; simp only [AV.named]; exact litAll_named h
 | .tup _, _, h => by simp [AV.litCells] at h
 | .ptr .., _, h => by simp [AV.litCells] at h
 | .pim .., _, h => by simp [AV.litCells] at h
 | .sl .., _, h => by simp [AV.litCells] at h
 | .fn .., _, h => by simp [AV.litCells] at h
 | .pimq .., _, h => by simp [AV.litCells] at h
 | .ifc .., _, h => by simp [AV.litCells] at h
theorem litAll_named {ok : Nat → Bool} : ∀ {l : List AV} {xs : List Value}, AV.litCells.litAll l = some xs → AV.nameds ok l = true
 | [], _, _ => rfl
 | v :: l, xs, h => by
  simp only [AV.litCells.litAll] at h
  split at h
  ·rename_i a b ha hb
   simp only [AV.nameds, Bool.and_eq_true]
   exact ⟨lit_named ha, litAll_named hb⟩
  ·cases h
end
theorem zeroOK_spec {P : Program} {t : TypeId} {z : AV} (h : zeroOK P t z = true) : ∃ val, (∀ w, (zeroValue t).run P w = .ok val w) ∧ (∀ E, RepC E z val.cells.toList) ∧ z.plain = true ∧ ∀ ok, z.named ok = true := by
 unfold zeroOK at h
 split at h
 ·rename_i v l h1 h2
  have e := sameCells_eq h
  refine ⟨v, fun w => ?_, fun E => by rw [e]; exact litCells_rep E h2, lit_plain h2, fun ok => lit_named h2⟩
  cases hi : P.info? t with
  | none => rw [hi] at h1; cases h1
  | some i =>
   rw [hi] at h1
   simp at h1
   simp [zeroValue, typeInfo, hi, h1]
 ·cases h
section
variable {cx : Cx} {G : Ini → Prop} {w0 : Ini} {E : Emb} {N : Nat} {env hp : Nat → Option AV} {a : Act} {w : World} {o : Oper}
theorem good_alloc (h : Rel w0 E N env hp a w) {t : TypeId} {d : Nat} {z : AV} (hop : o.op = .alloc t) (hz : NewN hp d) (hk : zeroOK cx.P t z = true) :
  Good cx.P o w0 N env hp (.ptr d []) [(d, z)] a w := by
 obtain ⟨val, h1, h2, h3, h4⟩ := zeroOK_spec hk
 obtain ⟨E', e1, _, _, e2, e3⟩ := h.alloc hz (c := z) (xs := val.cells) (T := t) (RepR.of (h2 E)) (h4 _)
 refine Good.value (E' := E') (x := .pointer (some ⟨w.heap.size, 0, none⟩)) (w' := { w with heap := w.heap.push (.cells val.cells t (0, 0)) }) ?_ e3 ?_ ?_
 ·simp [execOp, hop, Instr.alloc, h1, newVar, newRow]
 ·exact Rep1.ptr.2 (by rw [e1]; rfl)
 ·simp [AV.named, updH_same]
theorem good_box (h : Rel w0 E N env hp a w) {t : TypeId} {x : Operand} {d : Nat} {v : AV} (hop : o.op = .box t x) (hz : NewN hp d)
  (hv : Rep1 E v (a.eval x)) (hn : v.named (fun n => (hp n).isSome) = true) : Good cx.P o w0 N env hp (.ptr d []) [(d, v)] a w := by
 obtain ⟨E', e1, _, _, e2, e3⟩ := h.alloc hz (c := v) (xs := (a.eval x).cells) (T := t) (RepR.of hv.1) hn
 refine Good.value (E' := E') (x := .pointer (some ⟨w.heap.size, 0, none⟩)) (w' := { w with heap := w.heap.push (.cells (a.eval x).cells t (0, 0)) }) ?_ e3 ?_ ?_
 ·simp [execOp, hop, Instr.box, newVar, newRow]
 ·exact Rep1.ptr.2 (by rw [e1]; rfl)
 ·simp [AV.named, updH_same]
theorem own_cells (h : Rel w0 E N env hp a w) {n : Nat} {c u : AV} {p : List Step} (hc : hp n = some c) (hg : gett c p = some u) :
  c.live = true ∧ ∃ xs T, E.cnt n = some xs.size ∧ w.heap[E.ρ n]? = some (.cells xs T (0, 0)) ∧ RepR E c xs.toList ∧ (∀ f j, (froN n = true → c.rowSz ≤ j) → E.im f (E.ρ n) j = none) := by
 have hl : c.live = true := by cases c <;> first | rfl | (simp [gett, getB] at hg)
 refine ⟨hl, ?_⟩
 obtain ⟨_, ⟨_, s, hs⟩ | ⟨xs, T, h1, h2, h3, h4, _⟩⟩ := h.rheap n c hc hl
 ·exfalso
  subst hs
  unfold gett getB at hg
  simp only [List.length_nil] at hg
  split at hg
  ·rename_i i _ _
   have hb : Nat.blt i 0 = false := rfl
   split at hg
   ·rw [hb] at hg; cases hg
   ·cases hg
  ·cases hg
 ·exact ⟨xs, T, h1, h2, h3, h4⟩
theorem own_part (h : Rel w0 E N env hp a w) {n : Nat} {c u : AV} {p : List Step} (hc : hp n = some c) (hg : gett c p = some u) :
  ∃ xs T ys, w.heap[E.ρ n]? = some (.cells xs T (0, 0)) ∧ (∀ j v, ys[j]? = some v → xs[offs p + j]? = some v) ∧ RepC E u ys ∧ u.named (fun n => (hp n).isSome) = true := by
 obtain ⟨_, xs, T, _, h1, h2, _⟩ := own_cells h hc hg
 obtain ⟨pre, ys, post, e, hl, hr⟩ := gett_sound hg h2
 refine ⟨xs, T, ys, h1, fun j v hv => ?_, hr, gett_named hg (h.shp n c hc)⟩
 have : xs[offs p + j]? = xs.toList[offs p + j]? := by simp
 rw [this, e, ← hl, List.append_assoc, List.getElem?_append_right (by omega)]
 simp only [Nat.add_sub_cancel_left]
 have hj : j < ys.length := by
  rcases Nat.lt_or_ge j ys.length with h | h
  ·exact h
  ·simp [List.getElem?_eq_none h] at hv
 rw [List.getElem?_append_left hj]; exact hv
theorem good_load (h : Rel w0 E N env hp a w) {t : TypeId} {x : Operand} {n : Nat} {p : List Step} {c v : AV} (hop : o.op = .load t x)
  (hx : Rep1 E (.ptr n p) (a.eval x)) (hc : hp n = some c) (hg : gett c p = some v) (hf : fitsT cx.P t v = true) : Good cx.P o w0 N env hp v [] a w := by
 obtain ⟨xs, T, ys, h1, h2, h3, h4⟩ := own_part h hc hg
 obtain ⟨y, hy, hr⟩ := run_loadVarT hf h1 h2 h3
 rw [Rep1.ptr] at hx
 refine Good.value (E' := E) (x := y) (w' := w) ?_ h ((Rep.one (fitsT_spec hf).2.2).2 hr) h4
 simp [execOp, hop, Instr.loadAt, hx, Instr.sureAddr, hy]
theorem preV_cases (P : Program) (t : TypeId) (v : AV) : preV P t v = v ∨ ∃ k n l m, v = .arr (.int k) n l ∧ m < n ∧ preV P t v = .arr (.int k) m (l.take m) := by
 unfold preV
 split
 ·rename_i kb n l
  split
  ·rename_i m e _
   cases h : Nat.blt m n
   ·exact .inl rfl
   ·exact .inr ⟨kb, n, l, m, rfl, Nat.le_of_ble_eq_true h, rfl⟩
  ·exact .inl rfl
 ·exact .inl rfl
theorem preV_rep {E : Emb} {P : Program} {t : TypeId} {v : AV} {ys : List Value} (h : RepC E v ys) : ∃ zs, RepC E (preV P t v) zs ∧ ∀ (j : Nat) (u : Value), zs[j]? = some u → ys[j]? = some u := by
 rcases preV_cases P t v with h1 | ⟨k, n, l, m, h1, h2, h3⟩
 ·rw [h1]; exact ⟨ys, h, fun _ _ h => h⟩
 ·rw [h3]
  subst h1
  simp only [RepC] at h ⊢
  obtain ⟨hl, hr⟩ := h
  have hr := RcL_ints.1 hr
  subst hr
  refine ⟨((l : List Int).take m).map (.int k), ⟨?_, RcL_ints.2 rfl⟩, fun j u hu => ?_⟩
  ·have hl : (l : List Int).length = n := hl
   show ((l : List Int).take m).length = m
   rw [List.length_take]; omega
  ·rw [List.map_take] at hu
   rw [List.getElem?_take] at hu
   split at hu
   ·exact hu
   ·cases hu
theorem preV_named {P : Program} {t : TypeId} {v : AV} {ok : Nat → Bool} (h : v.named ok = true) : (preV P t v).named ok = true := by
 rcases preV_cases P t v with h1 | ⟨k, n, l, m, h1, h2, h3⟩
 ·rw [h1]; exact h
 ·rw [h3]; simp [AV.named]
theorem good_load_pre (h : Rel w0 E N env hp a w) {t : TypeId} {x : Operand} {n : Nat} {p : List Step} {c v : AV} (hop : o.op = .load t x)
  (hx : Rep1 E (.ptr n p) (a.eval x)) (hc : hp n = some c) (hg : gett c p = some v) (hf : fitsT cx.P t (preV cx.P t v) = true) : Good cx.P o w0 N env hp (preV cx.P t v) [] a w := by
 obtain ⟨xs, T, ys, h1, h2, h3, h4⟩ := own_part h hc hg
 obtain ⟨zs, h5, h6⟩ := preV_rep (P := cx.P) (t := t) h3
 obtain ⟨y, hy, hr⟩ := run_loadVarT hf h1 (fun j u hu => h2 j u (h6 j u hu)) h5
 rw [Rep1.ptr] at hx
 refine Good.value (E' := E) (x := y) (w' := w) ?_ h ((Rep.one (fitsT_spec hf).2.2).2 hr) (preV_named h4)
 simp [execOp, hop, Instr.loadAt, hx, Instr.sureAddr, hy]
theorem pim_inv {E : Emb} {fr : Bool} {v : AV} {x : Value} (h : Rep1 E (.pim fr v) x) : ∃ b off ys, x = .pointer (some ⟨b, off, none⟩) ∧ (∀ j u, ys[j]? = some u → E.im fr b (off + j) = some u) ∧ RepC E v ys := by
 have := h.cells1 rfl
 simp only [RepC] at this
 obtain ⟨⟨b, off, spot⟩, ys, h1, ⟨h2, h3⟩, h5⟩ := this
 simp at h1
 simp only at h2; subst h2
 exact ⟨b, off, ys, h1, h3, h5⟩
theorem im_cells {b : Ini} (h : Mem b E hp w) {fr : Bool} {g off : Nat} {ys : List Value} (hy : ∀ j u, ys[j]? = some u → E.im fr g (off + j) = some u) (hne : ys ≠ []) :
  ∃ c T fz, w.heap[g]? = some (.cells c T fz) ∧ ∀ j u, ys[j]? = some u → c[off + j]? = some u := by
 match ys, hne with
 | y :: ys, _ =>
  obtain ⟨c, T, fz, h1, _⟩ := h.imm fr g _ y (hy 0 y rfl)
  refine ⟨c, T, fz, h1, fun j u hu => ?_⟩
  obtain ⟨c', T', fz', h2, h3⟩ := h.imm fr g _ u (hy j u hu)
  rw [h1] at h2; cases h2
  exact h3
theorem good_load_pim (h : Rel w0 E N env hp a w) {t : TypeId} {x : Operand} {fr : Bool} {v : AV} (hop : o.op = .load t x)
  (hx : Rep1 E (.pim fr v) (a.eval x)) (hn : v.named (fun n => (hp n).isSome) = true) (hf : fitsT cx.P t v = true) : Good cx.P o w0 N env hp v [] a w := by
 obtain ⟨b, off, ys, e, h2, h3⟩ := pim_inv hx
 have hrun : ∃ y, (loadVar t ⟨b, off, none⟩).run cx.P w = .ok y w ∧ Rep1 E v y := by
  by_cases hne : ys = []
  ·subst hne
   obtain ⟨k1, k2, k3⟩ := fitsT_spec hf
   have hl := h3.length
   have ha : v.isAgg = true := by
    cases hq : v.isAgg with
    | true => rfl
    | false => have := size_scalar k3 hq; simp at hl; omega
   rw [ha] at k1
   refine ⟨.agg #[], ?_, by have := Rep1.of_agg ha h3; simpa using this⟩
   unfold loadVar
   simp only [Sem.run_bind, run_isAggT k1, Result.andThen_ok, if_true, run_sizeT k2]
   simp at hl
   rw [← hl]
   simp [loadCells, loadCellsFrom]
  ·obtain ⟨c, T, fz, g1, g2⟩ := im_cells h.toMem h2 hne
   exact run_loadVarT hf g1 g2 h3
 obtain ⟨y, hy, hr⟩ := hrun
 refine Good.value (E' := E) (x := y) (w' := w) ?_ h ((Rep.one (fitsT_spec hf).2.2).2 hr) hn
 simp [execOp, hop, Instr.loadAt, e, Instr.sureAddr, hy]
theorem good_store (h : Rel w0 E N env hp a w) {t : TypeId} {x y : Operand} {n : Nat} {p : List Step} {c c' v : AV} (hfr : froN n = false) (hop : o.op = .store t x y)
  (hx : Rep1 E (.ptr n p) (a.eval x)) (hv : Rep1 E v (a.eval y)) (hnv : v.named (fun n => (hp n).isSome) = true) (hc : hp n = some c) (hs : sett c p v = some c') (hf : fitsT cx.P t v = true) :
  Good cx.P o w0 N env hp .undef [(n, c')] a w := by
 have hlive : c.live = true := by cases c <;> first | rfl | (simp [sett, setB] at hs)
 have hcells : ∃ xs T, E.cnt n = some xs.size ∧ w.heap[E.ρ n]? = some (.cells xs T (0, 0)) ∧ RepR E c xs.toList := by
  obtain ⟨_, ⟨_, s, hs'⟩ | ⟨xs, T, h1, h2, h3, h4, _⟩⟩ := h.rheap n c hc hlive
  ·exfalso
   subst hs'
   unfold sett setB at hs
   simp only [List.length_nil] at hs
   split at hs
   ·rename_i i _ _
    have hb : Nat.blt i 0 = false := rfl
    split at hs
    ·rw [hb] at hs; cases hs
    ·cases hs
   ·cases hs
  ·exact ⟨xs, T, h1, h2, h3⟩
 obtain ⟨xs, T, hk, h1, h2⟩ := hcells
 obtain ⟨pre, ys, post, e, hl, hly, hr, hrow, _⟩ := sett_sound hs h2 hv.1
 have hsz : (a.eval y).cells.size = v.size := by simpa using hv.1.length
 rw [Rep1.ptr] at hx
 have hst := run_storeCells_at cx.P (E.ρ n) (offs p) T (a.eval y).cells.toList 0 xs w h1 (by
  have : xs.size = (pre ++ ys ++ post).length := by rw [← e]; simp
  simp [this, hl, hly]) hv.1.oneCell
 refine Good.skip (E' := E) (w' := w.setRow (E.ρ n) (pre ++ (a.eval y).cells.toList ++ post).toArray) ?_ ?_
 ·have e1 : xs.toList.take (offs p) = pre := by rw [e, ← hl, List.append_assoc, List.take_left]
  have e2 : xs.toList.drop (offs p + (a.eval y).cells.toList.length) = post := by
   rw [e, ← hl, ← hly, ← List.length_append, List.drop_left]
  simp only [Nat.add_zero] at hst
  rw [e1, e2] at hst
  simp only [execOp, hop, Sem.run_bind, Instr.storeAt, hx, Instr.sureAddr, Sem.run_pure, Result.andThen_ok, storeVar, run_sizeT (fitsT_spec hf).2.1, hsz, ne_eq, not_true_eq_false, if_false, hst]
 ·have hxs : xs.size = (pre ++ ys ++ post).length := by rw [← e]; simp
  exact h.write hc hlive hfr hk h1 (by rw [hxs]; simp only [List.size_toArray, List.length_append]; omega) (by simpa using hr) hrow (sett_named hs (h.shp n c hc) hnv)
end
end Go.Sy
set_option linter.unusedVariables false
set_option linter.unusedSimpArgs false
namespace Go.Sy
open Go Go.RowKit
noncomputable section
theorem offs_append (p q : List Step) : offs (p ++ q) = offs p + offs q := by
 induction p with
 | nil => simp [offs]
 | cons s p ih => cases s <;> simp [offs, ih, Nat.add_assoc]
theorem RepC.plain {E : Emb} {v : AV} {xs : List Value} (h : RepC E v xs) : v.plain = true := by
 cases v <;> simp [AV.plain] <;> simp only [RepC] at h
theorem sizeT_cells {P : Program} {t : TypeId} {n : Nat} (h : sizeT P t = some n) : P.cellsOf t = n := by
 unfold sizeT at h; unfold Program.cellsOf; rw [h]; rfl
theorem run_partT {P : Program} {w : World} {t : TypeId} {v : AV} {E : Emb} {cs : Array Value} {off : Nat} {pre ys post : List Value}
  (h1 : aggT P t = some v.isAgg) (h2 : sizeT P t = some v.size) (e : cs.toList = pre ++ ys ++ post) (hp : pre.length = off) (hr : RepC E v ys) :
  ∃ x, (part t cs off).run P w = .ok x w ∧ Rep1 E v x := by
 have hl := hr.length
 cases ha : v.isAgg with
 | true =>
  rw [ha] at h1
  refine ⟨.agg ys.toArray, ?_, Rep1.of_agg ha hr⟩
  unfold part
  simp only [Sem.run_bind, run_isAggT h1, Result.andThen_ok, if_true, run_sizeT h2, Sem.run_pure]
  congr 2
  apply Array.ext'
  rw [Array.toList_extract, e, ← hp, ← hl]
  simp [List.extract]
 | false =>
  rw [ha] at h1
  have hs := size_scalar hr.plain ha
  rw [hs] at hl
  match ys, hl with
  | [y], _ =>
   refine ⟨y, ?_, Rep1.of_cells1 ha hr⟩
   have hc : cs[off]? = some y := by
    have : cs[off]? = cs.toList[off]? := by simp
    rw [this, e, ← hp]; simp
   unfold part
   simp [run_isAggT h1, hc]
theorem range_all {l1 l2 : List Int} {n : Nat} (h1 : l1.length = n) (h2 : l2.length = n) : ((List.range n).all fun i => l1.getD i 0 == l2.getD i 0) = (l1 == l2) := by
 rw [Bool.eq_iff_iff]
 simp only [List.all_eq_true, List.mem_range, beq_iff_eq]
 constructor
 ·intro h
  apply List.ext_getElem (by omega)
  intro i hi hj
  have := h i (by omega)
  simpa [List.getD, hi, hj] using this
 ·rintro rfl i _; rfl
theorem eqItems_ints {P : Program} {e : TypeId} {kd k : IntKind} {d : Nat} (he : P.underlying e = some (.int kd)) (ha : aggT P e = some false) (w : World) {xs ys : Array Value} {l1 l2 : List Int}
  (h1 : xs.toList = l1.map (.int k)) (h2 : ys.toList = l2.map (.int k)) : ∀ is : List Nat, (∀ i ∈ is, i < l1.length ∧ i < l2.length) →
  (Op.eqItems (d + 1) e 1 xs ys is).run P w = .ok (is.all fun i => l1.getD i 0 == l2.getD i 0) w
 | [], _ => by simp [Op.eqItems]
 | i :: is, h => by
  obtain ⟨hi1, hi2⟩ := h i (by simp)
  have ih := eqItems_ints he ha w h1 h2 is (fun j hj => h j (by simp [hj])) (d := d)
  have p1 : (part e xs (i * 1)).run P w = .ok (.int k (l1.getD i 0)) w := by
   have : xs[i]? = some (.int k (l1.getD i 0)) := by
    have : xs[i]? = xs.toList[i]? := by simp
    rw [this, h1]; simp [List.getD, hi1]
   unfold part
   simp [run_isAggT ha, this]
  have p2 : (part e ys (i * 1)).run P w = .ok (.int k (l2.getD i 0)) w := by
   have : ys[i]? = some (.int k (l2.getD i 0)) := by
    have : ys[i]? = ys.toList[i]? := by simp
    rw [this, h2]; simp [List.getD, hi2]
   unfold part
   simp [run_isAggT ha, this]
  simp only [Op.eqItems, Sem.run_bind, p1, p2, Result.andThen_ok, run_equalIn_int w d e k kd _ _ he, List.all_cons]
  cases l1.getD i 0 == l2.getD i 0
  ·simp
  ·simp [ih]
theorem limbs_beq (x y : Nat) : (limbs x == limbs y) = u256eq x y := by
 rw [Bool.eq_iff_iff]
 simp only [limbs, u256eq, M256, beq_iff_eq, limb, List.cons.injEq, and_true]
 simp only [Nat.reduceMul, Nat.pow_zero, Nat.div_one, Nat.reducePow]
 constructor
 ·rintro ⟨h0, h1, h2, h3⟩; omega
 ·intro h; refine ⟨?_, ?_, ?_, ?_⟩ <;> omega
def EqSound (P : Program) (fuel : Nat) (r : TypeId → AV → AV → Option Bool) : Prop :=
 ∀ (E : Emb) (w : World) (t : TypeId) (v v' : AV) (b : Bool) (x x' : Value), r t v v' = some b → Rep1 E v x → Rep1 E v' x' → (Op.equalIn fuel t x x').run P w = .ok b w
theorem eqFs_sound {P : Program} {fuel : Nat} {r : TypeId → AV → AV → Option Bool} (hr : EqSound P fuel r) (E : Emb) (w : World) (xs ys : Array Value) :
  ∀ (fs : List Field) (off : Nat) (l l' : List AV) (b : Bool) (pre zs pre' zs' : List Value), eqFs P r fs off l l' = some b → RepCs E l zs → RepCs E l' zs' →
   xs.toList = pre ++ zs → pre.length = off → ys.toList = pre' ++ zs' → pre'.length = off → (Op.eqFields fuel xs ys fs).run P w = .ok b w
 | [], off, l, l', b, pre, zs, pre', zs', h, h1, h2, e1, p1, e2, p2 => by
  cases l <;> cases l' <;> simp [eqFs] at h
  subst h
  simp [Op.eqFields]
 | f :: fs, off, l, l', b, pre, zs, pre', zs', h, h1, h2, e1, p1, e2, p2 => by
  cases l with
  | nil => simp [eqFs] at h
  | cons v l =>
   cases l' with
   | nil => simp [eqFs] at h
   | cons v' l' =>
    simp only [eqFs] at h
    split at h
    ·rename_i hc
     obtain ⟨hn, ho, hs, hs', ha, ha'⟩ := hc
     simp only [RepCs] at h1 h2
     obtain ⟨c, d, rfl, hv, hl⟩ := h1
     obtain ⟨c', d', rfl, hv', hl'⟩ := h2
     obtain ⟨x, hx, rx⟩ := run_partT (w := w) (cs := xs) (off := f.offset) ha hs (by rw [e1, ← List.append_assoc]) (by rw [p1, ho]) hv
     obtain ⟨x', hx', rx'⟩ := run_partT (w := w) (cs := ys) (off := f.offset) (by rw [ha']; exact ha) (by rw [hs']; exact hs) (by rw [e2, ← List.append_assoc]) (by rw [p2, ho]) hv'
     split at h
     ·rename_i a hra
      have heq := hr E w _ _ _ _ _ _ hra rx rx'
      simp only [Op.eqFields, if_pos hn, Sem.run_bind, hx, hx', Result.andThen_ok, heq]
      split at h
      ·rename_i hemp
       simp at h; subst h
       simp only [Bool.and_eq_true, List.isEmpty_iff] at hemp
       obtain ⟨⟨rfl, rfl⟩, rfl⟩ := hemp
       cases a <;> simp [Op.eqFields]
      ·split at h
       ·rename_i b' hb
        simp at h; subst h
        have ih := eqFs_sound hr E w xs ys fs (off + v.size) l l' b' (pre ++ c) d (pre' ++ c') d' hb hl hl' (by rw [e1]; simp) (by simp [p1, hv.length]) (by rw [e2]; simp) (by simp [p2, hv'.length, hs'])
        cases a <;> simp [ih]
       ·cases h
     ·cases h
    ·cases h
theorem run_equalIn_nil {P : Program} (w : World) (d : Nat) (t : TypeId) {e : TypeId} (x : Option Addr) (hu : P.underlying t = some (.pointer e)) : (Op.equalIn (d + 1) t (.pointer x) (.pointer none)).run P w = .ok x.isNone w := by
 unfold Op.equalIn
 rw [Sem.run_bind, run_underlying hu]
 cases x <;> rfl
theorem run_equalIn_nil' {P : Program} (w : World) (d : Nat) (t : TypeId) {e : TypeId} (x : Option Addr) (hu : P.underlying t = some (.pointer e)) : (Op.equalIn (d + 1) t (.pointer none) (.pointer x)).run P w = .ok x.isNone w := by
 unfold Op.equalIn
 rw [Sem.run_bind, run_underlying hu]
 cases x <;> rfl
theorem Rep1_open {E : Emb} {v : AV} {x : Value} : Rep1 E v.open x ↔ Rep1 E v x := by
 unfold Rep1
 rw [RepC_open, v.open_agg]
theorem AV.open_plain (v : AV) : v.open.plain = v.plain := by
 cases v with
 | el i t => cases i <;> rfl
 | _ => rfl
theorem bytes_beq (x y : List UInt8) : ((⟨x.toArray⟩ : ByteArray) == ⟨y.toArray⟩) = (x == y) := by
 show ByteArray.beq _ _ = _
 unfold ByteArray.beq
 rw [Bool.eq_iff_iff]
 simp
theorem run_equalIn_str {P : Program} (w : World) (d : Nat) (t : TypeId) (a b : ByteArray) (hu : P.underlying t = some .string) : (Op.equalIn (d + 1) t (.string a) (.string b)).run P w = .ok (a == b) w := by
 unfold Op.equalIn
 rw [Sem.run_bind, run_underlying hu]
 rfl
theorem Rep1.str {E : Emb} {l : List UInt8} {x : Value} : Rep1 E (.str l) x ↔ x = .string ⟨l.toArray⟩ := by
 constructor
 ·intro h
  have := h.cells1 rfl
  simpa [RepC] using this
 ·rintro rfl; exact ⟨by simp [RepC, Value.cells], by simp [AV.isAgg], by simp [Value.cells]⟩
theorem Rep1.nili {E : Emb} {x : Value} : Rep1 E .nili x ↔ x = .nilIface := by
 constructor
 ·intro h
  have := h.cells1 rfl
  simpa [RepC] using this
 ·rintro rfl; exact ⟨by simp [RepC, Value.cells], by simp [AV.isAgg], by simp [Value.cells]⟩
theorem eqTV_sound (P : Program) : ∀ (d k : Nat), EqSound P (d + k + 1) (eqTV P d)
 | 0, _, E, w, t, v, v', b, x, x', h, _, _ => by simp [eqTV] at h
 | d + 1, k, E, w, t, v, v', b, x, x', h, hx, hx' => by
  rw [show d + 1 + k + 1 = (d + k + 1) + 1 by omega]
  simp only [eqTV] at h
  split at h
  ·rename_i hu
   split at h
   ·rw [Rep1.bool] at hx hx'
    simp at h; subst h; subst hx; subst hx'
    exact run_equalIn_bool w _ t _ _ hu
   ·cases h
  ·rename_i kd hu
   split at h
   ·split at h
    ·rename_i hk
     subst hk
     rw [Rep1.int] at hx hx'
     simp at h; subst h; subst hx; subst hx'
     exact run_equalIn_int w _ t _ kd _ _ hu
    ·cases h
   ·cases h
  ·rename_i e hu
   have hN : ∀ {y : Value}, Rep1 E .nilp y → y = .pointer none := fun {y} h => by
    have := h.cells1 rfl
    simp only [RepC] at this
    simpa using this
   have hI : ∀ {y : Value} {fr : Bool} {v : AV}, Rep1 E (.pim fr v) y → ∃ ad, y = .pointer (some ad) := fun {y fr v} h => by
    have := h.cells1 rfl
    simp only [RepC] at this
    obtain ⟨ad, ys, e1, _⟩ := this
    exact ⟨ad, by simpa using e1⟩
   have hQ : ∀ {y : Value} {ok : Bool} {v : AV}, Rep1 E (.pimq ok v) y → ∃ x, y = .pointer x ∧ x.isNone = !ok := fun {y ok v} h => by
    have := h.cells1 rfl
    simp only [RepC] at this
    rcases this with ⟨rfl, e1⟩ | ⟨rfl, ad, ys, e1, _⟩
    ·exact ⟨none, by simpa using e1, rfl⟩
    ·exact ⟨some ad, by simpa using e1, rfl⟩
   replace hx := Rep1_open.2 hx
   replace hx' := Rep1_open.2 hx'
   generalize v.open = v at h hx
   generalize v'.open = v' at h hx'
   split at h
   ·cases h
    rw [hN hx, hN hx']
    exact run_equalIn_nil w _ t _ hu
   ·cases h
    rw [Rep1.ptr.1 hx, hN hx']
    exact run_equalIn_nil w _ t _ hu
   ·cases h
    rw [Rep1.ptr.1 hx', hN hx]
    exact run_equalIn_nil' w _ t _ hu
   ·cases h
    obtain ⟨ad, e⟩ := hI hx
    rw [e, hN hx']
    exact run_equalIn_nil w _ t _ hu
   ·cases h
    obtain ⟨ad, e⟩ := hI hx'
    rw [e, hN hx]
    exact run_equalIn_nil' w _ t _ hu
   ·cases h
    obtain ⟨ad, e, e2⟩ := hQ hx
    rw [e, hN hx', ← e2]
    exact run_equalIn_nil w _ t _ hu
   ·cases h
    obtain ⟨ad, e, e2⟩ := hQ hx'
    rw [e, hN hx, ← e2]
    exact run_equalIn_nil' w _ t _ hu
   ·cases h
  ·rename_i ms hu
   split at h
   case isFalse => cases h
   split at h
   ·cases h
    rw [Rep1.nili.1 hx, Rep1.nili.1 hx']
    unfold Op.equalIn
    rw [Sem.run_bind, run_underlying hu]
    rfl
   ·cases h
    have := hx.cells1 rfl
    simp only [RepC] at this
    obtain ⟨y, e, _⟩ := this
    rw [show x = _ by simpa using e, Rep1.nili.1 hx']
    unfold Op.equalIn
    rw [Sem.run_bind, run_underlying hu]
    rfl
   ·cases h
    have := hx'.cells1 rfl
    simp only [RepC] at this
    obtain ⟨y, e, _⟩ := this
    rw [show x' = _ by simpa using e, Rep1.nili.1 hx]
    unfold Op.equalIn
    rw [Sem.run_bind, run_underlying hu]
    rfl
   ·cases h
  ·rename_i hu
   split at h
   ·cases h
    rw [Rep1.str.1 hx, Rep1.str.1 hx', run_equalIn_str w _ t _ _ hu, bytes_beq]
   ·cases h
  ·rename_i n e hu
   split at h
   ·rename_i hc
    obtain ⟨ha, hs⟩ := hc
    have hce := sizeT_cells hs
    split at h
    ·rename_i ki hue
     split at h
     ·rename_i y1 y2
      split at h
      ·rename_i hn
       subst hn
       simp at h; subst h
       obtain ⟨c1, g1, _⟩ := hx
       obtain ⟨c2, g2, _⟩ := hx'
       obtain ⟨xs, rfl⟩ := g1 rfl
       obtain ⟨ys, rfl⟩ := g2 rfl
       simp only [Value.cells, RepC] at c1 c2
       obtain ⟨i, hi⟩ : ∃ i, P.info? e = some i := by
        unfold sizeT at hs
        cases hi : P.info? e with
        | none => rw [hi] at hs; cases hs
        | some i => exact ⟨i, rfl⟩
       rw [run_equalIn_array w _ xs ys hu hi, hce]
       rw [eqItems_ints hue ha w (l1 := limbs y1) (l2 := limbs y2) c1 c2 _ (by simp [limbs]), range_all (l1 := limbs y1) (l2 := limbs y2) (n := 4) rfl rfl, limbs_beq]
      ·cases h
     ·rename_i ka m l kb m' l'
      split at h
      ·rename_i hc
       obtain ⟨rfl, rfl, rfl⟩ := hc
       simp at h; subst h
       obtain ⟨c1, g1, _⟩ := hx
       obtain ⟨c2, g2, _⟩ := hx'
       obtain ⟨xs, rfl⟩ := g1 rfl
       obtain ⟨ys, rfl⟩ := g2 rfl
       simp only [Value.cells, RepC] at c1 c2
       obtain ⟨i, hi⟩ : ∃ i, P.info? e = some i := by
        unfold sizeT at hs
        cases hi : P.info? e with
        | none => rw [hi] at hs; cases hs
        | some i => exact ⟨i, rfl⟩
       rw [run_equalIn_array w _ xs ys hu hi, hce]
       have e1 := RcL_ints.1 c1.2
       have e2 := RcL_ints.1 c2.2
       have hl1 := c1.1
       have hl2 := c2.1
       rw [eqItems_ints hue ha w e1 e2 _ (by intro i hi; simp at hi; omega), range_all hl1 hl2]
      ·cases h
     ·cases h
    ·cases h
   ·cases h
  ·rename_i fs hu
   split at h
   ·cases h
   ·rename_i hst
    split at h
    ·rename_i l l'
     obtain ⟨c1, g1, _⟩ := hx
     obtain ⟨c2, g2, _⟩ := hx'
     obtain ⟨xs, rfl⟩ := g1 rfl
     obtain ⟨ys, rfl⟩ := g2 rfl
     simp only [Value.cells, RepC] at c1 c2
     have hu' : P.underlying t = some (.struct (P.fieldsOf t)) := by simp [Program.fieldsOf, hu]
     rw [run_equalIn_struct w _ t xs ys hu' (by simpa using hst)]
     have hf : P.fieldsOf t = fs := by simp [Program.fieldsOf, hu]
     rw [hf]
     exact eqFs_sound (eqTV_sound P d k) E w xs ys fs.toList 0 l l' b [] _ [] _ h c1 c2 rfl rfl rfl rfl
    ·cases h
  ·cases h
end
end Go.Sy
set_option linter.unusedVariables false
set_option linter.unusedSimpArgs false
namespace Go.Sy
open Go Go.RowKit
theorem eqGuard_int {P : Program} {w : World} (op : BinOp) (t : TypeId) (x y : Operand) (ka kb : IntKind) (a b : Int) : (eqGuard op t x y (.int ka a) (.int kb b)).run P w = .ok () w := by
 cases op <;> simp [eqGuard]
theorem bytes_toList (l : List UInt8) : (⟨l.toArray⟩ : ByteArray).toList = l := by
 rw [ByteArray.toList_eq]
theorem bytes_size (l : List UInt8) : (⟨l.toArray⟩ : ByteArray).size = l.length := by simp [ByteArray.size]
theorem bytes_append (a b : List UInt8) : (⟨a.toArray⟩ : ByteArray) ++ ⟨b.toArray⟩ = ⟨(a ++ b).toArray⟩ := by
 apply ByteArray.ext
 simp
theorem guardIn_nil {P : Program} {w : World} {t : TypeId} {ms : Array (String × TypeId)} (h1 : P.underlying t = some (.interface ms)) (h2 : ms.isEmpty = true) : (Op.eqGuardIn Op.maxDepth t .nilIface .nilIface).run P w = .ok false w := by
 show (Op.eqGuardIn (9999 + 1) t .nilIface .nilIface).run P w = _
 unfold Op.eqGuardIn
 rw [Sem.run_bind, run_underlying h1]
 simp [h2]
theorem eqGuard_nil {P : Program} {w : World} (op : BinOp) {t : TypeId} (x y : Operand) {ms : Array (String × TypeId)} (h1 : P.underlying t = some (.interface ms)) (h2 : ms.isEmpty = true) : (eqGuard op t x y .nilIface .nilIface).run P w = .ok () w := by
 have hgi := guardIn_nil (w := w) h1 h2
 cases op <;> (try simp [eqGuard]) <;> cases x <;> cases y <;> simp [hgi]
theorem eqTV_kinds {P : Program} : ∀ {d : Nat} {t : TypeId} {v1 v2 : AV} {b : Bool}, eqTV P d t v1 v2 = some b →
  v1.plain = true ∧ v2.plain = true ∧ ((∃ x y, v1 = .bool x ∧ v2 = .bool y) ∨ (∃ k k' x y, v1 = .int k x ∧ v2 = .int k' y) ∨ (v1.isAgg = true ∧ v2.isAgg = true) ∨ (∀ E x y, Rep1 E v1 x → Rep1 E v2 y → ∃ p q, x = .pointer p ∧ y = .pointer q) ∨ (∃ x y, v1 = .str x ∧ v2 = .str y) ∨
   ∃ ms, P.underlying t = some (.interface ms) ∧ ms.isEmpty = true ∧ ∀ E x y, Rep1 E v1 x → Rep1 E v2 y → (x = .nilIface ∨ ∃ t z, x = .iface t z) ∧ (y = .nilIface ∨ ∃ t z, y = .iface t z)) := by
 intro d t v1 v2 b h
 cases d with
 | zero => simp [eqTV] at h
 | succ d =>
  simp only [eqTV] at h
  split at h
  ·split at h
   ·exact ⟨rfl, rfl, .inl ⟨_, _, rfl, rfl⟩⟩
   ·cases h
  ·split at h
   ·exact ⟨rfl, rfl, .inr (.inl ⟨_, _, _, _, rfl, rfl⟩)⟩
   ·cases h
  ·have hN : ∀ E x, Rep1 E .nilp x → ∃ p, x = .pointer p := fun E x h => by
    have := h.cells1 rfl
    simp only [RepC] at this
    simp at this; exact ⟨_, this⟩
   have hP : ∀ E n p x, Rep1 E (.ptr n p) x → ∃ p, x = .pointer p := fun E n p x h => ⟨_, Rep1.ptr.1 h⟩
   have hI : ∀ E fr v x, Rep1 E (.pim fr v) x → ∃ p, x = .pointer p := fun E fr v x h => by
    have := h.cells1 rfl
    simp only [RepC] at this
    obtain ⟨ad, ys, e1, _⟩ := this
    simp at e1; exact ⟨_, e1⟩
   have hQ : ∀ E ok v x, Rep1 E (.pimq ok v) x → ∃ p, x = .pointer p := fun E ok v x h => by
    have := h.cells1 rfl
    simp only [RepC] at this
    rcases this with ⟨_, e1⟩ | ⟨_, ad, ys, e1, _⟩ <;> (simp at e1; exact ⟨_, e1⟩)
   have fin : ∀ {u1 u2 : AV}, u1 = v1.open → u2 = v2.open → u1.plain = true → u2.plain = true → (∀ E x, Rep1 E u1 x → ∃ p, x = .pointer p) → (∀ E x, Rep1 E u2 x → ∃ p, x = .pointer p) →
     v1.plain = true ∧ v2.plain = true ∧ ((∃ x y, v1 = .bool x ∧ v2 = .bool y) ∨ (∃ k k' x y, v1 = .int k x ∧ v2 = .int k' y) ∨ (v1.isAgg = true ∧ v2.isAgg = true) ∨ (∀ E x y, Rep1 E v1 x → Rep1 E v2 y → ∃ p q, x = .pointer p ∧ y = .pointer q) ∨ (∃ x y, v1 = .str x ∧ v2 = .str y) ∨
      ∃ ms, P.underlying t = some (.interface ms) ∧ ms.isEmpty = true ∧ ∀ E x y, Rep1 E v1 x → Rep1 E v2 y → (x = .nilIface ∨ ∃ t z, x = .iface t z) ∧ (y = .nilIface ∨ ∃ t z, y = .iface t z)) := by
    intro u1 u2 e1 e2 p1 p2 g1 g2
    subst e1; subst e2
    refine ⟨by rw [← v1.open_plain]; exact p1, by rw [← v2.open_plain]; exact p2, .inr (.inr (.inr (.inl fun E x y h1 h2 => ?_)))⟩
    obtain ⟨p, e⟩ := g1 E x (Rep1_open.2 h1)
    obtain ⟨q, e'⟩ := g2 E y (Rep1_open.2 h2)
    exact ⟨p, q, e, e'⟩
   split at h
   ·rename_i e1 e2; exact fin e1.symm e2.symm rfl rfl hN hN
   ·rename_i e1 e2; exact fin e1.symm e2.symm rfl rfl (fun E x => hP E _ _ x) hN
   ·rename_i e1 e2; exact fin e1.symm e2.symm rfl rfl hN (fun E x => hP E _ _ x)
   ·rename_i e1 e2; exact fin e1.symm e2.symm rfl rfl (fun E x => hI E _ _ x) hN
   ·rename_i e1 e2; exact fin e1.symm e2.symm rfl rfl hN (fun E x => hI E _ _ x)
   ·rename_i e1 e2; exact fin e1.symm e2.symm rfl rfl (fun E x => hQ E _ _ x) hN
   ·rename_i e1 e2; exact fin e1.symm e2.symm rfl rfl hN (fun E x => hQ E _ _ x)
   ·cases h
  ·rename_i ms hu
   split at h
   case isFalse => cases h
   rename_i hms
   have hF : ∀ E t v x, Rep1 E (.ifc t v) x → ∃ t z, x = .iface t z := fun E t v x h => by
    have := h.cells1 rfl
    simp only [RepC] at this
    obtain ⟨z, e1, _⟩ := this
    simp at e1; exact ⟨_, _, e1⟩
   split at h
   ·exact ⟨rfl, rfl, .inr (.inr (.inr (.inr (.inr ⟨ms, hu, hms, fun E x y h1 h2 => ⟨.inl (Rep1.nili.1 h1), .inl (Rep1.nili.1 h2)⟩⟩))))⟩
   ·exact ⟨rfl, rfl, .inr (.inr (.inr (.inr (.inr ⟨ms, hu, hms, fun E x y h1 h2 => ⟨.inr (hF E _ _ x h1), .inl (Rep1.nili.1 h2)⟩⟩))))⟩
   ·exact ⟨rfl, rfl, .inr (.inr (.inr (.inr (.inr ⟨ms, hu, hms, fun E x y h1 h2 => ⟨.inl (Rep1.nili.1 h1), .inr (hF E _ _ y h2)⟩⟩))))⟩
   ·cases h
  ·split at h
   ·exact ⟨rfl, rfl, .inr (.inr (.inr (.inr (.inl ⟨_, _, rfl, rfl⟩))))⟩
   ·cases h
  ·split at h
   ·split at h
    ·split at h
     ·exact ⟨rfl, rfl, .inr (.inr (.inl ⟨rfl, rfl⟩))⟩
     ·exact ⟨rfl, rfl, .inr (.inr (.inl ⟨rfl, rfl⟩))⟩
     ·cases h
    ·cases h
   ·cases h
  ·split at h
   ·cases h
   ·split at h
    ·exact ⟨rfl, rfl, .inr (.inr (.inl ⟨rfl, rfl⟩))⟩
    ·cases h
  ·cases h
theorem binK_run {P : Program} {E : Emb} {w : World} {op : BinOp} {t : TypeId} {v1 v2 v : AV} {x1 x2 : Value} (h : binK P op t v1 v2 some = some v) (h1 : Rep E v1 x1) (h2 : Rep E v2 x2) (x y : Operand) :
  ∃ z, ((do eqGuard op t x y x1 x2; binOp op t x1 x2 : Sem Value)).run P w = .ok z w ∧ Rep1 E v z ∧ v.plain = true ∧ ∀ ok, v.named ok = true := by
 unfold binK at h
 split at h
 ·rename_i ka a kb b
  obtain rfl : x1 = .int ka a := Rep1.int.1 h1
  obtain rfl : x2 = .int kb b := Rep1.int.1 h2
  have hI : ∀ {k : IntKind} {n : Int}, ((do eqGuard op t x y (.int ka a) (.int kb b); binOp op t (.int ka a) (.int kb b) : Sem Value)).run P w = .ok (.int k n) w → v = .int k n →
    ∃ z, ((do eqGuard op t x y (.int ka a) (.int kb b); binOp op t (.int ka a) (.int kb b) : Sem Value)).run P w = .ok z w ∧ Rep1 E v z ∧ v.plain = true ∧ ∀ ok, v.named ok = true :=
   fun hr e => ⟨_, hr, by rw [e]; exact Rep1.int.2 rfl, by rw [e]; rfl, fun _ => by rw [e]; rfl⟩
  have hB : ∀ {n : Bool}, ((do eqGuard op t x y (.int ka a) (.int kb b); binOp op t (.int ka a) (.int kb b) : Sem Value)).run P w = .ok (.bool n) w → v = .bool n →
    ∃ z, ((do eqGuard op t x y (.int ka a) (.int kb b); binOp op t (.int ka a) (.int kb b) : Sem Value)).run P w = .ok z w ∧ Rep1 E v z ∧ v.plain = true ∧ ∀ ok, v.named ok = true :=
   fun hr e => ⟨_, hr, by rw [e]; exact Rep1.bool.2 rfl, by rw [e]; rfl, fun _ => by rw [e]; rfl⟩
  split at h
  ·cases hc : decide (b < 0)
   ·rw [hc] at h; simp at h hc
    exact hI (by simp [eqGuard_int, binOp, Op.shift, show ¬ b < 0 by omega, shlI]) h.symm
   ·rw [hc] at h; cases h
  ·cases hc : decide (b < 0)
   ·rw [hc] at h; simp at h hc
    exact hI (by simp [eqGuard_int, binOp, Op.shift, show ¬ b < 0 by omega, shrI]) h.symm
   ·rw [hc] at h; cases h
  ·rename_i hshl hshr
   split at h
   ·rename_i hk
    subst hk
    split at h
    ·simp at h; exact hI (by simp [eqGuard_int, binOp, Op.intArith]) h.symm
    ·simp at h; exact hI (by simp [eqGuard_int, binOp, Op.intArith]) h.symm
    ·simp at h; exact hI (by simp [eqGuard_int, binOp, Op.intArith]) h.symm
    ·cases hc : (b == 0)
     ·rw [hc] at h; simp at h hc
      exact hI (by simp [eqGuard_int, binOp, Op.intDiv, hc]) h.symm
     ·rw [hc] at h; cases h
    ·cases hc : (b == 0)
     ·rw [hc] at h; simp at h hc
      exact hI (by simp [eqGuard_int, binOp, Op.intDiv, hc]) h.symm
     ·rw [hc] at h; cases h
    ·simp at h; exact hI (by simp [eqGuard_int, binOp, Op.intBits, andI]) h.symm
    ·simp at h; exact hI (by simp [eqGuard_int, binOp, Op.intBits, orI_eq]) h.symm
    ·simp at h; exact hI (by simp [eqGuard_int, binOp, Op.intBits, xorI]) h.symm
    ·simp at h; exact hI (by simp [eqGuard_int, binOp, Op.intBits, andNotI]) h.symm
    ·simp at h; exact hB (by simp [eqGuard_int, binOp, Op.intCmp]) h.symm
    ·simp at h; exact hB (by simp [eqGuard_int, binOp, Op.intCmp]) h.symm
    ·simp at h; exact hB (by simp [eqGuard_int, binOp, Op.intCmp]) h.symm
    ·simp at h; exact hB (by simp [eqGuard_int, binOp, Op.intCmp]) h.symm
    ·simp at h; exact hB (by simp [eqGuard_int, binOp, Op.intCmp]) h.symm
    ·simp at h; exact hB (by simp [eqGuard_int, binOp, Op.intCmp]) h.symm
    ·cases h
   ·cases h
 ·rename_i a b
  obtain rfl : x1 = .string ⟨a.toArray⟩ := Rep1.str.1 h1
  obtain rfl : x2 = .string ⟨b.toArray⟩ := Rep1.str.1 h2
  have eb : ((⟨a.toArray⟩ : ByteArray).toList == (⟨b.toArray⟩ : ByteArray).toList) = (a == b) := by rw [bytes_toList, bytes_toList]
  have hG : (eqGuard op t x y (.string ⟨a.toArray⟩) (.string ⟨b.toArray⟩)).run P w = .ok () w := by cases op <;> simp [eqGuard]
  have hB : ∀ {n : Bool}, (Op.stringOp op ⟨a.toArray⟩ ⟨b.toArray⟩).run P w = .ok (.bool n) w → binOp op t (.string ⟨a.toArray⟩) (.string ⟨b.toArray⟩) = Op.stringOp op ⟨a.toArray⟩ ⟨b.toArray⟩ → v = .bool n →
    ∃ z, ((do eqGuard op t x y (.string ⟨a.toArray⟩) (.string ⟨b.toArray⟩); binOp op t (.string ⟨a.toArray⟩) (.string ⟨b.toArray⟩) : Sem Value)).run P w = .ok z w ∧ Rep1 E v z ∧ v.plain = true ∧ ∀ ok, v.named ok = true :=
   fun {n} hr hd e => ⟨.bool n, by rw [hd]; simp [hG, hr], by rw [e]; exact Rep1.bool.2 rfl, by rw [e]; rfl, fun _ => by rw [e]; rfl⟩
  split at h
  ·cases hc : Nat.ble (a.length + b.length) 9223372036854775807
   ·rw [hc] at h; cases h
   ·rw [hc] at h; simp at h hc
    refine ⟨.string ⟨(a ++ b).toArray⟩, ?_, by rw [← h]; exact Rep1.str.2 rfl, by rw [← h]; rfl, fun _ => by rw [← h]; rfl⟩
    have : ¬ ((a.length : Int) + (b.length : Int) > 9223372036854775807) := by omega
    have hm : IntKind.max .i64 = 9223372036854775807 := rfl
    simp [hG, binOp, Op.stringOp, bytes_size, bytes_append, hm]
    omega
  ·simp at h; exact hB (by simp [Op.stringOp, eb]) rfl h.symm
  ·simp at h; exact hB (by simp [Op.stringOp, eb]) rfl h.symm
  ·simp at h; exact hB (by simp [Op.stringOp, bytes_toList]) rfl h.symm
  ·simp at h; exact hB (by simp [Op.stringOp, bytes_toList]) rfl h.symm
  ·simp at h; exact hB (by simp [Op.stringOp, bytes_toList]) rfl h.symm
  ·simp at h; exact hB (by simp [Op.stringOp, bytes_toList]) rfl h.symm
  ·cases h
 ·rename_i hni hns
  split at h
  ·cases h
  ·rename_i hg
   have hg' : P.eqGuardType P.depth t = false := by simpa using hg
   cases he : eqTV P 12 t v1 v2 with
   | none => rw [he] at h; simp at h
   | some c =>
    rw [he] at h
    obtain ⟨p1, p2, hk⟩ := eqTV_kinds he
    have r1 := (Rep.one p1).1 h1
    have r2 := (Rep.one p2).1 h2
    have hq := eqTV_sound P 12 9987 E w t v1 v2 c x1 x2 he r1 r2
    have hsh : (∃ a b, x1 = .bool a ∧ x2 = .bool b) ∨ (∃ xs ys, x1 = .agg xs ∧ x2 = .agg ys) ∨ (∃ p q, x1 = .pointer p ∧ x2 = .pointer q) ∨ (∃ ms, P.underlying t = some (.interface ms) ∧ ms.isEmpty = true ∧ (x1 = .nilIface ∨ ∃ t z, x1 = .iface t z) ∧ (x2 = .nilIface ∨ ∃ t z, x2 = .iface t z)) := by
     rcases hk with ⟨a, b, rfl, rfl⟩ | ⟨k, k', a, b, rfl, rfl⟩ | ⟨ha, hb⟩ | hpq | ⟨a, b, rfl, rfl⟩ | ⟨ms, g1, g2, g3⟩
     ·exact .inl ⟨a, b, Rep1.bool.1 r1, Rep1.bool.1 r2⟩
     ·exact absurd rfl (hni k a k' b rfl)
     ·obtain ⟨xs, e1⟩ := r1.2.1 ha
      obtain ⟨ys, e2⟩ := r2.2.1 hb
      exact .inr (.inl ⟨xs, ys, e1, e2⟩)
     ·exact .inr (.inr (.inl (hpq E x1 x2 r1 r2)))
     ·exact absurd rfl (hns a b rfl)
     ·exact .inr (.inr (.inr ⟨ms, g1, g2, g3 E x1 x2 r1 r2⟩))
    have heq : (Op.equal t x1 x2).run P w = .ok c w := hq
    cases op <;> simp at h
    ·refine ⟨.bool c, ?_, by rw [← h]; exact Rep1.bool.2 rfl, by rw [← h]; rfl, fun _ => by rw [← h]; rfl⟩
     rcases hsh with ⟨a, b, rfl, rfl⟩ | ⟨xs, ys, rfl, rfl⟩ | ⟨p, q, rfl, rfl⟩ | ⟨ms, g1, g2, g3, g4⟩
     ·simp [eqGuard, binOp, heq]
     ·simp [eqGuard, binOp, heq, hg']
     ·simp [eqGuard, binOp, heq]
     ·rcases g3 with rfl | ⟨t1, z1, rfl⟩ <;> rcases g4 with rfl | ⟨t2, z2, rfl⟩
      ·simp [eqGuard_nil _ x y g1 g2, binOp, heq]
      ·simp [eqGuard, binOp, heq]
      ·simp [eqGuard, binOp, heq]
      ·simp [eqGuard, binOp, heq]
    ·refine ⟨.bool (!c), ?_, by rw [← h]; exact Rep1.bool.2 rfl, by rw [← h]; rfl, fun _ => by rw [← h]; rfl⟩
     rcases hsh with ⟨a, b, rfl, rfl⟩ | ⟨xs, ys, rfl, rfl⟩ | ⟨p, q, rfl, rfl⟩ | ⟨ms, g1, g2, g3, g4⟩
     ·simp [eqGuard, binOp, heq]
     ·simp [eqGuard, binOp, heq, hg']
     ·simp [eqGuard, binOp, heq]
     ·rcases g3 with rfl | ⟨t1, z1, rfl⟩ <;> rcases g4 with rfl | ⟨t2, z2, rfl⟩
      ·simp [eqGuard_nil _ x y g1 g2, binOp, heq]
      ·simp [eqGuard, binOp, heq]
      ·simp [eqGuard, binOp, heq]
      ·simp [eqGuard, binOp, heq]
theorem unK_run {P : Program} {E : Emb} {w : World} {op : UnOp} {v1 v : AV} {x1 : Value} (h : unK op v1 some = some v) (h1 : Rep E v1 x1) :
  ∃ z, (Op.unary op x1).run P w = .ok z w ∧ Rep1 E v z ∧ v.plain = true ∧ ∀ ok, v.named ok = true := by
 unfold unK at h
 split at h
 ·rename_i b
  obtain rfl : x1 = .bool b := Rep1.bool.1 h1
  simp at h; subst h
  exact ⟨.bool (!b), by simp [Op.unary], Rep1.bool.2 rfl, rfl, fun _ => rfl⟩
 ·rename_i k a
  obtain rfl : x1 = .int k a := Rep1.int.1 h1
  simp at h; subst h
  exact ⟨.int k (k.wrap (0 - a)), by simp [Op.unary, Op.intArith], Rep1.int.2 (by simp), rfl, fun _ => rfl⟩
 ·rename_i k a
  obtain rfl : x1 = .int k a := Rep1.int.1 h1
  simp at h; subst h
  exact ⟨.int k (xorI k (if k.signed then -1 else k.max) a), by simp [Op.unary, Op.intBits, xorI], Rep1.int.2 rfl, rfl, fun _ => rfl⟩
 ·cases h
end Go.Sy
set_option linter.unusedVariables false
set_option linter.unusedSimpArgs false
namespace Go.Sy
open Go Go.RowKit
theorem foldl_set (off : Nat) : ∀ (xs : List Value) (k : Nat) (c : Array Value), off + k + xs.length ≤ c.size →
  ((xs.zipIdx k).foldl (fun (cs : Array Value) (p : Value × Nat) => cs.setIfInBounds (off + p.2) p.1) c).toList = c.toList.take (off + k) ++ xs ++ c.toList.drop (off + k + xs.length)
 | [], k, c, h => by simp
 | x :: xs, k, c, h => by
  simp only [List.zipIdx_cons, List.foldl_cons]
  rw [foldl_set off xs (k + 1) (c.setIfInBounds (off + k) x) (by simp at h ⊢; omega)]
  have e := list_seg_step c.toList (off + k) x xs (by simp at h ⊢; omega)
  simpa [Array.toList_setIfInBounds, Nat.add_assoc] using e
theorem fold_cells (off : Nat) (v : Value) (c : Array Value) (h : off + v.cells.size ≤ c.size) :
  (v.cells.zipIdx.foldl (fun (cs : Array Value) (p : Value × Nat) => cs.setIfInBounds (off + p.2) p.1) c).toList = c.toList.take off ++ v.cells.toList ++ c.toList.drop (off + v.cells.size) := by
 rw [← Array.foldl_toList, Array.toList_zipIdx]
 have := foldl_set off v.cells.toList 0 c (by simpa using h)
 simpa using this
theorem parts_sound {P : Program} {t : TypeId} {E : Emb} {ok : Nat → Bool} {place : Nat → Option (Nat × Nat)} {ea : Operand → AV} {er : Operand → Value}
  (hev : ∀ x, Rep E (ea x) (er x) ∧ (ea x).named ok = true)
  (hpl : ∀ i (u : AV), (∀ fs f, P.underlying t = some (.struct fs) → fs[i]? = some f → sizeT P f.type = some u.size → place i = some (f.offset, u.size)) ∧
   (∀ n e, P.underlying t = some (.array n e) → sizeT P e = some u.size → place i = some (i * u.size, u.size))) :
  ∀ (ps : List (Nat × Operand)) (v v' : AV) (cells : Array Value), partsK P t v (ps.map fun p => (p.1, ea p.2)) some = some v' → RepC E v cells.toList → v.named ok = true →
   ∃ cells', Instr.fill place cells (ps.map fun p => (p.1, er p.2)) = some cells' ∧ RepC E v' cells'.toList ∧ v'.named ok = true ∧ v'.isAgg = v.isAgg
 | [], v, v', cells, h, hr, hn => by
  simp [partsK] at h; subst h
  exact ⟨cells, by simp [Instr.fill], hr, hn, rfl⟩
 | (i, x) :: ps, v, v', cells, h, hr, hn => by
  simp only [List.map_cons, partsK] at h
  have step : ∀ (p : List Step) (off sz : Nat), offs p = off → (ea x).size = sz → (ea x).plain = true → place i = some (off, sz) →
    setK v p (ea x) (fun v1 => partsK P t v1 (ps.map fun p => (p.1, ea p.2)) some) = some v' →
    ∃ cells', Instr.fill place cells (((i, x) :: ps).map fun p => (p.1, er p.2)) = some cells' ∧ RepC E v' cells'.toList ∧ v'.named ok = true ∧ v'.isAgg = v.isAgg := by
   intro p off sz hoff hsz hpl' hplace hset
   rw [setK_eq] at hset
   cases hs : set v p (ea x) with
   | none => rw [hs] at hset; cases hset
   | some v1 =>
    rw [hs] at hset
    simp only [Option.bind_some] at hset
    have hx := (Rep.one hpl').1 (hev x).1
    obtain ⟨pre, ys, post, e, hl, hly, hr1, _, hag⟩ := set_sound p hs hr hx.1
    have hcs : (er x).cells.size = sz := by rw [← hsz]; simpa using hx.1.length
    have hsize : cells.size = (pre ++ ys ++ post).length := by rw [← e]; simp
    have hfit : off + (er x).cells.size ≤ cells.size := by
     rw [hsize]; simp [hl, hoff, hly]
    have e1 : cells.toList.take off = pre := by rw [e, ← hoff, ← hl, List.append_assoc, List.take_left]
    have e2 : cells.toList.drop (off + (er x).cells.size) = post := by
     have : (er x).cells.size = ys.length := by rw [hly]; simp
     rw [e, ← hoff, ← hl, this, ← List.length_append, List.drop_left]
    obtain ⟨cells', h1, h2, h3, h4⟩ := parts_sound hev hpl ps v1 v' (cells := ((er x).cells.zipIdx.foldl (fun (cs : Array Value) (p : Value × Nat) => cs.setIfInBounds (off + p.2) p.1) cells)) hset (by rw [fold_cells _ _ _ hfit, e1, e2]; exact hr1) (set_named p hs hn (hev x).2)
    refine ⟨cells', ?_, h2, h3, by rw [h4, hag]⟩
    simp only [List.map_cons, Instr.fill, hplace]
    rw [if_neg (by simp [hcs]; rw [← hcs]; exact hfit)]
    exact h1
  split at h
  ·rename_i fs hu
   split at h
   ·rename_i f hf
    split at h
    ·rename_i hfit
     obtain ⟨_, hs, hp⟩ := fitsT_spec hfit
     exact step _ f.offset _ (by simp [offs]) rfl hp ((hpl i (ea x)).1 fs f hu hf hs) h
    ·cases h
   ·cases h
  ·rename_i n e hu
   split at h
   ·rename_i sz hsz
    split at h
    ·rename_i hfit
     obtain ⟨_, hs, hp⟩ := fitsT_spec hfit
     have : sz = (ea x).size := by rw [hsz] at hs; exact Option.some.inj hs
     exact step _ (i * (ea x).size) _ (by simp [offs, this]) rfl hp ((hpl i (ea x)).2 n e hu hs) h
    ·cases h
   ·cases h
  ·cases h
theorem mapM_sized {P : Program} : ∀ (fs : List Field), (fs.all fun f => (sizeT P f.type).isSome) = true →
  fs.mapM (fun f => (P.info? f.type).map fun i => (f.offset, i.size)) = some (fs.map fun f => (f.offset, P.cellsOf f.type))
 | [], _ => by simp
 | f :: fs, h => by
  simp only [List.all_cons, Bool.and_eq_true] at h
  have ih := mapM_sized fs h.2
  cases hi : P.info? f.type with
  | none => simp [sizeT, hi] at h
  | some i =>
   simp only [List.mapM_cons, hi, Option.map_some, Option.bind_eq_bind, Option.bind_some, ih, Option.pure_def, List.map_cons]
   simp [Program.cellsOf, hi]
section
variable {cx : Cx} {G : Ini → Prop} {w0 : Ini} {E : Emb} {N : Nat} {env hp : Nat → Option AV} {a : Act} {w : World} {o : Oper}
theorem good_build (hc : CxOk cx G) (hG : G w0) (h : Rel w0 E N env hp a w) {t : TypeId} {parts : Array (Nat × Operand)} {z v : AV} (hop : o.op = .build t parts)
  (hz : zeroOK cx.P t z = true) (ha : z.isAgg = true) (hs : sizedT cx.P t = true) (hp' : partsK cx.P t z (parts.toList.map fun p => (p.1, ev cx env 0 p.2)) some = some v) :
  Good cx.P o w0 N env hp v [] a w := by
 obtain ⟨val, h1, h2, h3, h4⟩ := zeroOK_spec hz
 have hinfo : ∃ it, cx.P.info? t = some it ∧ it.zero = some val := by
  have := h1 w
  unfold zeroValue typeInfo at this
  cases hi : cx.P.info? t with
  | none => simp [hi, stuck] at this
  | some it =>
   simp only [Sem.run_bind, run_program, Result.andThen_ok, hi, Sem.run_pure] at this
   cases hzv : it.zero with
   | none => simp [hzv, unsupported] at this
   | some z' => simp [hzv] at this; exact ⟨it, rfl, by rw [hzv, this]⟩
 obtain ⟨it, hit, hzero⟩ := hinfo
 have key : ∀ place, (∀ i (u : AV), (∀ fs f, cx.P.underlying t = some (.struct fs) → fs[i]? = some f → sizeT cx.P f.type = some u.size → place i = some (f.offset, u.size)) ∧
   (∀ n e, cx.P.underlying t = some (.array n e) → sizeT cx.P e = some u.size → place i = some (i * u.size, u.size))) →
   (Instr.fill place val.cells (parts.toList.map fun p => (p.1, a.eval p.2)) = cx.P.built t (parts.toList.map fun p => (p.1, a.eval p.2))) → Good cx.P o w0 N env hp v [] a w := by
  intro place hpl hb
  obtain ⟨cells', f1, f2, f3, f4⟩ := parts_sound (ok := fun n => (hp n).isSome) (fun x => ev_sound hc hG h 0 x) hpl parts.toList z v val.cells hp' (h2 E) (h4 _)
  have hag : v.isAgg = true := by rw [f4, ha]
  refine Good.value (E' := E) (x := .agg cells') (w' := w) ?_ h ((Rep.one f2.plain).2 (by have := Rep1.of_agg hag f2; simpa using this)) f3
  have hr := run_build (P := cx.P) w t (parts.map fun p => (p.1, a.eval p.2)) cells' (by rw [Array.toList_map, ← hb]; exact f1)
  simp only [execOp, hop, Sem.run_bind, hr, Result.andThen_ok, Sem.run_pure]
 cases hu : cx.P.underlying t with
 | none => simp [sizedT, hu] at hs
 | some d =>
  cases d <;> simp [sizedT, hu] at hs
  case array n e =>
   cases hie : cx.P.info? e with
   | none => simp [sizeT, hie] at hs
   | some ie =>
    refine key (fun i => some (i * ie.size, ie.size)) (fun i u => ⟨(fun fs f h' => by rw [hu] at h'; cases h'), (fun n' e' h' hs' => ?_)⟩) ?_
    ·rw [hu] at h'; cases h'
     simp [sizeT, hie] at hs'
     rw [hs']
    ·simp [Program.built, hit, hu, hzero, hie]
  case struct fs =>
   have hm := mapM_sized (P := cx.P) fs.toList (by simpa using hs)
   refine key ((fs.toList.map fun f => (f.offset, cx.P.cellsOf f.type)).toArray[·]?) (fun i u => ⟨(fun fs' f h' hf hs' => ?_), (fun n' e' h' => by rw [hu] at h'; cases h')⟩) ?_
   ·rw [hu] at h'; cases h'
    have := sizeT_cells hs'
    simp [hf, this]
   ·simp [Program.built, hit, hu, hzero, hm]
end
end Go.Sy
