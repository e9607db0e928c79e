/- The relation between the symbolic state and the model's; memory that is made and written. -/
import Derived.Test.YtmbcolalfgepiaaDoorSyD
set_option linter.unusedVariables false
set_option linter.unusedSimpArgs false
namespace Go.Sy
open Go Go.RowKit

structure Rel (w0 : World) (E : Emb) (N : Nat) (env hp : Nat → Option AV) (a : Act) (w : World) : Prop where
  size : a.tmps.size = N
  defers : a.defers = []
  renv : ∀ s v, env s = some v → ∃ x, a.tmps[s]? = some x ∧ Rep E v x
  rheap : ∀ n c, hp n = some c → ∃ xs T, w.heap[E.ρ n]? = some (.cells xs T (0, 0)) ∧ RepC E c xs.toList ∧ E.imm (E.ρ n) = none
  inj : ∀ n m, (hp n).isSome = true → (hp m).isSome = true → E.ρ n = E.ρ m → n = m
  imm : ∀ b o, E.imm b = some o → w.heap[b]? = some o
  base : E.base = w0.heap.size
  imm0 : ∀ b o, w0.heap[b]? = some o → E.imm b = some o
  below : Below w0.heap.size w0 w
  senv : ∀ s v, env s = some v → v.named (fun n => (hp n).isSome) = true
  shp : ∀ n c, hp n = some c → c.named (fun n => (hp n).isSome) = true

def upd (f : Nat → Option AV) (d : Option Nat) (v : AV) : Nat → Option AV := fun n => match d with
  | some m => cond (Nat.beq n m) (some v) (f n)
  | none => f n
def updH (f : Nat → Option AV) (δ : Option (Nat × AV)) : Nat → Option AV := fun n => match δ with
  | some (m, c) => cond (Nat.beq n m) (some c) (f n)
  | none => f n

theorem beq_no {n d : Nat} (h : n ≠ d) : Nat.beq n d = false := by
  cases hb : Nat.beq n d
  · rfl
  · exact absurd (Nat.eq_of_beq_eq_true hb) h

theorem upd_same {f : Nat → Option AV} {d : Nat} {v : AV} : upd f (some d) v d = some v := by simp [upd]
theorem upd_other {f : Nat → Option AV} {d n : Nat} {v : AV} (h : n ≠ d) : upd f (some d) v n = f n := by
  have : Nat.beq n d = false := beq_no h
  simp [upd, this]
theorem updH_none {f : Nat → Option AV} : updH f none = f := rfl
theorem updH_same {f : Nat → Option AV} {d : Nat} {v : AV} : updH f (some (d, v)) d = some v := by simp [updH]
theorem updH_other {f : Nat → Option AV} {d n : Nat} {v : AV} (h : n ≠ d) : updH f (some (d, v)) n = f n := by
  have : Nat.beq n d = false := beq_no h
  simp [updH, this]

theorem Rel.put {w0 : World} {E : Emb} {N : Nat} {env hp : Nat → Option AV} {a : Act} {w : World} (h : Rel w0 E N env hp a w) {dst : Option Nat} (hd : dstOK N dst = true)
    {v : AV} {x : Value} (hv : Rep E v x) (hn : v.named (fun n => (hp n).isSome) = true) : Rel w0 E N (upd env dst v) hp (a.put dst x) w := by
  cases dst with
  | none => exact { h with renv := h.renv, senv := h.senv }
  | some d =>
    have hd' : d < N := by simpa [dstOK] using hd
    refine { h with size := by simp [Act.put, h.size], defers := h.defers, renv := fun s u hs => ?_, senv := fun s u hs => ?_ }
    · by_cases e : s = d
      · subst e
        rw [upd_same] at hs
        cases hs
        exact ⟨x, by simp [Act.put, h.size, hd'], hv⟩
      · rw [upd_other e] at hs
        obtain ⟨y, hy, hr⟩ := h.renv s u hs
        exact ⟨y, by simp only [Act.put]; rw [Array.getElem?_setIfInBounds_ne (Ne.symm e)]; exact hy, hr⟩
    · by_cases e : s = d
      · subst e; rw [upd_same] at hs; cases hs; exact hn
      · rw [upd_other e] at hs; exact h.senv s u hs

/-- A new block of the call's own. -/
theorem Rel.alloc {w0 : World} {E : Emb} {N : Nat} {env hp : Nat → Option AV} {a : Act} {w : World} (h : Rel w0 E N env hp a w) {d : Nat} (hd : hp d = none)
    {c : AV} {xs : Array Value} {T : TypeId} (hc : RepC E c xs.toList) (hn : c.named (fun n => (hp n).isSome) = true) :
    ∃ E', E'.ρ d = w.heap.size ∧ E.Le E' (fun n => (hp n).isSome) ∧ Rel w0 E' N env (updH hp (some (d, c))) a { w with heap := w.heap.push (.cells xs T (0, 0)) } := by
  let E' : Emb := { E with ρ := fun n => if n = d then w.heap.size else E.ρ n }
  have hle : E.Le E' (fun n => (hp n).isSome) := ⟨fun n hn => by
    have : n ≠ d := fun e => by subst e; simp [hd] at hn
    simp [E', this], fun _ _ h => h, Nat.le_refl _⟩
  have hlt : ∀ n c, hp n = some c → E.ρ n < w.heap.size := fun n c hc => by
    obtain ⟨xs, T, hx, _⟩ := h.rheap n c hc
    rcases Nat.lt_or_ge (E.ρ n) w.heap.size with h' | h'
    · exact h'
    · simp [Array.getElem?_eq_none h'] at hx
  have hsome : ∀ n, (hp n).isSome = true → ((updH hp (some (d, c))) n).isSome = true := fun n hn => by
    by_cases e : n = d
    · subst e; simp [updH_same]
    · rw [updH_other e]; exact hn
  have himm : ∀ b o, E.imm b = some o → b < w.heap.size := fun b o hb => by
    have := h.imm b o hb
    rcases Nat.lt_or_ge b w.heap.size with h' | h'
    · exact h'
    · simp [Array.getElem?_eq_none h'] at this
  refine ⟨E', by simp [E'], hle, ?_⟩
  refine { size := h.size, defers := h.defers, renv := ?_, rheap := ?_, inj := ?_, imm := ?_, base := h.base, imm0 := h.imm0, below := ?_, senv := ?_, shp := ?_ }
  · intro s v hs
    obtain ⟨x, hx, hr⟩ := h.renv s v hs
    exact ⟨x, hx, hr.mono hle (h.senv s v hs)⟩
  · intro n c' hc'
    by_cases e : n = d
    · subst e
      rw [updH_same] at hc'
      cases hc'
      refine ⟨xs, T, by simp [E'], hc.mono hle hn, ?_⟩
      simp only [E', if_true]
      cases hi : E.imm w.heap.size with
      | none => rfl
      | some o => exact absurd (himm _ _ hi) (by omega)
    · rw [updH_other e] at hc'
      obtain ⟨ys, T', hx, hr, hi⟩ := h.rheap n c' hc'
      have hl := hlt n c' hc'
      refine ⟨ys, T', ?_, hr.mono hle (h.shp n c' hc'), by simpa [E', e] using hi⟩
      simp only [E', if_neg e]
      rw [Array.getElem?_push, if_neg (by omega)]
      exact hx
  · intro n m hn hm e
    by_cases e1 : n = d <;> by_cases e2 : m = d
    · rw [e1, e2]
    · subst e1
      rw [updH_other e2] at hm
      obtain ⟨c', hc'⟩ := Option.isSome_iff_exists.1 hm
      have := hlt m c' hc'
      simp only [E', if_true, if_neg e2] at e
      omega
    · subst e2
      rw [updH_other e1] at hn
      obtain ⟨c', hc'⟩ := Option.isSome_iff_exists.1 hn
      have := hlt n c' hc'
      simp only [E', if_true, if_neg e1] at e
      omega
    · rw [updH_other e1] at hn
      rw [updH_other e2] at hm
      simp only [E', if_neg e1, if_neg e2] at e
      exact h.inj n m hn hm e
  · intro b o hb
    have hl := himm b o hb
    rw [Array.getElem?_push, if_neg (by omega)]
    exact h.imm b o hb
  · exact h.below.trans ⟨rfl, rfl, rfl, by simp, fun k hk => by rw [Array.getElem?_push, if_neg (by have := h.below.size; omega)]⟩
  · intro s v hs
    exact AV.named_mono hsome (h.senv s v hs)
  · intro n c' hc'
    by_cases e : n = d
    · subst e; rw [updH_same] at hc'; cases hc'; exact AV.named_mono hsome hn
    · rw [updH_other e] at hc'; exact AV.named_mono hsome (h.shp n c' hc')

/-- A block of the call's own is written. -/
theorem Rel.write {w0 : World} {E : Emb} {N : Nat} {env hp : Nat → Option AV} {a : Act} {w : World} (h : Rel w0 E N env hp a w) {d : Nat} {c c' : AV} (hd : hp d = some c)
    {ys : Array Value} (hc : RepC E c' ys.toList) (hn : c'.named (fun n => (hp n).isSome) = true) :
    Rel w0 E N env (updH hp (some (d, c'))) a (w.setRow (E.ρ d) ys) := by
  obtain ⟨xs, T, hx, hr, hi⟩ := h.rheap d c hd
  have hsome : (fun n => ((updH hp (some (d, c'))) n).isSome) = (fun n => (hp n).isSome) := by
    funext n
    by_cases e : n = d
    · subst e; simp [updH_same, hd]
    · rw [updH_other e]
  have hne : ∀ b o, E.imm b = some o → b ≠ E.ρ d := fun b o hb e => by subst e; rw [hi] at hb; cases hb
  have hbase : ∀ k, k < w0.heap.size → k ≠ E.ρ d := fun k hk e => by
    subst e
    have := h.imm0 _ _ (Array.getElem?_eq_getElem hk)
    rw [hi] at this; cases this
  refine { h with rheap := ?_, inj := ?_, imm := ?_, below := ?_, senv := ?_, shp := ?_ }
  · intro n u hu
    by_cases e : n = d
    · subst e
      rw [updH_same] at hu; cases hu
      exact ⟨ys, T, setRow_heap w _ _ _ _ _ hx, hc, hi⟩
    · rw [updH_other e] at hu
      obtain ⟨zs, T', hz, hr', hi'⟩ := h.rheap n u hu
      refine ⟨zs, T', ?_, hr', hi'⟩
      rw [setRow_other]
      · exact hz
      · intro e'
        exact e (h.inj n d (by simp [hu]) (by simp [hd]) e')
  · intro n m hn hm e
    have h1 := congrFun hsome n
    have h2 := congrFun hsome m
    exact h.inj n m (by rw [← h1]; exact hn) (by rw [← h2]; exact hm) e
  · intro b o hb
    rw [setRow_other _ _ _ _ (hne b o hb)]
    exact h.imm b o hb
  · exact h.below.trans ⟨rfl, rfl, rfl, by simp, fun k hk => by rw [setRow_other _ _ _ _ (hbase k hk)]⟩
  · intro s v hs; rw [hsome]; exact h.senv s v hs
  · intro n u hu
    rw [hsome]
    by_cases e : n = d
    · subst e; rw [updH_same] at hu; cases hu; exact hn
    · rw [updH_other e] at hu; exact h.shp n u hu

/-- Other memory grows (a call has made some), and what stays may grow with it. -/
theorem Rel.grow {w0 : World} {E : Emb} {N : Nat} {env hp : Nat → Option AV} {a : Act} {w w' : World} (h : Rel w0 E N env hp a w) (hb : Below w.heap.size w w') :
    ∃ E', E.Le E' (fun _ => true) ∧ (∀ b o, w.heap.size ≤ b → w'.heap[b]? = some o → E'.imm b = some o) ∧ Rel w0 E' N env hp a w' := by
  let E' : Emb := { E with imm := fun b => if w.heap.size ≤ b then w'.heap[b]? else E.imm b }
  have himm : ∀ b o, E.imm b = some o → b < w.heap.size := fun b o hb => by
    have := h.imm b o hb
    rcases Nat.lt_or_ge b w.heap.size with h' | h'
    · exact h'
    · simp [Array.getElem?_eq_none h'] at this
  have hle : ∀ ok, E.Le E' ok := fun ok => ⟨fun _ _ => rfl, fun b o hb => by
    have := himm b o hb
    simp only [E']; rw [if_neg (by omega)]; exact hb, Nat.le_refl _⟩
  have hlt : ∀ n c, hp n = some c → E.ρ n < w.heap.size := fun n c hc => by
    obtain ⟨xs, T, hx, _⟩ := h.rheap n c hc
    rcases Nat.lt_or_ge (E.ρ n) w.heap.size with h' | h'
    · exact h'
    · simp [Array.getElem?_eq_none h'] at hx
  refine ⟨E', hle _, fun b o hb' ho => by simp only [E']; rw [if_pos hb']; exact ho, ?_⟩
  refine { size := h.size, defers := h.defers, renv := ?_, rheap := ?_, inj := h.inj, imm := ?_, base := h.base, imm0 := ?_, below := ?_, senv := h.senv, shp := h.shp }
  · intro s v hs
    obtain ⟨x, hx, hr⟩ := h.renv s v hs
    exact ⟨x, hx, hr.mono (hle _) (h.senv s v hs)⟩
  · intro n c hc
    obtain ⟨xs, T, hx, hr, hi⟩ := h.rheap n c hc
    have hl := hlt n c hc
    refine ⟨xs, T, ?_, hr.mono (hle _) (h.shp n c hc), ?_⟩
    · rw [hb.block _ hl]; exact hx
    · simp only [E']; rw [if_neg (by omega)]; exact hi
  · intro b o ho
    simp only [E'] at ho
    split at ho
    · exact ho
    · rw [hb.block b (by omega)]; exact h.imm b o ho
  · intro b o ho
    exact (hle (fun _ => true)).imm _ _ (h.imm0 b o ho)
  · exact h.below.trans (hb.mono h.below.size)

/-- One draw. -/
theorem Rel.drew {w0 : World} {E : Emb} {N : Nat} {env hp : Nat → Option AV} {a : Act} {w : World} (h : Rel w0 E N env hp a w) : Rel w0 E N env hp a { w with drawn := w.drawn + 1 } :=
  { h with rheap := h.rheap, imm := h.imm, below := ⟨h.below.os, h.below.tape, h.below.output, h.below.size, h.below.block⟩ }
end Go.Sy
