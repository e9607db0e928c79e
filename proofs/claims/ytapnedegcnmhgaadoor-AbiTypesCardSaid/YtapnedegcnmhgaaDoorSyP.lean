/- Regions: in whatever order a region that draws is run, it does what its text says. -/
import Derived.Test.YtapnedegcnmhgaaDoorSyO
set_option linter.unusedVariables false
set_option linter.unusedSimpArgs false
namespace Go.Sy
open Go Go.RowKit
noncomputable section

/-- The state as functions. -/
structure FS where
  e : Nat → Option AV
  h : Nat → Option AV

theorem FS.ext' {S T : FS} (h1 : S.e = T.e) (h2 : S.h = T.h) : S = T := by cases S; cases T; simp at h1 h2; simp [h1, h2]

def FS.put (S : FS) (dst : Option Nat) (v : AV) (δ : List (Nat × AV)) : FS := ⟨upd S.e dst v, updH S.h δ⟩

/-- One operation. -/
def stepF (cx : Cx) (gd : Option (Nat → Option AV)) (all : Array Oper) (o : Oper) (S : FS) : Option FS :=
  if dstOK cx.N o.dst then
    match guardOf all S.e o with
    | some true => (opF cx o S.e S.h).bind fun p => if callC cx all gd o S.e p.2 then some (S.put o.dst p.1 p.2) else none
    | some false => some (S.put o.dst (.tup []) [])
    | none => none
  else none

section
variable {cx : Cx} {G : Ini → Prop} {w0 : Ini} {E : Emb} {N : Nat} {env hp : Nat → Option AV} {a : Act} {w : World} {all : Array Oper}

/-- A state of functions that the model is in. -/
def RelF (w0 : Ini) (N : Nat) (S : FS) (a : Act) (w : World) : Prop := ∃ E, Rel w0 E N S.e S.h a w

theorem guard_sound (h : Rel w0 E N env hp a w) {o : Oper} {g : Bool} (hg : guardOf all env o = some g) : Region.wanted o (yielded all a.tmps) = g := by
  unfold guardOf at hg
  unfold Region.wanted
  cases hgd : o.guard with
  | none => rw [hgd] at hg; simp at hg; subst hg; rfl
  | some jw =>
    obtain ⟨j, want⟩ := jw
    rw [hgd] at hg
    simp only at hg ⊢
    split at hg
    · rename_i b hb
      simp at hg; subst hg
      obtain ⟨d, hd, he⟩ := Option.bind_eq_some_iff.1 hb
      obtain ⟨x, hx, hr⟩ := h.renv d _ he
      have hx' : x = .bool b := Rep1.bool.1 hr
      subst hx'
      have : yielded all a.tmps j = some b := by
        unfold yielded
        rw [hd]; simp [hx]
      rw [this]
      cases b <;> cases want <;> rfl
    · rename_i hb
      simp at hg; subst hg
      obtain ⟨d, hd, he⟩ := Option.bind_eq_some_iff.1 hb
      obtain ⟨x, hx, vs, hr, hv⟩ := h.renv d _ he
      have hv : vs = [] := hv
      subst hv; subst hr
      have : yielded all a.tmps j = none := by
        unfold yielded
        rw [hd]; simp [hx]
      rw [this]
      rfl
    · cases hg

theorem step_wpOp (hc : CxOk cx G) (hG : G w0) {i : Nat} {o : Oper} {S S' : FS} {gd : Option (Nat → Option AV)} (hi : all[i]? = some o) (hs : stepF cx gd all o S = some S') (h : RelF w0 cx.N S a w)
    {K : Act → World → Prop} {Q : Exit → Act → World → Prop} (hK : ∀ a' w', RelF w0 cx.N S' a' w' → K a' w') : wpOp cx.P all Q i K a w := by
  obtain ⟨E, h⟩ := h
  unfold stepF at hs
  split at hs
  · rename_i hd
    unfold wpOp
    rw [hi]
    simp only
    split at hs
    · rename_i hg
      rw [if_pos (by rw [guard_sound h hg])]
      cases hf : opF cx o S.e S.h with
      | none => rw [hf] at hs; cases hs
      | some p =>
        rw [hf] at hs
        simp at hs; obtain ⟨_, hs⟩ := hs; subst hs
        refine .inl (opF_good hc hG h (v := p.1) (δ := p.2) hf _ _ (fun E' x w' h1 h2 h3 => hK _ _ ⟨E', ?_⟩))
        exact h1.put hd h2 h3
    · rename_i hg
      rw [if_neg (by rw [guard_sound h hg]; simp)]
      simp at hs; subst hs
      exact hK _ _ ⟨E, h.put hd (v := .tup []) (x := undef) ⟨[], rfl, rfl⟩ (by simp [AV.named, AV.nameds])⟩
    · cases hs
  · cases hs

/-! ### Two operations that are apart -/

theorem upd_comm (f : Nat → Option AV) {x y : Option Nat} (v u : AV) (h : ∀ d, x = some d → y ≠ some d) : upd (upd f x v) y u = upd (upd f y u) x v := by
  cases x with
  | none => cases y <;> rfl
  | some d =>
    cases y with
    | none => rfl
    | some e =>
      have hne : d ≠ e := fun he => h d rfl (he ▸ rfl)
      funext n
      by_cases h1 : n = d <;> by_cases h2 : n = e
      · omega
      · subst h1; rw [upd_other h2, upd_same, upd_same]
      · subst h2; rw [upd_same, upd_other h1, upd_same]
      · rw [upd_other h2, upd_other h1, upd_other h1, upd_other h2]

theorem guardOf_upd {o : Oper} {f : Nat → Option AV} {d : Option Nat} {v : AV} (h : ∀ t, d = some t → t ∉ o.looksAt all) : guardOf all (upd f d v) o = guardOf all f o := by
  unfold guardOf
  cases hg : o.guard with
  | none => rfl
  | some jw =>
    obtain ⟨j, want⟩ := jw
    simp only
    have : ((all[j]?).bind (·.dst)).bind (upd f d v) = ((all[j]?).bind (·.dst)).bind f := by
      cases ht : (all[j]?).bind (·.dst) with
      | none => rfl
      | some t =>
        simp only [Option.bind_some]
        cases d with
        | none => rfl
        | some m =>
          have hne : t ≠ m := fun e => h m rfl (by subst e; simp [Oper.looksAt, hg, ht])
          rw [upd_other hne]
    rw [this]

theorem ev_upd {f : Nat → Option AV} {d : Option Nat} {v : AV} {t : TypeId} {x : Operand} (h : ∀ m, d = some m → x ≠ .tmp m) : ev cx (upd f d v) t x = ev cx f t x := by
  cases x with
  | tmp n =>
    simp only [ev]
    cases d with
    | none => rfl
    | some m =>
      have hne : n ≠ m := fun e => h m rfl (by rw [e])
      rw [upd_other hne]
  | _ => rfl

theorem bound_upd {β : Type} {f : Nat → Option AV} {d : Option Nat} {v : AV} {x : Option Operand} {m n : Nat} {k : Nat → Option β} (h : ∀ t, d = some t → ∀ y, x = some y → y ≠ .tmp t) :
    boundK cx (upd f d v) x m n k = boundK cx f x m n k := by
  unfold boundK
  cases x with
  | none => rfl
  | some y => simp only; rw [ev_upd fun t ht => h t ht y rfl]

theorem callC_upd {o : Oper} {gd : Option (Nat → Option AV)} {f : Nat → Option AV} {d : Option Nat} {v : AV} {δ : List (Nat × AV)} (h : ∀ t, d = some t → t ∉ o.looksAt all) : callC cx all gd o (upd f d v) δ = callC cx all gd o f δ := by
  unfold callC
  cases gd with
  | none => rfl
  | some g =>
    simp only
    congr 1
    unfold loadC
    cases hop : o.op <;> try rfl
    rename_i t x
    cases x <;> try rfl
    rename_i n
    have : upd f d v n = f n := by
      cases d with
      | none => rfl
      | some m =>
        refine upd_other fun e => ?_
        subst e
        exact h n rfl (List.mem_append_left _ (List.mem_filterMap.2 ⟨.tmp n, by simp [hop, Op.operands], rfl⟩))
    simp only [this]

theorem opF_upd {o : Oper} {f hp : Nat → Option AV} {d : Option Nat} {v : AV} (h : ∀ t, d = some t → t ∉ o.looksAt all) : opF cx o (upd f d v) hp = opF cx o f hp := by
  have hx : ∀ x ∈ o.op.operands, ∀ t, ev cx (upd f d v) t x = ev cx f t x := fun x hx t => ev_upd fun m hm hxm => h m hm (by
    subst hxm
    exact List.mem_append_left _ (List.mem_filterMap.2 ⟨.tmp m, by simpa using hx, rfl⟩))
  unfold opF opK
  cases hop : o.op with
  | move x => simp only []; rw [hx x (by simp [hop, Op.operands])]
  | assign x => simp only []; rw [hx x (by simp [hop, Op.operands])]
  | pick c x y => simp only []; rw [hx c (by simp [hop, Op.operands]), hx x (by simp [hop, Op.operands]), hx y (by simp [hop, Op.operands])]
  | alloc t => rfl
  | box t x => simp only []; rw [hx x (by simp [hop, Op.operands])]
  | build t parts =>
    simp only []
    have : (parts.toList.map fun p => (p.1, ev cx (upd f d v) 0 p.2)) = parts.toList.map fun p => (p.1, ev cx f 0 p.2) :=
      List.map_congr_left fun p hp => by rw [hx p.2 (by simp only [hop, Op.operands]; simp; exact ⟨p.1, by simpa using hp⟩)]
    rw [this]
  | buildSlice t n parts =>
    simp only []
    have : ∀ e, (parts.toList.map fun p => (p.1, ev cx (upd f d v) e p.2)) = parts.toList.map fun p => (p.1, ev cx f e p.2) := fun e =>
      List.map_congr_left fun p hp => by rw [hx p.2 (by simp only [hop, Op.operands]; simp; exact ⟨p.1, by simpa using hp⟩)]
    simp only [this]
  | makeSlice t x y => simp only []; rw [hx x (by simp [hop, Op.operands]), hx y (by simp [hop, Op.operands])]
  | load t x => simp only []; rw [hx x (by simp [hop, Op.operands])]
  | store t x y => simp only []; rw [hx x (by simp [hop, Op.operands]), hx y (by simp [hop, Op.operands])]
  | nilCheck x => simp only []; rw [hx x (by simp [hop, Op.operands])]
  | binOp op t x y yt => simp only []; rw [hx x (by simp [hop, Op.operands]), hx y (by simp [hop, Op.operands])]
  | unOp op t x => simp only []; rw [hx x (by simp [hop, Op.operands])]
  | convert s e x => simp only []; rw [hx x (by simp [hop, Op.operands])]
  | fieldAddr s x i => simp only []; rw [hx x (by simp [hop, Op.operands])]
  | field t x i => simp only []; rw [hx x (by simp [hop, Op.operands])]
  | indexAddr t x i => simp only []; rw [hx x (by simp [hop, Op.operands]), hx i (by simp [hop, Op.operands])]
  | index t x i => simp only []; rw [hx x (by simp [hop, Op.operands]), hx i (by simp [hop, Op.operands])]
  | extract x i => simp only []; rw [hx x (by simp [hop, Op.operands])]
  | slice t x lo hi mx =>
    cases mx with
    | some _ => rfl
    | none =>
      have hb : ∀ (y : Option Operand), (∀ z, y = some z → z ∈ o.op.operands) → ∀ {β : Type} (m n : Nat) (k : Nat → Option β), boundK cx (upd f d v) y m n k = boundK cx f y m n k :=
        fun y hy β m n k => by
          cases y with
          | none => rfl
          | some z => unfold boundK; simp only; rw [hx z (hy z rfl)]
      simp only []
      rw [hx x (by simp [hop, Op.operands])]
      have hlo := hb lo (fun z hz => by subst hz; simp [hop, Op.operands]) (β := AV × List (Nat × AV))
      have hhi := hb hi (fun z hz => by subst hz; simp [hop, Op.operands]) (β := AV × List (Nat × AV))
      simp only [hlo, hhi]
  | makeInterface t x => simp only []; rw [hx x (by simp [hop, Op.operands])]
  | typeAssert x s t c => cases c <;> simp only [] <;> rw [hx x (by simp [hop, Op.operands])]
  | makeFunc fn first caps =>
    have : caps.toList.map (ev cx (upd f d v) 0) = caps.toList.map (ev cx f 0) :=
      List.map_congr_left fun x hx' => hx x (by simp only [hop, Op.operands]; simp; exact .inr (by simpa using hx')) 0
    cases fn <;> simp only [this]
  | call c =>
    simp only []
    have hz : (c.args.toList.zipIdx.map fun p => ev cx (upd f d v) (c.argTypes.getD p.2 0) p.1) = c.args.toList.zipIdx.map fun p => ev cx f (c.argTypes.getD p.2 0) p.1 :=
      List.map_congr_left fun p hp => by
        rw [hx p.1 (by
          have := List.mem_zipIdx' hp
          simp only [hop, Op.operands, Call.operands]
          simp; right
          obtain ⟨h1, h2⟩ := this
          rw [h2]; simp)]
    cases hcal : c.callee with
    | value g =>
      simp only []
      rw [hx g (by simp [hop, Op.operands, Call.operands, hcal]), hz]
    | invoke r m => rfl
    | builtin b =>
      have : (c.args.toList.map (ev cx (upd f d v) 0)) = c.args.toList.map (ev cx f 0) :=
        List.map_congr_left fun x hx' => hx x (by simp only [hop, Op.operands, Call.operands, hcal]; simpa using hx') 0
      cases b <;> simp only [this, hz]
  | _ => rfl
end
end
end Go.Sy
